/- The walks of the functions that FnExactBodyEnd reaches: what each computes, as a plain function (M_..), and that the model computes it (ok_..). Condition of each: that the plain function answers. -/
import Derived.Test.YtmgjbhlcejcjeaaDoorEngB
import Derived.Test.YtmgjbhlcejcjeaaDoorChecked
import Derived.Lib.Strings
import Derived.Lib.Slices
import Derived.Lib.Walk
import Derived.Lib.Bytealg
set_option linter.unusedVariables false
set_option linter.unusedSimpArgs false
namespace Go.Proofs

set_option maxHeartbeats 1000000 in
set_option maxRecDepth 100000 in
/-- internal/stringslite.IndexByte (what strings.IndexByte calls): IT RETURNS 'Lib.indexByte s c'; the world is as it was. -/
theorem Tryd.stringslite_IndexByte (s : ByteArray) (c : Int) (w : World) :
    Calls Tryd.prog 27 #[.string s, .int .u8 c] w fun e w' => e = .returned (.int .i64 (Lib.indexByte s.data.toList c.toNat.toUInt8)) ∧ w' = w := by
  go_enter Tryd.func27, Tryd.ntmps27
  go_wp2
  rw [run_callFunc_extern Tryd.func34 (by kernel_rfl) (by kernel_rfl) (by kernel_rfl) (e := Extern.BytealgIndexByte.indexByte) (by kernel_rfl), Lib.run_indexByteString]
  simp only [Result.andThen]
  rw [Oper.upon_value]
  go_wp2
  go_ret
  exact ⟨rfl, rfl⟩

end Go.Proofs

namespace Go.Proofs

set_option maxHeartbeats 1000000 in
/-- strings.IndexByte: "IndexByte returns the index of the first instance of c in s, or -1 if c is not present in s.": IT RETURNS 'Lib.indexByte s c'; the world is as it was. -/
theorem Tryd.strings_IndexByte (s : ByteArray) (c : Int) (w : World) :
    Calls Tryd.prog 22 #[.string s, .int .u8 c] w fun e w' => e = .returned (.int .i64 (Lib.indexByte s.data.toList c.toNat.toUInt8)) ∧ w' = w := by
  go_enter Tryd.func22, Tryd.ntmps22
  go_wp2_with (go_at_call 27; refine (Tryd.stringslite_IndexByte _ _ _).mono ?_; rintro e w' ⟨rfl, rfl⟩)
  go_ret
  exact ⟨rfl, rfl⟩

end Go.Proofs

namespace Go.Eng
open Go Go.Proofs
noncomputable section

def TTx : TT := [
  (2, ⟨.int .i64, 1, 8, [.int .i64 0]⟩),
  (3, ⟨.int .i64, 1, 8, [.int .i64 0]⟩),
  (4, ⟨.bool, 1, 1, [.bool false]⟩),
  (5, ⟨.int .u8, 1, 1, [.int .u8 0]⟩),
  (6, ⟨.int .u8, 1, 1, [.int .u8 0]⟩),
  (7, ⟨.struct [(0, 2), (1, 3), (2, 4), (3, 6)], 4, 24, [.int .i64 0, .int .i64 0, .bool false, .int .u8 0]⟩),
  (8, ⟨.struct [(0, 2), (1, 3), (2, 4), (3, 6)], 4, 24, [.int .i64 0, .int .i64 0, .bool false, .int .u8 0]⟩),
  (9, ⟨.str, 1, 16, [.string ByteArray.empty]⟩),
  (10, ⟨.str, 1, 16, [.string ByteArray.empty]⟩),
  (11, ⟨.str, 1, 16, [.string ByteArray.empty]⟩),
  (12, ⟨.int .u64, 1, 8, [.int .u64 0]⟩),
  (13, ⟨.struct [(0, 9), (1, 12)], 2, 24, [.string ByteArray.empty, .int .u64 0]⟩),
  (14, ⟨.struct [(0, 9), (1, 12)], 2, 24, [.string ByteArray.empty, .int .u64 0]⟩),
  (21, ⟨.int .i32, 1, 4, [.int .i32 0]⟩),
  (28, ⟨.slice 9, 1, 24, [.slice none 0 0]⟩),
  (52, ⟨.int .u64, 1, 8, [.int .u64 0]⟩),
  (53, ⟨.struct [(0, 5), (1, 5)], 2, 2, [.int .u8 0, .int .u8 0]⟩),
  (54, ⟨.struct [(0, 5), (1, 5)], 2, 2, [.int .u8 0, .int .u8 0]⟩),
  (58, ⟨.int .u32, 1, 4, [.int .u32 0]⟩),
  (68, ⟨.int .u8, 1, 1, [.int .u8 0]⟩),
  (69, ⟨.int .u8, 1, 1, [.int .u8 0]⟩),
  (72, ⟨.int .i32, 1, 4, [.int .i32 0]⟩),
  (73, ⟨.int .i32, 1, 4, [.int .i32 0]⟩)]

set_option maxRecDepth 100000 in
theorem ttOk : TTok Tryd.prog TTx := TTok.of (by
  simp only [TTx, List.forall_mem_cons]
  exact ⟨⟨⟨_, _, rfl, rfl, rfl, rfl, rfl⟩, rfl⟩, ⟨⟨_, _, rfl, rfl, rfl, rfl, rfl⟩, rfl⟩, ⟨⟨_, _, rfl, rfl, rfl, rfl, rfl⟩, rfl⟩, ⟨⟨_, _, rfl, rfl, rfl, rfl, rfl⟩, rfl⟩, ⟨⟨_, _, rfl, rfl, rfl, rfl, rfl⟩, rfl⟩, ⟨⟨_, _, rfl, rfl, rfl, rfl, rfl⟩, ⟨_, rfl, rfl⟩⟩, ⟨⟨_, _, rfl, rfl, rfl, rfl, rfl⟩, ⟨_, rfl, rfl⟩⟩, ⟨⟨_, _, rfl, rfl, rfl, rfl, rfl⟩, rfl⟩, ⟨⟨_, _, rfl, rfl, rfl, rfl, rfl⟩, rfl⟩, ⟨⟨_, _, rfl, rfl, rfl, rfl, rfl⟩, rfl⟩, ⟨⟨_, _, rfl, rfl, rfl, rfl, rfl⟩, rfl⟩, ⟨⟨_, _, rfl, rfl, rfl, rfl, rfl⟩, ⟨_, rfl, rfl⟩⟩, ⟨⟨_, _, rfl, rfl, rfl, rfl, rfl⟩, ⟨_, rfl, rfl⟩⟩, ⟨⟨_, _, rfl, rfl, rfl, rfl, rfl⟩, rfl⟩, ⟨⟨_, _, rfl, rfl, rfl, rfl, rfl⟩, rfl⟩, ⟨⟨_, _, rfl, rfl, rfl, rfl, rfl⟩, rfl⟩, ⟨⟨_, _, rfl, rfl, rfl, rfl, rfl⟩, ⟨_, rfl, rfl⟩⟩, ⟨⟨_, _, rfl, rfl, rfl, rfl, rfl⟩, ⟨_, rfl, rfl⟩⟩, ⟨⟨_, _, rfl, rfl, rfl, rfl, rfl⟩, rfl⟩, ⟨⟨_, _, rfl, rfl, rfl, rfl, rfl⟩, rfl⟩, ⟨⟨_, _, rfl, rfl, rfl, rfl, rfl⟩, rfl⟩, ⟨⟨_, _, rfl, rfl, rfl, rfl, rfl⟩, rfl⟩, ⟨⟨_, _, rfl, rfl, rfl, rfl, rfl⟩, rfl⟩, by simp⟩)

def M_s_l08Clamp (x0 : Int) (x1 : Int) : Option Int :=
  (bif (decide (x0 < 0)) then
  some 0
  else
  (bif (decide (x1 < x0)) then
  some x1
  else
  some x0))

theorem ok_s_l08Clamp (x0 : Int) (x1 : Int) (r : Int) (h : M_s_l08Clamp x0 x1 = some r) :
    FC Tryd.prog 20 [.int .i64 x0, .int .i64 x1] [] (fun _ : Unit => True) (fun _ => .int .i64 r) (fun _ => []) :=
  by
    refine FC.of (T := TTx) Tryd.call20 Tryd.func20 rfl rfl fun w0 => ?_
    unfold M_s_l08Clamp at h
    refine JS.seq ?_
    refine JS.region ?_
    refine JO.reg ttOk 1 [] [] [] _ rfl ⟨trivial, rfl⟩ ?_
    refine JO.done rfl ?_
    refine JS.seq ?_
    refine JS.seq ?_
    refine JS.region ?_
    refine JO.reg ttOk 2 [] [] [(6, .v (.bool (decide (x0 < 0))))] _ rfl ⟨⟨rfl, trivial⟩, rfl⟩ ?_
    refine JO.done rfl ?_
    refine JS.cond rfl (fun ht6 => ?_) (fun ht6 => ?_)
    · have h := condT h ht6
      refine JS.seq ?_
      refine JS.region ?_
      refine JO.reg ttOk 1 [] [] [(4, .v (.int .i64 0))] _ rfl ⟨⟨rfl, trivial⟩, rfl⟩ ?_
      refine JO.done rfl ?_
      cases h
      exact JS.ret ttOk () trivial rfl rfl [] rfl
    · have h := condF h ht6
      refine JS.skip ?_
      refine JS.seq ?_
      refine JS.seq ?_
      refine JS.region ?_
      refine JO.reg ttOk 3 [] [] [(9, .v (.bool (decide (x1 < x0))))] _ rfl ⟨⟨rfl, trivial⟩, rfl⟩ ?_
      refine JO.done rfl ?_
      refine JS.cond rfl (fun ht5 => ?_) (fun ht5 => ?_)
      · have h := condT h ht5
        refine JS.seq ?_
        refine JS.region ?_
        refine JO.reg ttOk 2 [] [] [(4, .v (.int .i64 x1))] _ rfl ⟨⟨rfl, trivial⟩, rfl⟩ ?_
        refine JO.done rfl ?_
        cases h
        exact JS.ret ttOk () trivial rfl rfl [] rfl
      · have h := condF h ht5
        refine JS.skip ?_
        refine JS.seq ?_
        refine JS.region ?_
        refine JO.reg ttOk 2 [] [] [(4, .v (.int .i64 x0))] _ rfl ⟨⟨rfl, trivial⟩, rfl⟩ ?_
        refine JO.done rfl ?_
        cases h
        exact JS.ret ttOk () trivial rfl rfl [] rfl

def M_s_BodyEnd_L1 (x0 : List UInt8) (j17 : Int → Option Int) (k12 : Int → Option Int) : Int → Option Int := fun x8 =>
  (guardO (((decide (x8 < (x0.length : Int))) = true) → 0 ≤ x8 ∧ x8 < (x0.length : Int)) <|
  (bif (bif (decide (x8 < (x0.length : Int))) then (!(decide (((at' x0 x8).toNat : Int) = (10 : Int)))) else false) then
  k12 (W (x8 + 1))
  else
  j17 x8))

def M_s_BodyEnd_L2 (x0 : List UInt8) (x3 : Bool) (x16 : Int) (j29 : Int → Option Int) (k24 : Int → Option Int) : Int → Option Int := fun x20 =>
  (guardO (((bif x3 then (decide (x20 < x16)) else false) = true) → 0 ≤ x20 ∧ x20 < (x0.length : Int)) <|
  (bif (bif (bif x3 then (decide (x20 < x16)) else false) then (decide (((at' x0 x20).toNat : Int) = (9 : Int))) else false) then
  k24 (W (x20 + 1))
  else
  j29 x20))

def M_s_BodyEnd_L3 (x0 : List UInt8) (x2 : List UInt8) (x3 : Bool) (j67 : Unit → Option Int) (k54 : Int → Option Int) : Int → Option Int := fun x7 =>
  (bif (decide (x7 < (x0.length : Int))) then
  (joinO (fun (x41 : Int) =>
  k54 x41) fun j42 =>
  (joinO (fun (x16 : Int) =>
  (joinO (fun (x28 : Int) =>
  (joinO (fun (x33 : Int) =>
  (guardO (0 ≤ x28 ∧ x28 ≤ x16 ∧ x16 ≤ (x0.length : Int)) <|
  (bif (decide ((sub' x0 x28 x16) = x2)) then
  some x33
  else
  j42 x33))) fun j34 =>
  (bif (decide (x16 < (x0.length : Int))) then
  j34 (W (x16 + 1))
  else
  j34 x16))) fun j29 =>
  (fixF (M_s_BodyEnd_L2 x0 x3 x16 j29) FUEL x7))) fun j17 =>
  (fixF (M_s_BodyEnd_L1 x0 j17) FUEL x7)))
  else
  j67 ())

def M_s_BodyEnd (x0 : List UInt8) (x1 : Int) (x2 : List UInt8) (x3 : Bool) : Option Int :=
  (bindO (M_s_l08Clamp x1 (x0.length : Int)) fun (y5 : Int) =>
  (joinO (fun (_ : Unit) =>
  some (-1)) fun j67 =>
  (fixF (M_s_BodyEnd_L3 x0 x2 x3 j67) FUEL y5)))

theorem ok_s_BodyEnd (x0 : List UInt8) (x1 : Int) (x2 : List UInt8) (x3 : Bool) (r : Int) (h : M_s_BodyEnd x0 x1 x2 x3 = some r) :
    FC Tryd.prog 14 [.string (bs x0), .int .i64 x1, .string (bs x2), .bool x3] [] (fun _ : Unit => True) (fun _ => .int .i64 r) (fun _ => []) :=
  by
    refine FC.of (T := TTx) Tryd.call14 Tryd.func14 rfl rfl fun w0 => ?_
    unfold M_s_BodyEnd at h
    refine JS.seq ?_
    refine JS.region ?_
    refine JO.reg ttOk 1 [] [] [] _ rfl ⟨trivial, rfl⟩ ?_
    refine JO.done rfl ?_
    refine JS.seq ?_
    refine JS.region ?_
    refine JO.reg ttOk 3 [] [] [(13, .v (.int .i64 x1)), (15, .v (.int .i64 (x0.length : Int)))] _ rfl ⟨⟨rfl, rfl, trivial⟩, rfl⟩ ?_
    obtain ⟨y5, hy6, h⟩ := bindO_some h
    refine JO.call rfl rfl rfl rfl (ok_s_l08Clamp x1 (x0.length : Int) _ hy6) rfl [] rfl rfl ?_
    intro _ _
    refine JO.reg ttOk 1 [] [] [(9, .v (.int .i64 y5))] _ rfl ⟨⟨rfl, trivial⟩, rfl⟩ ?_
    refine JO.done rfl ?_
    refine JS.seq ?_
    obtain ⟨j67, hj91, h⟩ := joinO_some h
    refine JS.blockJ (ι := Unit) ⟨fun _ => j67 () = some r, fun _ => [], fun _ => .nil, fun _ => [], fun _ => [], fun _ => 0⟩ ?_ ?_
    · refine JS.loop (ι := Nat × Int) ⟨fun z => fixF (M_s_BodyEnd_L3 x0 x2 x3 j67) z.1 z.2 = some r, fun z => [(0, .v (.string (bs x0))), (2, .v (.string (bs x2))), (3, .v (.bool x3)), (9, .v (.int .i64 z.2))], fun z => .nil, fun z => [], fun z => [], fun z => z.1⟩ (FUEL, y5) h ⟨rfl, rfl, rfl, rfl, trivial⟩ trivial [] rfl [] rfl ?_
      rintro ⟨n55, x7⟩ h
      obtain ⟨n55, rfl, h⟩ := fixF_some h
      rw [M_s_BodyEnd_L3] at h
      refine JS.seq ?_
      refine JS.seq ?_
      refine JS.region ?_
      refine JO.reg ttOk 4 [] [] [(20, .v (.bool (decide (x7 < (x0.length : Int)))))] _ rfl ⟨⟨rfl, trivial⟩, rfl⟩ ?_
      refine JO.done rfl ?_
      refine JS.cond rfl (fun ht90 => ?_) (fun ht90 => ?_)
      · have h := condT h ht90
        refine JS.skip ?_
        obtain ⟨j42, hj89, h⟩ := joinO_some h
        refine JS.blockJ (ι := Int) ⟨fun z => j42 z = some r, fun z => [(0, .v (.string (bs x0))), (2, .v (.string (bs x2))), (3, .v (.bool x3)), (9, .v (.int .i64 z))], fun z => .nil, fun z => [], fun z => [], fun z => 0⟩ ?_ ?_
        · refine JS.seq ?_
          refine JS.region ?_
          refine JO.reg ttOk 2 [] [] [(10, .v (.int .i64 x7))] _ rfl ⟨⟨rfl, trivial⟩, rfl⟩ ?_
          refine JO.done rfl ?_
          refine JS.seq ?_
          obtain ⟨j17, hj88, h⟩ := joinO_some h
          refine JS.blockJ (ι := Int) ⟨fun z => j17 z = some r, fun z => [(0, .v (.string (bs x0))), (2, .v (.string (bs x2))), (3, .v (.bool x3)), (9, .v (.int .i64 x7)), (10, .v (.int .i64 z))], fun z => .nil, fun z => [], fun z => [], fun z => 0⟩ ?_ ?_
          · refine JS.loop (ι := Nat × Int) ⟨fun z => fixF (M_s_BodyEnd_L1 x0 j17) z.1 z.2 = some r, fun z => [(0, .v (.string (bs x0))), (2, .v (.string (bs x2))), (3, .v (.bool x3)), (9, .v (.int .i64 x7)), (10, .v (.int .i64 z.2))], fun z => .nil, fun z => [], fun z => [], fun z => z.1⟩ (FUEL, x7) h ⟨rfl, rfl, rfl, rfl, rfl, trivial⟩ trivial [] rfl [] rfl ?_
            rintro ⟨n13, x8⟩ h
            obtain ⟨n13, rfl, h⟩ := fixF_some h
            rw [M_s_BodyEnd_L1] at h
            refine JS.seq ?_
            refine JS.seq ?_
            refine JS.region ?_
            obtain ⟨g9, h⟩ := guardO_some h
            refine JO.reg ttOk 10 [] [] [(31, .v (.bool (bif (decide (x8 < (x0.length : Int))) then (!(decide (((at' x0 x8).toNat : Int) = (10 : Int)))) else false)))] _ rfl ⟨(fun q80 => (g9 q80)), ⟨rfl, trivial⟩, rfl⟩ ?_
            refine JO.done rfl ?_
            refine JS.cond rfl (fun ht81 => ?_) (fun ht81 => ?_)
            · have h := condT h ht81
              refine JS.skip ?_
              refine JS.block ?_
              refine JS.region ?_
              refine JO.reg ttOk 3 [(W (x8 + 1))] [] [(10, .v (.int .i64 (W (x8 + 1))))] _ rfl ⟨⟨trivial, rfl⟩, ⟨rfl, trivial⟩, rfl⟩ ?_
              refine JO.done rfl ?_
              refine JS.endB ?_
              exact JS.endL (n13, (W (x8 + 1))) h (Nat.lt_succ_self _) ⟨rfl, rfl, rfl, rfl, rfl, trivial⟩ trivial [] rfl [] rfl
            · have h := condF h ht81
              refine JS.exit rfl ?_
              exact JS.endJ x8 h ⟨rfl, rfl, rfl, rfl, rfl, trivial⟩ trivial [] rfl [] rfl
          · rintro x16 h
            subst hj88
            refine JS.seq ?_
            refine JS.region ?_
            refine JO.reg ttOk 2 [] [] [(11, .v (.int .i64 x7))] _ rfl ⟨⟨rfl, trivial⟩, rfl⟩ ?_
            refine JO.done rfl ?_
            refine JS.seq ?_
            obtain ⟨j29, hj87, h⟩ := joinO_some h
            refine JS.blockJ (ι := Int) ⟨fun z => j29 z = some r, fun z => [(0, .v (.string (bs x0))), (2, .v (.string (bs x2))), (3, .v (.bool x3)), (10, .v (.int .i64 x16)), (11, .v (.int .i64 z))], fun z => .nil, fun z => [], fun z => [], fun z => 0⟩ ?_ ?_
            · refine JS.loop (ι := Nat × Int) ⟨fun z => fixF (M_s_BodyEnd_L2 x0 x3 x16 j29) z.1 z.2 = some r, fun z => [(0, .v (.string (bs x0))), (2, .v (.string (bs x2))), (3, .v (.bool x3)), (10, .v (.int .i64 x16)), (11, .v (.int .i64 z.2))], fun z => .nil, fun z => [], fun z => [], fun z => z.1⟩ (FUEL, x7) h ⟨rfl, rfl, rfl, rfl, rfl, trivial⟩ trivial [] rfl [] rfl ?_
              rintro ⟨n25, x20⟩ h
              obtain ⟨n25, rfl, h⟩ := fixF_some h
              rw [M_s_BodyEnd_L2] at h
              refine JS.seq ?_
              refine JS.seq ?_
              refine JS.region ?_
              obtain ⟨g21, h⟩ := guardO_some h
              refine JO.reg ttOk 12 [] [] [(46, .v (.bool (bif (bif x3 then (decide (x20 < x16)) else false) then (decide (((at' x0 x20).toNat : Int) = (9 : Int))) else false)))] _ rfl ⟨(fun q82 => (g21 q82)), ⟨rfl, trivial⟩, rfl⟩ ?_
              refine JO.done rfl ?_
              refine JS.cond rfl (fun ht83 => ?_) (fun ht83 => ?_)
              · have h := condT h ht83
                refine JS.skip ?_
                refine JS.block ?_
                refine JS.region ?_
                refine JO.reg ttOk 3 [(W (x20 + 1))] [] [(11, .v (.int .i64 (W (x20 + 1))))] _ rfl ⟨⟨trivial, rfl⟩, ⟨rfl, trivial⟩, rfl⟩ ?_
                refine JO.done rfl ?_
                refine JS.endB ?_
                exact JS.endL (n25, (W (x20 + 1))) h (Nat.lt_succ_self _) ⟨rfl, rfl, rfl, rfl, rfl, trivial⟩ trivial [] rfl [] rfl
              · have h := condF h ht83
                refine JS.exit rfl ?_
                exact JS.endJ x20 h ⟨rfl, rfl, rfl, rfl, rfl, trivial⟩ trivial [] rfl [] rfl
            · rintro x28 h
              subst hj87
              refine JS.seq ?_
              refine JS.region ?_
              refine JO.reg ttOk 2 [] [] [(12, .v (.int .i64 x16))] _ rfl ⟨⟨rfl, trivial⟩, rfl⟩ ?_
              refine JO.done rfl ?_
              obtain ⟨j34, hj86, h⟩ := joinO_some h
              refine JS.seqJ (ι := Int) ⟨fun z => j34 z = some r, fun z => [(0, .v (.string (bs x0))), (2, .v (.string (bs x2))), (3, .v (.bool x3)), (10, .v (.int .i64 x16)), (11, .v (.int .i64 x28)), (12, .v (.int .i64 z))], fun z => .nil, fun z => [], fun z => [], fun z => 0⟩ ?_ ?_
              · refine JS.seq ?_
                refine JS.region ?_
                refine JO.reg ttOk 4 [] [] [(53, .v (.bool (decide (x16 < (x0.length : Int)))))] _ rfl ⟨⟨rfl, trivial⟩, rfl⟩ ?_
                refine JO.done rfl ?_
                refine JS.cond rfl (fun ht84 => ?_) (fun ht84 => ?_)
                · have h := condT h ht84
                  refine JS.region ?_
                  refine JO.reg ttOk 3 [(W (x16 + 1))] [] [(12, .v (.int .i64 (W (x16 + 1))))] _ rfl ⟨⟨trivial, rfl⟩, ⟨rfl, trivial⟩, rfl⟩ ?_
                  refine JO.done rfl ?_
                  exact JS.endJ (W (x16 + 1)) h ⟨rfl, rfl, rfl, rfl, rfl, rfl, trivial⟩ trivial [] rfl [] rfl
                · have h := condF h ht84
                  refine JS.skip ?_
                  exact JS.endJ x16 h ⟨rfl, rfl, rfl, rfl, rfl, rfl, trivial⟩ trivial [] rfl [] rfl
              · rintro x33 h
                subst hj86
                refine JS.seq ?_
                refine JS.seq ?_
                refine JS.region ?_
                obtain ⟨g36, h⟩ := guardO_some h
                refine JO.reg ttOk 6 [] [] [(61, .v (.bool (decide ((sub' x0 x28 x16) = x2))))] _ rfl ⟨g36, ⟨rfl, trivial⟩, rfl⟩ ?_
                refine JO.done rfl ?_
                refine JS.cond rfl (fun ht85 => ?_) (fun ht85 => ?_)
                · have h := condT h ht85
                  refine JS.seq ?_
                  refine JS.region ?_
                  refine JO.reg ttOk 2 [] [] [(8, .v (.int .i64 x33))] _ rfl ⟨⟨rfl, trivial⟩, rfl⟩ ?_
                  refine JO.done rfl ?_
                  cases h
                  exact JS.ret ttOk () trivial rfl rfl [] rfl
                · have h := condF h ht85
                  refine JS.skip ?_
                  refine JS.region ?_
                  refine JO.reg ttOk 2 [] [] [(9, .v (.int .i64 x33))] _ rfl ⟨⟨rfl, trivial⟩, rfl⟩ ?_
                  refine JO.done rfl ?_
                  refine JS.endB ?_
                  exact JS.endJ x33 h ⟨rfl, rfl, rfl, rfl, trivial⟩ trivial [] rfl [] rfl
        · rintro x41 h
          subst hj89
          exact JS.endL (n55, x41) h (Nat.lt_succ_self _) ⟨rfl, rfl, rfl, rfl, trivial⟩ trivial [] rfl [] rfl
      · have h := condF h ht90
        refine JS.exit rfl ?_
        exact JS.endJ () h trivial trivial [] rfl [] rfl
    · rintro _ h
      subst hj91
      refine JS.seq ?_
      refine JS.region ?_
      refine JO.reg ttOk 1 [] [] [(8, .v (.int .i64 (-1)))] _ rfl ⟨⟨rfl, trivial⟩, rfl⟩ ?_
      refine JO.done rfl ?_
      cases h
      exact JS.ret ttOk () trivial rfl rfl [] rfl

def M_i_within (x0 : Int) (x1 : Int) : Option Int :=
  some (max (0 : Int) (min x0 x1))

theorem ok_i_within (x0 : Int) (x1 : Int) (r : Int) (h : M_i_within x0 x1 = some r) :
    FC Tryd.prog 21 [.int .i64 x0, .int .i64 x1] [] (fun _ : Unit => True) (fun _ => .int .i64 r) (fun _ => []) :=
  by
    refine FC.of (T := TTx) Tryd.call21 Tryd.func21 rfl rfl fun w0 => ?_
    unfold M_i_within at h
    refine JS.seq ?_
    refine JS.region ?_
    refine JO.reg ttOk 1 [] [] [] _ rfl ⟨trivial, rfl⟩ ?_
    refine JO.done rfl ?_
    refine JS.seq ?_
    refine JS.region ?_
    refine JO.reg ttOk 5 [] [] [(4, .v (.int .i64 (max (0 : Int) (min x0 x1))))] _ rfl ⟨⟨rfl, trivial⟩, rfl⟩ ?_
    refine JO.done rfl ?_
    cases h
    exact JS.ret ttOk () trivial rfl rfl [] rfl

def M_internal_stringslite_IndexByte (x0 : List UInt8) (x1 : UInt8) : Option Int :=
  none

theorem ok_internal_stringslite_IndexByte (x0 : List UInt8) (x1 : UInt8) (r : Int) (h : M_internal_stringslite_IndexByte x0 x1 = some r) :
    FC Tryd.prog 27 [.string (bs x0), .int .u8 (x1.toNat : Int)] [] (fun _ : Unit => True) (fun _ => .int .i64 r) (fun _ => []) :=
  by
    refine FC.of (T := TTx) Tryd.call27 Tryd.func27 rfl rfl fun w0 => ?_
    unfold M_internal_stringslite_IndexByte at h
    refine JS.seq ?_
    refine JS.region ?_
    refine JO.reg ttOk 1 [] [] [] _ rfl ⟨trivial, rfl⟩ ?_
    refine JO.done rfl ?_
    refine JS.seq ?_
    cases h

def M_strings_IndexByte (x0 : List UInt8) (x1 : UInt8) : Option Int := some (Lib.indexByte x0 x1)

theorem ok_strings_IndexByte (x0 : List UInt8) (x1 : UInt8) (r : Int) (h : M_strings_IndexByte x0 x1 = some r) : FV Tryd.prog 22 [.string (bs x0), .int .u8 (x1.toNat : Int)] [] (.int .i64 r) := by
  cases h
  refine FV.of_calls Tryd.call22 fun w => ?_
  have := Tryd.strings_IndexByte (bs x0) (x1.toNat : Int) w
  rw [u8_byte] at this
  exact this

def M_strings_trimLeftByte_L1 (x1 : UInt8) (j13 : (List UInt8) → Option (List UInt8)) (k8 : (List UInt8) → Option (List UInt8)) : (List UInt8) → Option (List UInt8) := fun x3 =>
  (guardO (((decide (0 < (x3.length : Int))) = true) → 0 ≤ (0 : Int) ∧ 0 < (x3.length : Int)) <|
  (bif (bif (decide (0 < (x3.length : Int))) then (decide (((at' x3 0).toNat : Int) = (x1.toNat : Int))) else false) then
  (guardO (0 ≤ (1 : Int) ∧ 1 ≤ (x3.length : Int) ∧ (x3.length : Int) ≤ (x3.length : Int)) <|
  k8 (sub' x3 1 (x3.length : Int)))
  else
  j13 x3))

def M_strings_trimLeftByte (x0 : List UInt8) (x1 : UInt8) : Option (List UInt8) :=
  (joinO (fun (x12 : List UInt8) =>
  some x12) fun j13 =>
  (fixF (M_strings_trimLeftByte_L1 x1 j13) FUEL x0))

theorem ok_strings_trimLeftByte (x0 : List UInt8) (x1 : UInt8) (r : List UInt8) (h : M_strings_trimLeftByte x0 x1 = some r) :
    FC Tryd.prog 28 [.string (bs x0), .int .u8 (x1.toNat : Int)] [] (fun _ : Unit => True) (fun _ => .string (bs r)) (fun _ => []) :=
  by
    refine FC.of (T := TTx) Tryd.call28 Tryd.func28 rfl rfl fun w0 => ?_
    unfold M_strings_trimLeftByte at h
    refine JS.seq ?_
    refine JS.region ?_
    refine JO.reg ttOk 1 [] [] [] _ rfl ⟨trivial, rfl⟩ ?_
    refine JO.done rfl ?_
    refine JS.seq ?_
    obtain ⟨j13, hj19, h⟩ := joinO_some h
    refine JS.blockJ (ι := List UInt8) ⟨fun z => j13 z = some r, fun z => [(0, .v (.string (bs z)))], fun z => .nil, fun z => [], fun z => [], fun z => 0⟩ ?_ ?_
    · refine JS.loop (ι := Nat × List UInt8) ⟨fun z => fixF (M_strings_trimLeftByte_L1 x1 j13) z.1 z.2 = some r, fun z => [(0, .v (.string (bs z.2))), (1, .v (.int .u8 (x1.toNat : Int)))], fun z => .nil, fun z => [], fun z => [], fun z => z.1⟩ (FUEL, x0) h ⟨rfl, rfl, trivial⟩ trivial [] rfl [] rfl ?_
      rintro ⟨n9, x3⟩ h
      obtain ⟨n9, rfl, h⟩ := fixF_some h
      rw [M_strings_trimLeftByte_L1] at h
      refine JS.seq ?_
      refine JS.seq ?_
      refine JS.region ?_
      obtain ⟨g4, h⟩ := guardO_some h
      refine JO.reg ttOk 9 [] [] [(13, .v (.bool (bif (decide (0 < (x3.length : Int))) then (decide (((at' x3 0).toNat : Int) = (x1.toNat : Int))) else false)))] _ rfl ⟨(fun q17 => (g4 q17)), ⟨rfl, trivial⟩, rfl⟩ ?_
      refine JO.done rfl ?_
      refine JS.cond rfl (fun ht18 => ?_) (fun ht18 => ?_)
      · have h := condT h ht18
        refine JS.skip ?_
        refine JS.block ?_
        refine JS.region ?_
        obtain ⟨g6, h⟩ := guardO_some h
        refine JO.reg ttOk 3 [] [] [(0, .v (.string (bs (sub' x3 1 (x3.length : Int)))))] _ rfl ⟨g6, ⟨rfl, trivial⟩, rfl⟩ ?_
        refine JO.done rfl ?_
        refine JS.endB ?_
        exact JS.endL (n9, (sub' x3 1 (x3.length : Int))) h (Nat.lt_succ_self _) ⟨rfl, rfl, trivial⟩ trivial [] rfl [] rfl
      · have h := condF h ht18
        refine JS.exit rfl ?_
        exact JS.endJ x3 h ⟨rfl, trivial⟩ trivial [] rfl [] rfl
    · rintro x12 h
      subst hj19
      refine JS.seq ?_
      refine JS.region ?_
      refine JO.reg ttOk 2 [] [] [(4, .v (.string (bs x12)))] _ rfl ⟨⟨rfl, trivial⟩, rfl⟩ ?_
      refine JO.done rfl ?_
      cases h
      exact JS.ret ttOk () trivial rfl rfl [] rfl

def M_unicode_utf8_decodeRuneInStringSlow (x0 : List UInt8) : Option (Int × Int) :=
  (bif (decide ((x0.length : Int) < 1)) then
  some (65533, 0)
  else
  (guardO (0 ≤ (0 : Int) ∧ 0 < (x0.length : Int)) <|
  none))

theorem ok_unicode_utf8_decodeRuneInStringSlow (x0 : List UInt8) (r : Int × Int) (h : M_unicode_utf8_decodeRuneInStringSlow x0 = some r) :
    FC Tryd.prog 41 [.string (bs x0)] [] (fun _ : Unit => True) (fun _ => .tuple #[.int .i32 r.1, .int .i64 r.2]) (fun _ => []) :=
  by
    refine FC.of (T := TTx) Tryd.call41 Tryd.func41 rfl rfl fun w0 => ?_
    unfold M_unicode_utf8_decodeRuneInStringSlow at h
    refine JS.seq ?_
    refine JS.region ?_
    refine JO.reg ttOk 2 [] [] [] _ rfl ⟨trivial, rfl⟩ ?_
    refine JO.done rfl ?_
    refine JS.seq ?_
    refine JS.region ?_
    refine JO.reg ttOk 3 [] [] [(4, .v (.int .i64 (x0.length : Int)))] _ rfl ⟨⟨rfl, trivial⟩, rfl⟩ ?_
    refine JO.done rfl ?_
    refine JS.seq ?_
    refine JS.seq ?_
    refine JS.region ?_
    refine JO.reg ttOk 2 [] [] [(16, .v (.bool (decide ((x0.length : Int) < 1))))] _ rfl ⟨⟨rfl, trivial⟩, rfl⟩ ?_
    refine JO.done rfl ?_
    refine JS.cond rfl (fun ht4 => ?_) (fun ht4 => ?_)
    · have h := condT h ht4
      refine JS.seq ?_
      refine JS.region ?_
      refine JO.reg ttOk 2 [] [] [(2, .v (.int .i32 65533)), (3, .v (.int .i64 0))] _ rfl ⟨⟨rfl, rfl, trivial⟩, rfl⟩ ?_
      refine JO.done rfl ?_
      cases h
      exact JS.ret ttOk () trivial rfl rfl [] rfl
    · have h := condF h ht4
      refine JS.skip ?_
      refine JS.seq ?_
      refine JS.region ?_
      obtain ⟨g2, h⟩ := guardO_some h
      refine JO.reg ttOk 3 [] [] [(5, .v (.int .u8 ((at' x0 0).toNat : Int)))] _ rfl ⟨g2, ⟨rfl, trivial⟩, rfl⟩ ?_
      refine JO.done rfl ?_
      refine JS.seq ?_
      cases h

def M_unicode_utf8_DecodeRuneInString (x0 : List UInt8) : Option (Int × Int) :=
  (guardO (((!(decide (x0 = []))) = true) → 0 ≤ (0 : Int) ∧ 0 < (x0.length : Int)) <|
  (bif (bif (!(decide (x0 = []))) then (decide (((at' x0 0).toNat : Int) < (128 : Int))) else false) then
  (guardO (0 ≤ (0 : Int) ∧ 0 < (x0.length : Int)) <|
  some ((IntKind.i32.wrap (((at' x0 0).toNat : Int))), 1))
  else
  (bindO (M_unicode_utf8_decodeRuneInStringSlow x0) fun (y5, y6) =>
  some (y5, y6))))

theorem ok_unicode_utf8_DecodeRuneInString (x0 : List UInt8) (r : Int × Int) (h : M_unicode_utf8_DecodeRuneInString x0 = some r) :
    FC Tryd.prog 36 [.string (bs x0)] [] (fun _ : Unit => True) (fun _ => .tuple #[.int .i32 r.1, .int .i64 r.2]) (fun _ => []) :=
  by
    refine FC.of (T := TTx) Tryd.call36 Tryd.func36 rfl rfl fun w0 => ?_
    unfold M_unicode_utf8_DecodeRuneInString at h
    refine JS.seq ?_
    refine JS.region ?_
    refine JO.reg ttOk 2 [] [] [] _ rfl ⟨trivial, rfl⟩ ?_
    refine JO.done rfl ?_
    refine JS.seq ?_
    refine JS.seq ?_
    refine JS.region ?_
    obtain ⟨g2, h⟩ := guardO_some h
    refine JO.reg ttOk 7 [] [] [(10, .v (.bool (bif (!(decide (x0 = []))) then (decide (((at' x0 0).toNat : Int) < (128 : Int))) else false)))] _ rfl ⟨(fun q9 => (g2 q9)), ⟨rfl, trivial⟩, rfl⟩ ?_
    refine JO.done rfl ?_
    refine JS.cond rfl (fun ht10 => ?_) (fun ht10 => ?_)
    · have h := condT h ht10
      refine JS.seq ?_
      refine JS.region ?_
      obtain ⟨g4, h⟩ := guardO_some h
      refine JO.reg ttOk 5 [(IntKind.i32.wrap (((at' x0 0).toNat : Int)))] [] [(2, .v (.int .i32 (IntKind.i32.wrap (((at' x0 0).toNat : Int))))), (3, .v (.int .i64 1))] _ rfl ⟨g4, ⟨trivial, rfl⟩, ⟨rfl, rfl, trivial⟩, rfl⟩ ?_
      refine JO.done rfl ?_
      cases h
      exact JS.ret ttOk () trivial rfl rfl [] rfl
    · have h := condF h ht10
      refine JS.region ?_
      refine JO.reg ttOk 1 [] [] [(15, .v (.string (bs x0)))] _ rfl ⟨⟨rfl, trivial⟩, rfl⟩ ?_
      obtain ⟨⟨y5, y6⟩, hy7, h⟩ := bindO_some h
      refine JO.call rfl rfl rfl rfl (ok_unicode_utf8_decodeRuneInStringSlow x0 _ hy7) rfl [] rfl rfl ?_
      intro _ _
      refine JO.reg ttOk 5 [] [] [(2, .v (.int .i32 y5)), (3, .v (.int .i64 y6))] _ rfl ⟨⟨rfl, rfl, trivial⟩, rfl⟩ ?_
      refine JO.done rfl ?_
      cases h
      exact JS.ret ttOk () trivial rfl rfl [] rfl

def M_unicode_utf8_ValidRune (x0 : Int) : Option Bool :=
  (bif (bif (decide (0 ≤ x0)) then (decide (x0 < 55296)) else false) then
  some true
  else
  (bif (bif (decide (57343 < x0)) then (decide (x0 ≤ 1114111)) else false) then
  some true
  else
  some false))

theorem ok_unicode_utf8_ValidRune (x0 : Int) (r : Bool) (h : M_unicode_utf8_ValidRune x0 = some r) :
    FC Tryd.prog 46 [.int .i32 x0] [] (fun _ : Unit => True) (fun _ => .bool r) (fun _ => []) :=
  by
    refine FC.of (T := TTx) Tryd.call46 Tryd.func46 rfl rfl fun w0 => ?_
    unfold M_unicode_utf8_ValidRune at h
    refine JS.seq ?_
    refine JS.region ?_
    refine JO.reg ttOk 1 [] [] [] _ rfl ⟨trivial, rfl⟩ ?_
    refine JO.done rfl ?_
    refine JS.seq ?_
    refine JS.block ?_
    refine JS.seq ?_
    refine JS.region ?_
    refine JO.reg ttOk 7 [] [] [(3, .v (.bool (bif (decide (0 ≤ x0)) then (decide (x0 < 55296)) else false)))] _ rfl ⟨⟨rfl, trivial⟩, rfl⟩ ?_
    refine JO.done rfl ?_
    refine JS.cond rfl (fun ht5 => ?_) (fun ht5 => ?_)
    · have h := condT h ht5
      refine JS.seq ?_
      refine JS.region ?_
      refine JO.reg ttOk 1 [] [] [(2, .v (.bool true))] _ rfl ⟨⟨rfl, trivial⟩, rfl⟩ ?_
      refine JO.done rfl ?_
      cases h
      exact JS.ret ttOk () trivial rfl rfl [] rfl
    · have h := condF h ht5
      refine JS.seq ?_
      refine JS.region ?_
      refine JO.reg ttOk 7 [] [] [(10, .v (.bool (bif (decide (57343 < x0)) then (decide (x0 ≤ 1114111)) else false)))] _ rfl ⟨⟨rfl, trivial⟩, rfl⟩ ?_
      refine JO.done rfl ?_
      refine JS.cond rfl (fun ht4 => ?_) (fun ht4 => ?_)
      · have h := condT h ht4
        refine JS.seq ?_
        refine JS.region ?_
        refine JO.reg ttOk 1 [] [] [(2, .v (.bool true))] _ rfl ⟨⟨rfl, trivial⟩, rfl⟩ ?_
        refine JO.done rfl ?_
        cases h
        exact JS.ret ttOk () trivial rfl rfl [] rfl
      · have h := condF h ht4
        refine JS.skip ?_
        refine JS.endB ?_
        refine JS.seq ?_
        refine JS.region ?_
        refine JO.reg ttOk 1 [] [] [(2, .v (.bool false))] _ rfl ⟨⟨rfl, trivial⟩, rfl⟩ ?_
        refine JO.done rfl ?_
        cases h
        exact JS.ret ttOk () trivial rfl rfl [] rfl

def M_internal_bytealg_Cutover (x0 : Int) : Option Int :=
  some (W (Int.tdiv (W (x0 + 16)) 8))

theorem ok_internal_bytealg_Cutover (x0 : Int) (r : Int) (h : M_internal_bytealg_Cutover x0 = some r) :
    FC Tryd.prog 47 [.int .i64 x0] [] (fun _ : Unit => True) (fun _ => .int .i64 r) (fun _ => []) :=
  by
    refine FC.of (T := TTx) Tryd.call47 Tryd.func47 rfl rfl fun w0 => ?_
    unfold M_internal_bytealg_Cutover at h
    refine JS.seq ?_
    refine JS.region ?_
    refine JO.reg ttOk 1 [] [] [] _ rfl ⟨trivial, rfl⟩ ?_
    refine JO.done rfl ?_
    refine JS.seq ?_
    refine JS.region ?_
    have g2 : (8 : Int) ≠ 0 := by decide
    refine JO.reg ttOk 4 [(W (x0 + 16)), (W (Int.tdiv (W (x0 + 16)) 8))] [] [(2, .v (.int .i64 (W (Int.tdiv (W (x0 + 16)) 8))))] _ rfl ⟨⟨trivial, rfl⟩, ⟨g2, rfl⟩, ⟨rfl, trivial⟩, rfl⟩ ?_
    refine JO.done rfl ?_
    cases h
    exact JS.ret ttOk () trivial rfl rfl [] rfl

def M_strings_IndexRune (x0 : List UInt8) (x1 : Int) : Option Int :=
  none

theorem ok_strings_IndexRune (x0 : List UInt8) (x1 : Int) (r : Int) (h : M_strings_IndexRune x0 x1 = some r) :
    FC Tryd.prog 42 [.string (bs x0), .int .i32 x1] [] (fun _ : Unit => True) (fun _ => .int .i64 r) (fun _ => []) :=
  by
    refine FC.of (T := TTx) Tryd.call42 Tryd.func42 rfl rfl fun w0 => ?_
    unfold M_strings_IndexRune at h
    refine JS.seq ?_
    cases h

def M_strings_ContainsRune (x0 : List UInt8) (x1 : Int) : Option Bool :=
  (bindO (M_strings_IndexRune x0 x1) fun (y3 : Int) =>
  some (decide (0 ≤ y3)))

theorem ok_strings_ContainsRune (x0 : List UInt8) (x1 : Int) (r : Bool) (h : M_strings_ContainsRune x0 x1 = some r) :
    FC Tryd.prog 37 [.string (bs x0), .int .i32 x1] [] (fun _ : Unit => True) (fun _ => .bool r) (fun _ => []) :=
  by
    refine FC.of (T := TTx) Tryd.call37 Tryd.func37 rfl rfl fun w0 => ?_
    unfold M_strings_ContainsRune at h
    refine JS.seq ?_
    refine JS.region ?_
    refine JO.reg ttOk 1 [] [] [] _ rfl ⟨trivial, rfl⟩ ?_
    refine JO.done rfl ?_
    refine JS.seq ?_
    refine JS.region ?_
    refine JO.reg ttOk 2 [] [] [(5, .v (.string (bs x0))), (6, .v (.int .i32 x1))] _ rfl ⟨⟨rfl, rfl, trivial⟩, rfl⟩ ?_
    obtain ⟨y3, hy4, h⟩ := bindO_some h
    refine JO.call rfl rfl rfl rfl (ok_strings_IndexRune x0 x1 _ hy4) rfl [] rfl rfl ?_
    intro _ _
    refine JO.reg ttOk 2 [] [] [(4, .v (.bool (decide (0 ≤ y3))))] _ rfl ⟨⟨rfl, trivial⟩, rfl⟩ ?_
    refine JO.done rfl ?_
    cases h
    exact JS.ret ttOk () trivial rfl rfl [] rfl

def M_strings_trimLeftUnicode_L1 (x1 : List UInt8) (j17 : (List UInt8) → Option (List UInt8)) (k12 : (List UInt8) → Option (List UInt8)) : (List UInt8) → Option (List UInt8) := fun x3 =>
  (bif (decide (0 < (x3.length : Int))) then
  (bindO (M_unicode_utf8_DecodeRuneInString x3) fun (y4, y5) =>
  (bindO (M_strings_ContainsRune x1 y4) fun (y7 : Bool) =>
  (bif (!y7) then
  j17 x3
  else
  (guardO (0 ≤ y5 ∧ y5 ≤ (x3.length : Int) ∧ (x3.length : Int) ≤ (x3.length : Int)) <|
  k12 (sub' x3 y5 (x3.length : Int))))))
  else
  j17 x3)

def M_strings_trimLeftUnicode (x0 : List UInt8) (x1 : List UInt8) : Option (List UInt8) :=
  (joinO (fun (x16 : List UInt8) =>
  some x16) fun j17 =>
  (fixF (M_strings_trimLeftUnicode_L1 x1 j17) FUEL x0))

theorem ok_strings_trimLeftUnicode (x0 : List UInt8) (x1 : List UInt8) (r : List UInt8) (h : M_strings_trimLeftUnicode x0 x1 = some r) :
    FC Tryd.prog 31 [.string (bs x0), .string (bs x1)] [] (fun _ : Unit => True) (fun _ => .string (bs r)) (fun _ => []) :=
  by
    refine FC.of (T := TTx) Tryd.call31 Tryd.func31 rfl rfl fun w0 => ?_
    unfold M_strings_trimLeftUnicode at h
    refine JS.seq ?_
    refine JS.region ?_
    refine JO.reg ttOk 1 [] [] [] _ rfl ⟨trivial, rfl⟩ ?_
    refine JO.done rfl ?_
    refine JS.seq ?_
    obtain ⟨j17, hj23, h⟩ := joinO_some h
    refine JS.blockJ (ι := List UInt8) ⟨fun z => j17 z = some r, fun z => [(0, .v (.string (bs z)))], fun z => .nil, fun z => [], fun z => [], fun z => 0⟩ ?_ ?_
    · refine JS.loop (ι := Nat × List UInt8) ⟨fun z => fixF (M_strings_trimLeftUnicode_L1 x1 j17) z.1 z.2 = some r, fun z => [(0, .v (.string (bs z.2))), (1, .v (.string (bs x1)))], fun z => .nil, fun z => [], fun z => [], fun z => z.1⟩ (FUEL, x0) h ⟨rfl, rfl, trivial⟩ trivial [] rfl [] rfl ?_
      rintro ⟨n13, x3⟩ h
      obtain ⟨n13, rfl, h⟩ := fixF_some h
      rw [M_strings_trimLeftUnicode_L1] at h
      refine JS.seq ?_
      refine JS.seq ?_
      refine JS.region ?_
      refine JO.reg ttOk 3 [] [] [(9, .v (.bool (decide (0 < (x3.length : Int)))))] _ rfl ⟨⟨rfl, trivial⟩, rfl⟩ ?_
      refine JO.done rfl ?_
      refine JS.cond rfl (fun ht22 => ?_) (fun ht22 => ?_)
      · have h := condT h ht22
        refine JS.skip ?_
        refine JS.block ?_
        refine JS.seq ?_
        refine JS.region ?_
        refine JO.reg ttOk 1 [] [] [(11, .v (.string (bs x3)))] _ rfl ⟨⟨rfl, trivial⟩, rfl⟩ ?_
        obtain ⟨⟨y4, y5⟩, hy6, h⟩ := bindO_some h
        refine JO.call rfl rfl rfl rfl (ok_unicode_utf8_DecodeRuneInString x3 _ hy6) rfl [] rfl rfl ?_
        intro _ _
        refine JO.reg ttOk 5 [] [] [(5, .v (.int .i32 y4)), (6, .v (.int .i64 y5))] _ rfl ⟨⟨rfl, rfl, trivial⟩, rfl⟩ ?_
        refine JO.done rfl ?_
        refine JS.seq ?_
        refine JS.seq ?_
        refine JS.region ?_
        refine JO.reg ttOk 2 [] [] [(15, .v (.string (bs x1))), (16, .v (.int .i32 y4))] _ rfl ⟨⟨rfl, rfl, trivial⟩, rfl⟩ ?_
        obtain ⟨y7, hy8, h⟩ := bindO_some h
        refine JO.call rfl rfl rfl rfl (ok_strings_ContainsRune x1 y4 _ hy8) rfl [] rfl rfl ?_
        intro _ _
        refine JO.reg ttOk 1 [] [] [(18, .v (.bool (!y7)))] _ rfl ⟨⟨rfl, trivial⟩, rfl⟩ ?_
        refine JO.done rfl ?_
        refine JS.cond rfl (fun ht21 => ?_) (fun ht21 => ?_)
        · have h := condT h ht21
          refine JS.exit rfl ?_
          exact JS.endJ x3 h ⟨rfl, trivial⟩ trivial [] rfl [] rfl
        · have h := condF h ht21
          refine JS.skip ?_
          refine JS.region ?_
          obtain ⟨g9, h⟩ := guardO_some h
          refine JO.reg ttOk 4 [] [] [(0, .v (.string (bs (sub' x3 y5 (x3.length : Int)))))] _ rfl ⟨g9, ⟨rfl, trivial⟩, rfl⟩ ?_
          refine JO.done rfl ?_
          refine JS.endB ?_
          exact JS.endL (n13, (sub' x3 y5 (x3.length : Int))) h (Nat.lt_succ_self _) ⟨rfl, rfl, trivial⟩ trivial [] rfl [] rfl
      · have h := condF h ht22
        refine JS.exit rfl ?_
        exact JS.endJ x3 h ⟨rfl, trivial⟩ trivial [] rfl [] rfl
    · rintro x16 h
      subst hj23
      refine JS.seq ?_
      refine JS.region ?_
      refine JO.reg ttOk 2 [] [] [(4, .v (.string (bs x16)))] _ rfl ⟨⟨rfl, trivial⟩, rfl⟩ ?_
      refine JO.done rfl ?_
      cases h
      exact JS.ret ttOk () trivial rfl rfl [] rfl

def M_strings_TrimLeft (x0 : List UInt8) (x1 : List UInt8) : Option (List UInt8) :=
  (bif (bif (decide (x0 = [])) then true else (decide (x1 = []))) then
  some x0
  else
  (guardO (((decide ((x1.length : Int) = 1)) = true) → 0 ≤ (0 : Int) ∧ 0 < (x1.length : Int)) <|
  (bif (bif (decide ((x1.length : Int) = 1)) then (decide (((at' x1 0).toNat : Int) < (128 : Int))) else false) then
  (guardO (0 ≤ (0 : Int) ∧ 0 < (x1.length : Int)) <|
  (bindO (M_strings_trimLeftByte x0 (at' x1 0)) fun (y6 : List UInt8) =>
  some y6))
  else
  none)))

theorem ok_strings_TrimLeft (x0 : List UInt8) (x1 : List UInt8) (r : List UInt8) (h : M_strings_TrimLeft x0 x1 = some r) :
    FC Tryd.prog 23 [.string (bs x0), .string (bs x1)] [] (fun _ : Unit => True) (fun _ => .string (bs r)) (fun _ => []) :=
  by
    refine FC.of (T := TTx) Tryd.call23 Tryd.func23 rfl rfl fun w0 => ?_
    unfold M_strings_TrimLeft at h
    refine JS.seq ?_
    refine JS.region ?_
    refine JO.reg ttOk 1 [] [] [] _ rfl ⟨trivial, rfl⟩ ?_
    refine JO.done rfl ?_
    refine JS.seq ?_
    refine JS.seq ?_
    refine JS.region ?_
    refine JO.reg ttOk 6 [] [] [(12, .v (.bool (bif (decide (x0 = [])) then true else (decide (x1 = [])))))] _ rfl ⟨⟨rfl, trivial⟩, rfl⟩ ?_
    refine JO.done rfl ?_
    refine JS.cond rfl (fun ht12 => ?_) (fun ht12 => ?_)
    · have h := condT h ht12
      refine JS.seq ?_
      refine JS.region ?_
      refine JO.reg ttOk 2 [] [] [(4, .v (.string (bs x0)))] _ rfl ⟨⟨rfl, trivial⟩, rfl⟩ ?_
      refine JO.done rfl ?_
      cases h
      exact JS.ret ttOk () trivial rfl rfl [] rfl
    · have h := condF h ht12
      refine JS.skip ?_
      refine JS.seq ?_
      refine JS.seq ?_
      refine JS.region ?_
      obtain ⟨g3, h⟩ := guardO_some h
      refine JO.reg ttOk 8 [] [] [(21, .v (.bool (bif (decide ((x1.length : Int) = 1)) then (decide (((at' x1 0).toNat : Int) < (128 : Int))) else false)))] _ rfl ⟨(fun q10 => (g3 q10)), ⟨rfl, trivial⟩, rfl⟩ ?_
      refine JO.done rfl ?_
      refine JS.cond rfl (fun ht11 => ?_) (fun ht11 => ?_)
      · have h := condT h ht11
        refine JS.seq ?_
        refine JS.region ?_
        obtain ⟨g5, h⟩ := guardO_some h
        refine JO.reg ttOk 3 [] [] [(22, .v (.string (bs x0))), (24, .v (.int .u8 ((at' x1 0).toNat : Int)))] _ rfl ⟨g5, ⟨rfl, rfl, trivial⟩, rfl⟩ ?_
        obtain ⟨y6, hy7, h⟩ := bindO_some h
        refine JO.call rfl rfl rfl rfl (ok_strings_trimLeftByte x0 (at' x1 0) _ hy7) rfl [] rfl rfl ?_
        intro _ _
        refine JO.reg ttOk 1 [] [] [(4, .v (.string (bs y6)))] _ rfl ⟨⟨rfl, trivial⟩, rfl⟩ ?_
        refine JO.done rfl ?_
        cases h
        exact JS.ret ttOk () trivial rfl rfl [] rfl
      · have h := condF h ht11
        refine JS.skip ?_
        refine JS.seq ?_
        refine JS.seq ?_
        cases h

def M_i_BodyEnd_L1 (x0 : List UInt8) (x2 : List UInt8) (x3 : Bool) (j35 : Unit → Option Int) (k27 : Int → Option Int) : Int → Option Int := fun x7 =>
  (bif (decide (x7 < (x0.length : Int))) then
  (guardO (0 ≤ x7 ∧ x7 ≤ (x0.length : Int) ∧ (x0.length : Int) ≤ (x0.length : Int)) <|
  (joinO (fun ((x13, x14) : List UInt8 × Int) =>
  (joinO (fun (x20 : List UInt8) =>
  (bif (decide (x20 = x2)) then
  some x14
  else
  k27 x14)) fun j21 =>
  (bif x3 then
  (bindO (M_strings_TrimLeft x13 ([9])) fun (y17 : List UInt8) =>
  j21 y17)
  else
  j21 x13))) fun j15 =>
  (bindO (M_strings_IndexByte (sub' x0 x7 (x0.length : Int)) (10 : UInt8)) fun (y9 : Int) =>
  (bif (decide (0 ≤ y9)) then
  (guardO (0 ≤ (0 : Int) ∧ 0 ≤ y9 ∧ y9 ≤ ((sub' x0 x7 (x0.length : Int)).length : Int)) <|
  j15 ((sub' (sub' x0 x7 (x0.length : Int)) 0 y9), (W ((W (x7 + y9)) + 1))))
  else
  j15 ((sub' x0 x7 (x0.length : Int)), (x0.length : Int))))))
  else
  j35 ())

def M_i_BodyEnd (x0 : List UInt8) (x1 : Int) (x2 : List UInt8) (x3 : Bool) : Option Int :=
  (bindO (M_i_within x1 (x0.length : Int)) fun (y5 : Int) =>
  (joinO (fun (_ : Unit) =>
  some (-1)) fun j35 =>
  (fixF (M_i_BodyEnd_L1 x0 x2 x3 j35) FUEL y5)))

theorem ok_i_BodyEnd (x0 : List UInt8) (x1 : Int) (x2 : List UInt8) (x3 : Bool) (r : Int) (h : M_i_BodyEnd x0 x1 x2 x3 = some r) :
    FC Tryd.prog 15 [.string (bs x0), .int .i64 x1, .string (bs x2), .bool x3] [] (fun _ : Unit => True) (fun _ => .int .i64 r) (fun _ => []) :=
  by
    refine FC.of (T := TTx) Tryd.call15 Tryd.func15 rfl rfl fun w0 => ?_
    unfold M_i_BodyEnd at h
    refine JS.seq ?_
    refine JS.region ?_
    refine JO.reg ttOk 1 [] [] [] _ rfl ⟨trivial, rfl⟩ ?_
    refine JO.done rfl ?_
    refine JS.seq ?_
    refine JS.region ?_
    refine JO.reg ttOk 3 [] [] [(12, .v (.int .i64 x1)), (14, .v (.int .i64 (x0.length : Int)))] _ rfl ⟨⟨rfl, rfl, trivial⟩, rfl⟩ ?_
    obtain ⟨y5, hy6, h⟩ := bindO_some h
    refine JO.call rfl rfl rfl rfl (ok_i_within x1 (x0.length : Int) _ hy6) rfl [] rfl rfl ?_
    intro _ _
    refine JO.reg ttOk 1 [] [] [(1, .v (.int .i64 y5))] _ rfl ⟨⟨rfl, trivial⟩, rfl⟩ ?_
    refine JO.done rfl ?_
    refine JS.seq ?_
    obtain ⟨j35, hj49, h⟩ := joinO_some h
    refine JS.blockJ (ι := Unit) ⟨fun _ => j35 () = some r, fun _ => [], fun _ => .nil, fun _ => [], fun _ => [], fun _ => 0⟩ ?_ ?_
    · refine JS.loop (ι := Nat × Int) ⟨fun z => fixF (M_i_BodyEnd_L1 x0 x2 x3 j35) z.1 z.2 = some r, fun z => [(0, .v (.string (bs x0))), (1, .v (.int .i64 z.2)), (2, .v (.string (bs x2))), (3, .v (.bool x3))], fun z => .nil, fun z => [], fun z => [], fun z => z.1⟩ (FUEL, y5) h ⟨rfl, rfl, rfl, rfl, trivial⟩ trivial [] rfl [] rfl ?_
      rintro ⟨n28, x7⟩ h
      obtain ⟨n28, rfl, h⟩ := fixF_some h
      rw [M_i_BodyEnd_L1] at h
      refine JS.seq ?_
      refine JS.seq ?_
      refine JS.region ?_
      refine JO.reg ttOk 4 [] [] [(19, .v (.bool (decide (x7 < (x0.length : Int)))))] _ rfl ⟨⟨rfl, trivial⟩, rfl⟩ ?_
      refine JO.done rfl ?_
      refine JS.cond rfl (fun ht48 => ?_) (fun ht48 => ?_)
      · have h := condT h ht48
        refine JS.skip ?_
        refine JS.block ?_
        refine JS.seq ?_
        refine JS.region ?_
        obtain ⟨g8, h⟩ := guardO_some h
        refine JO.reg ttOk 7 [] [] [(9, .v (.string (bs (sub' x0 x7 (x0.length : Int))))), (10, .v (.int .i64 (x0.length : Int)))] _ rfl ⟨g8, ⟨rfl, rfl, trivial⟩, rfl⟩ ?_
        refine JO.done rfl ?_
        obtain ⟨j15, hj47, h⟩ := joinO_some h
        refine JS.seqJ (ι := List UInt8 × Int) ⟨fun z => j15 (z.1, z.2) = some r, fun z => [(0, .v (.string (bs x0))), (2, .v (.string (bs x2))), (3, .v (.bool x3)), (9, .v (.string (bs z.1))), (10, .v (.int .i64 z.2))], fun z => .nil, fun z => [], fun z => [], fun z => 0⟩ ?_ ?_
        · refine JS.seq ?_
          refine JS.region ?_
          refine JO.reg ttOk 1 [] [] [(25, .v (.string (bs (sub' x0 x7 (x0.length : Int)))))] _ rfl ⟨⟨rfl, trivial⟩, rfl⟩ ?_
          obtain ⟨y9, hy10, h⟩ := bindO_some h
          refine JO.call rfl rfl rfl rfl (ok_strings_IndexByte (sub' x0 x7 (x0.length : Int)) (10 : UInt8) _ hy10) rfl [] rfl rfl ?_
          intro _ _
          refine JO.reg ttOk 1 [] [] [(11, .v (.int .i64 y9))] _ rfl ⟨⟨rfl, trivial⟩, rfl⟩ ?_
          refine JO.done rfl ?_
          refine JS.seq ?_
          refine JS.region ?_
          refine JO.reg ttOk 2 [] [] [(28, .v (.bool (decide (0 ≤ y9))))] _ rfl ⟨⟨rfl, trivial⟩, rfl⟩ ?_
          refine JO.done rfl ?_
          refine JS.cond rfl (fun ht43 => ?_) (fun ht43 => ?_)
          · have h := condT h ht43
            refine JS.region ?_
            obtain ⟨g11, h⟩ := guardO_some h
            refine JO.reg ttOk 9 [(W (x7 + y9)), (W ((W (x7 + y9)) + 1))] [] [(9, .v (.string (bs (sub' (sub' x0 x7 (x0.length : Int)) 0 y9)))), (10, .v (.int .i64 (W ((W (x7 + y9)) + 1))))] _ rfl ⟨g11, ⟨trivial, rfl⟩, ⟨trivial, rfl⟩, ⟨rfl, rfl, trivial⟩, rfl⟩ ?_
            refine JO.done rfl ?_
            exact JS.endJ ((sub' (sub' x0 x7 (x0.length : Int)) 0 y9), (W ((W (x7 + y9)) + 1))) h ⟨rfl, rfl, rfl, rfl, rfl, trivial⟩ trivial [] rfl [] rfl
          · have h := condF h ht43
            refine JS.skip ?_
            exact JS.endJ ((sub' x0 x7 (x0.length : Int)), (x0.length : Int)) h ⟨rfl, rfl, rfl, rfl, rfl, trivial⟩ trivial [] rfl [] rfl
        · rintro ⟨x13, x14⟩ h
          subst hj47
          obtain ⟨j21, hj46, h⟩ := joinO_some h
          refine JS.seqJ (ι := List UInt8) ⟨fun z => j21 z = some r, fun z => [(0, .v (.string (bs x0))), (2, .v (.string (bs x2))), (3, .v (.bool x3)), (9, .v (.string (bs z))), (10, .v (.int .i64 x14))], fun z => .nil, fun z => [], fun z => [], fun z => 0⟩ ?_ ?_
          · refine JS.seq ?_
            refine JS.region ?_
            refine JO.reg ttOk 1 [] [] [(36, .v (.bool x3))] _ rfl ⟨⟨rfl, trivial⟩, rfl⟩ ?_
            refine JO.done rfl ?_
            refine JS.cond rfl (fun ht44 => ?_) (fun ht44 => ?_)
            · have h := condT h ht44
              refine JS.region ?_
              refine JO.reg ttOk 1 [] [] [(37, .v (.string (bs x13)))] _ rfl ⟨⟨rfl, trivial⟩, rfl⟩ ?_
              obtain ⟨y17, hy18, h⟩ := bindO_some h
              refine JO.call rfl rfl rfl rfl (ok_strings_TrimLeft x13 ([9]) _ hy18) rfl [] rfl rfl ?_
              intro _ _
              refine JO.reg ttOk 1 [] [] [(9, .v (.string (bs y17)))] _ rfl ⟨⟨rfl, trivial⟩, rfl⟩ ?_
              refine JO.done rfl ?_
              exact JS.endJ y17 h ⟨rfl, rfl, rfl, rfl, rfl, trivial⟩ trivial [] rfl [] rfl
            · have h := condF h ht44
              refine JS.skip ?_
              exact JS.endJ x13 h ⟨rfl, rfl, rfl, rfl, rfl, trivial⟩ trivial [] rfl [] rfl
          · rintro x20 h
            subst hj46
            refine JS.seq ?_
            refine JS.seq ?_
            refine JS.region ?_
            refine JO.reg ttOk 3 [] [] [(41, .v (.bool (decide (x20 = x2))))] _ rfl ⟨⟨rfl, trivial⟩, rfl⟩ ?_
            refine JO.done rfl ?_
            refine JS.cond rfl (fun ht45 => ?_) (fun ht45 => ?_)
            · have h := condT h ht45
              refine JS.seq ?_
              refine JS.region ?_
              refine JO.reg ttOk 2 [] [] [(8, .v (.int .i64 x14))] _ rfl ⟨⟨rfl, trivial⟩, rfl⟩ ?_
              refine JO.done rfl ?_
              cases h
              exact JS.ret ttOk () trivial rfl rfl [] rfl
            · have h := condF h ht45
              refine JS.skip ?_
              refine JS.region ?_
              refine JO.reg ttOk 2 [] [] [(1, .v (.int .i64 x14))] _ rfl ⟨⟨rfl, trivial⟩, rfl⟩ ?_
              refine JO.done rfl ?_
              refine JS.endB ?_
              exact JS.endL (n28, x14) h (Nat.lt_succ_self _) ⟨rfl, rfl, rfl, rfl, trivial⟩ trivial [] rfl [] rfl
      · have h := condF h ht48
        refine JS.exit rfl ?_
        exact JS.endJ () h trivial trivial [] rfl [] rfl
    · rintro _ h
      subst hj49
      refine JS.seq ?_
      refine JS.region ?_
      refine JO.reg ttOk 1 [] [] [(8, .v (.int .i64 (-1)))] _ rfl ⟨⟨rfl, trivial⟩, rfl⟩ ?_
      refine JO.done rfl ?_
      cases h
      exact JS.ret ttOk () trivial rfl rfl [] rfl

def M_l_FnExactBodyEnd (x0 : List UInt8) (x1 : Int) (x2 : List UInt8) (x3 : Bool) : Option Bool :=
  (bif (decide (1048576 < (x0.length : Int))) then
  some true
  else
  (bif (decide (1048576 < (x2.length : Int))) then
  some true
  else
  (bindO (M_s_BodyEnd x0 x1 x2 x3) fun (y5 : Int) =>
  (bindO (M_i_BodyEnd x0 x1 x2 x3) fun (y7 : Int) =>
  (bif (!(decide (y7 = y5))) then
  some false
  else
  some true)))))

theorem ok_l_FnExactBodyEnd (x0 : List UInt8) (x1 : Int) (x2 : List UInt8) (x3 : Bool) (r : Bool) (h : M_l_FnExactBodyEnd x0 x1 x2 x3 = some r) :
    FC Tryd.prog 6 [.string (bs x0), .int .i64 x1, .string (bs x2), .bool x3] [] (fun _ : Unit => True) (fun _ => .bool r) (fun _ => []) :=
  by
    refine FC.of (T := TTx) Tryd.call6 Tryd.func6 rfl rfl fun w0 => ?_
    unfold M_l_FnExactBodyEnd at h
    refine JS.seq ?_
    refine JS.region ?_
    refine JO.reg ttOk 1 [] [] [] _ rfl ⟨trivial, rfl⟩ ?_
    refine JO.done rfl ?_
    refine JS.seq ?_
    refine JS.seq ?_
    refine JS.region ?_
    refine JO.reg ttOk 3 [] [] [(13, .v (.bool (decide (1048576 < (x0.length : Int)))))] _ rfl ⟨⟨rfl, trivial⟩, rfl⟩ ?_
    refine JO.done rfl ?_
    refine JS.cond rfl (fun ht14 => ?_) (fun ht14 => ?_)
    · have h := condT h ht14
      refine JS.seq ?_
      refine JS.region ?_
      refine JO.reg ttOk 1 [] [] [(8, .v (.bool true))] _ rfl ⟨⟨rfl, trivial⟩, rfl⟩ ?_
      refine JO.done rfl ?_
      cases h
      exact JS.ret ttOk () trivial rfl rfl [] rfl
    · have h := condF h ht14
      refine JS.skip ?_
      refine JS.seq ?_
      refine JS.seq ?_
      refine JS.region ?_
      refine JO.reg ttOk 3 [] [] [(16, .v (.bool (decide (1048576 < (x2.length : Int)))))] _ rfl ⟨⟨rfl, trivial⟩, rfl⟩ ?_
      refine JO.done rfl ?_
      refine JS.cond rfl (fun ht13 => ?_) (fun ht13 => ?_)
      · have h := condT h ht13
        refine JS.seq ?_
        refine JS.region ?_
        refine JO.reg ttOk 1 [] [] [(8, .v (.bool true))] _ rfl ⟨⟨rfl, trivial⟩, rfl⟩ ?_
        refine JO.done rfl ?_
        cases h
        exact JS.ret ttOk () trivial rfl rfl [] rfl
      · have h := condF h ht13
        refine JS.skip ?_
        refine JS.seq ?_
        refine JS.region ?_
        refine JO.reg ttOk 4 [] [] [(17, .v (.string (bs x0))), (18, .v (.int .i64 x1)), (19, .v (.string (bs x2))), (20, .v (.bool x3))] _ rfl ⟨⟨rfl, rfl, rfl, rfl, trivial⟩, rfl⟩ ?_
        obtain ⟨y5, hy6, h⟩ := bindO_some h
        refine JO.call rfl rfl rfl rfl (ok_s_BodyEnd x0 x1 x2 x3 _ hy6) rfl [] rfl rfl ?_
        intro _ _
        refine JO.reg ttOk 1 [] [] [(9, .v (.int .i64 y5))] _ rfl ⟨⟨rfl, trivial⟩, rfl⟩ ?_
        refine JO.done rfl ?_
        refine JS.seq ?_
        refine JS.region ?_
        refine JO.reg ttOk 4 [] [] [(22, .v (.string (bs x0))), (23, .v (.int .i64 x1)), (24, .v (.string (bs x2))), (25, .v (.bool x3))] _ rfl ⟨⟨rfl, rfl, rfl, rfl, trivial⟩, rfl⟩ ?_
        obtain ⟨y7, hy8, h⟩ := bindO_some h
        refine JO.call rfl rfl rfl rfl (ok_i_BodyEnd x0 x1 x2 x3 _ hy8) rfl [] rfl rfl ?_
        intro _ _
        refine JO.reg ttOk 1 [] [] [(10, .v (.int .i64 y7))] _ rfl ⟨⟨rfl, trivial⟩, rfl⟩ ?_
        refine JO.done rfl ?_
        refine JS.seq ?_
        refine JS.seq ?_
        refine JS.region ?_
        refine JO.reg ttOk 3 [] [] [(29, .v (.bool (!(decide (y7 = y5)))))] _ rfl ⟨⟨rfl, trivial⟩, rfl⟩ ?_
        refine JO.done rfl ?_
        refine JS.cond rfl (fun ht12 => ?_) (fun ht12 => ?_)
        · have h := condT h ht12
          refine JS.seq ?_
          refine JS.region ?_
          refine JO.reg ttOk 1 [] [] [(8, .v (.bool false))] _ rfl ⟨⟨rfl, trivial⟩, rfl⟩ ?_
          refine JO.done rfl ?_
          cases h
          exact JS.ret ttOk () trivial rfl rfl [] rfl
        · have h := condF h ht12
          refine JS.skip ?_
          refine JS.seq ?_
          refine JS.region ?_
          refine JO.reg ttOk 1 [] [] [(8, .v (.bool true))] _ rfl ⟨⟨rfl, trivial⟩, rfl⟩ ?_
          refine JO.done rfl ?_
          cases h
          exact JS.ret ttOk () trivial rfl rfl [] rfl

end
end Go.Eng
