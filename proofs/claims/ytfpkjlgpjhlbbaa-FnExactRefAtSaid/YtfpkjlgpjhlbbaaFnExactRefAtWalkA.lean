/- The walks of the functions that FnExactRefAt reaches: what each computes, as a plain function (M_..), and that the model computes it (ok_..). Condition of each: that the plain function answers. -/
import Derived.Test.YtfpkjlgpjhlbbaaEngA
import Derived.Test.YtfpkjlgpjhlbbaaChecked
import Derived.Lib.Strings
import Derived.Lib.Slices
import Derived.Lib.Walk
import Derived.Lib.Bytealg
set_option linter.unusedVariables false
set_option linter.unusedSimpArgs false
namespace Go.Proofs

set_option maxHeartbeats 1000000 in
set_option maxRecDepth 100000 in
/-- internal/stringslite.IndexByte (what strings.IndexByte calls): IT RETURNS 'Lib.indexByte s c'; the world is as it was. -/
theorem Try.stringslite_IndexByte (s : ByteArray) (c : Int) (w : World) :
    Calls Try.prog 40 #[.string s, .int .u8 c] w fun e w' => e = .returned (.int .i64 (Lib.indexByte s.data.toList c.toNat.toUInt8)) ∧ w' = w := by
  go_enter Try.func40, Try.ntmps40
  go_wp2
  rw [run_callFunc_extern Try.func41 (by kernel_rfl) (by kernel_rfl) (by kernel_rfl) (e := Extern.BytealgIndexByte.indexByte) (by kernel_rfl), Lib.run_indexByteString]
  simp only [Result.andThen]
  rw [Oper.upon_value]
  go_wp2
  go_ret
  exact ⟨rfl, rfl⟩

end Go.Proofs

namespace Go.Proofs

set_option maxHeartbeats 1000000 in
/-- strings.IndexByte: "IndexByte returns the index of the first instance of c in s, or -1 if c is not present in s.": IT RETURNS 'Lib.indexByte s c'; the world is as it was. -/
theorem Try.strings_IndexByte (s : ByteArray) (c : Int) (w : World) :
    Calls Try.prog 32 #[.string s, .int .u8 c] w fun e w' => e = .returned (.int .i64 (Lib.indexByte s.data.toList c.toNat.toUInt8)) ∧ w' = w := by
  go_enter Try.func32, Try.ntmps32
  go_wp2_with (go_at_call 40; refine (Try.stringslite_IndexByte _ _ _).mono ?_; rintro e w' ⟨rfl, rfl⟩)
  go_ret
  exact ⟨rfl, rfl⟩

end Go.Proofs

namespace Go.Eng
open Go Go.Proofs
noncomputable section

def TTx : TT := [
  (2, ⟨.int .i64, 1, 8, [.int .i64 0]⟩),
  (3, ⟨.int .i64, 1, 8, [.int .i64 0]⟩),
  (4, ⟨.bool, 1, 1, [.bool false]⟩),
  (5, ⟨.int .u8, 1, 1, [.int .u8 0]⟩),
  (6, ⟨.int .u8, 1, 1, [.int .u8 0]⟩),
  (7, ⟨.struct [(0, 2), (1, 3), (2, 4), (3, 6)], 4, 24, [.int .i64 0, .int .i64 0, .bool false, .int .u8 0]⟩),
  (8, ⟨.struct [(0, 2), (1, 3), (2, 4), (3, 6)], 4, 24, [.int .i64 0, .int .i64 0, .bool false, .int .u8 0]⟩),
  (9, ⟨.str, 1, 16, [.string ByteArray.empty]⟩),
  (10, ⟨.str, 1, 16, [.string ByteArray.empty]⟩),
  (11, ⟨.str, 1, 16, [.string ByteArray.empty]⟩),
  (12, ⟨.int .u64, 1, 8, [.int .u64 0]⟩),
  (13, ⟨.struct [(0, 9), (1, 12)], 2, 24, [.string ByteArray.empty, .int .u64 0]⟩),
  (14, ⟨.struct [(0, 9), (1, 12)], 2, 24, [.string ByteArray.empty, .int .u64 0]⟩),
  (21, ⟨.int .i32, 1, 4, [.int .i32 0]⟩),
  (29, ⟨.struct [(0, 3), (1, 3), (2, 9), (3, 3)], 4, 40, [.int .i64 0, .int .i64 0, .string ByteArray.empty, .int .i64 0]⟩),
  (30, ⟨.struct [(0, 3), (1, 3), (2, 9), (3, 3)], 4, 40, [.int .i64 0, .int .i64 0, .string ByteArray.empty, .int .i64 0]⟩),
  (34, ⟨.slice 3, 1, 24, [.slice none 0 0]⟩),
  (52, ⟨.int .u32, 1, 4, [.int .u32 0]⟩),
  (53, ⟨.int .u8, 1, 1, [.int .u8 0]⟩),
  (54, ⟨.int .u8, 1, 1, [.int .u8 0]⟩),
  (57, ⟨.int .i32, 1, 4, [.int .i32 0]⟩),
  (58, ⟨.int .i32, 1, 4, [.int .i32 0]⟩)]

theorem ttOk : TTok Try.prog TTx := TTok.of (by
  simp only [TTx, List.forall_mem_cons]
  exact ⟨⟨⟨_, _, rfl, rfl, rfl, rfl, rfl⟩, rfl⟩, ⟨⟨_, _, rfl, rfl, rfl, rfl, rfl⟩, rfl⟩, ⟨⟨_, _, rfl, rfl, rfl, rfl, rfl⟩, rfl⟩, ⟨⟨_, _, rfl, rfl, rfl, rfl, rfl⟩, rfl⟩, ⟨⟨_, _, rfl, rfl, rfl, rfl, rfl⟩, rfl⟩, ⟨⟨_, _, rfl, rfl, rfl, rfl, rfl⟩, ⟨_, rfl, rfl⟩⟩, ⟨⟨_, _, rfl, rfl, rfl, rfl, rfl⟩, ⟨_, rfl, rfl⟩⟩, ⟨⟨_, _, rfl, rfl, rfl, rfl, rfl⟩, rfl⟩, ⟨⟨_, _, rfl, rfl, rfl, rfl, rfl⟩, rfl⟩, ⟨⟨_, _, rfl, rfl, rfl, rfl, rfl⟩, rfl⟩, ⟨⟨_, _, rfl, rfl, rfl, rfl, rfl⟩, rfl⟩, ⟨⟨_, _, rfl, rfl, rfl, rfl, rfl⟩, ⟨_, rfl, rfl⟩⟩, ⟨⟨_, _, rfl, rfl, rfl, rfl, rfl⟩, ⟨_, rfl, rfl⟩⟩, ⟨⟨_, _, rfl, rfl, rfl, rfl, rfl⟩, rfl⟩, ⟨⟨_, _, rfl, rfl, rfl, rfl, rfl⟩, ⟨_, rfl, rfl⟩⟩, ⟨⟨_, _, rfl, rfl, rfl, rfl, rfl⟩, ⟨_, rfl, rfl⟩⟩, ⟨⟨_, _, rfl, rfl, rfl, rfl, rfl⟩, rfl⟩, ⟨⟨_, _, rfl, rfl, rfl, rfl, rfl⟩, rfl⟩, ⟨⟨_, _, rfl, rfl, rfl, rfl, rfl⟩, rfl⟩, ⟨⟨_, _, rfl, rfl, rfl, rfl, rfl⟩, rfl⟩, ⟨⟨_, _, rfl, rfl, rfl, rfl, rfl⟩, rfl⟩, ⟨⟨_, _, rfl, rfl, rfl, rfl, rfl⟩, rfl⟩, by simp⟩)

def M_s_l20Number_L1 (x0 : List UInt8) (x1 : Int) (j23 : (Int × Int) → Option (Int × Int)) (k12 : (Int × Int) → Option (Int × Int)) : (Int × Int) → Option (Int × Int) := fun (x3, x4) =>
  (guardO (((bif (decide (x4 < (x0.length : Int))) then (decide (x4 < (W (x1 + 9)))) else false) = true) → 0 ≤ x4 ∧ x4 < (x0.length : Int)) <|
  (guardO (((bif (bif (decide (x4 < (x0.length : Int))) then (decide (x4 < (W (x1 + 9)))) else false) then (decide ((48 : Int) ≤ ((at' x0 x4).toNat : Int))) else false) = true) → 0 ≤ x4 ∧ x4 < (x0.length : Int)) <|
  (bif (bif (bif (bif (decide (x4 < (x0.length : Int))) then (decide (x4 < (W (x1 + 9)))) else false) then (decide ((48 : Int) ≤ ((at' x0 x4).toNat : Int))) else false) then (decide (((at' x0 x4).toNat : Int) ≤ (57 : Int))) else false) then
  (guardO (0 ≤ x4 ∧ x4 < (x0.length : Int)) <|
  k12 ((W ((W (x3 * 10)) + ((u8 (((at' x0 x4).toNat : Int) - (48 : Int))).toNat : Int))), (W (x4 + 1))))
  else
  j23 (x3, x4))))

def M_s_l20Number (x0 : List UInt8) (x1 : Int) : Option (Int × Int) :=
  (joinO (fun ((x21, x22) : Int × Int) =>
  some (x21, x22)) fun j23 =>
  (fixF (M_s_l20Number_L1 x0 x1 j23) FUEL (0, x1)))

theorem ok_s_l20Number (x0 : List UInt8) (x1 : Int) (r : Int × Int) (h : M_s_l20Number x0 x1 = some r) :
    FC Try.prog 33 [.string (bs x0), .int .i64 x1] [] (fun _ : Unit => True) (fun _ => .tuple #[.int .i64 r.1, .int .i64 r.2]) (fun _ => []) :=
  FC.of (T := TTx) Try.call33 Try.func33 rfl rfl fun w0 => by
    unfold M_s_l20Number at h
    refine JS.seq ?_
    refine JS.region ?_
    refine JO.reg ttOk 2 [] [] [] _ rfl ⟨trivial, rfl⟩ ?_
    refine JO.done rfl ?_
    refine JS.seq ?_
    refine JS.region ?_
    refine JO.reg ttOk 1 [] [] [(6, .v (.int .i64 0))] _ rfl ⟨⟨rfl, trivial⟩, rfl⟩ ?_
    refine JO.done rfl ?_
    refine JS.seq ?_
    refine JS.region ?_
    refine JO.reg ttOk 2 [] [] [(7, .v (.int .i64 x1))] _ rfl ⟨⟨rfl, trivial⟩, rfl⟩ ?_
    refine JO.done rfl ?_
    refine JS.seq ?_
    obtain ⟨j23, hj39, h⟩ := joinO_some h
    refine JS.blockJ (ι := Int × Int) ⟨fun z => j23 (z.1, z.2) = some r, fun z => [(6, .v (.int .i64 z.1)), (7, .v (.int .i64 z.2))], fun z => .nil, fun z => [], fun z => [], fun z => 0⟩ ?_ ?_
    · refine JS.loop (ι := Nat × Int × Int) ⟨fun z => fixF (M_s_l20Number_L1 x0 x1 j23) z.1 (z.2.1, z.2.2) = some r, fun z => [(0, .v (.string (bs x0))), (1, .v (.int .i64 x1)), (6, .v (.int .i64 z.2.1)), (7, .v (.int .i64 z.2.2))], fun z => .nil, fun z => [], fun z => [], fun z => z.1⟩ (FUEL, 0, x1) h ⟨rfl, rfl, rfl, rfl, trivial⟩ trivial [] rfl [] rfl ?_
      rintro ⟨n13, x3, x4⟩ h
      obtain ⟨n13, rfl, h⟩ := fixF_some h
      rw [M_s_l20Number_L1] at h
      refine JS.seq ?_
      refine JS.seq ?_
      refine JS.region ?_
      obtain ⟨g33, h⟩ := guardO_some h
      obtain ⟨g35, h⟩ := guardO_some h
      refine JO.reg ttOk 22 [(W (x1 + 9))] [] [(30, .v (.bool (bif (bif (bif (decide (x4 < (x0.length : Int))) then (decide (x4 < (W (x1 + 9)))) else false) then (decide ((48 : Int) ≤ ((at' x0 x4).toNat : Int))) else false) then (decide (((at' x0 x4).toNat : Int) ≤ (57 : Int))) else false)))] _ rfl ⟨(fun q32 => ⟨trivial, rfl⟩), (fun q34 => (g33 q34)), (fun q36 => (g35 q36)), ⟨rfl, trivial⟩, rfl⟩ ?_
      refine JO.done rfl ?_
      refine JS.cond rfl (fun ht38 => ?_) (fun ht38 => ?_)
      · have h := condT h ht38
        refine JS.skip ?_
        refine JS.block ?_
        refine JS.seq ?_
        refine JS.region ?_
        obtain ⟨g37, h⟩ := guardO_some h
        refine JO.reg ttOk 9 [(W (x3 * 10)), ((u8 (((at' x0 x4).toNat : Int) - (48 : Int))).toNat : Int), ((u8 (((at' x0 x4).toNat : Int) - (48 : Int))).toNat : Int), (W ((W (x3 * 10)) + ((u8 (((at' x0 x4).toNat : Int) - (48 : Int))).toNat : Int)))] [] [(6, .v (.int .i64 (W ((W (x3 * 10)) + ((u8 (((at' x0 x4).toNat : Int) - (48 : Int))).toNat : Int)))))] _ rfl ⟨⟨trivial, rfl⟩, g37, ⟨trivial, u8_wrap _⟩, ⟨trivial, W_byte _⟩, ⟨trivial, rfl⟩, ⟨rfl, trivial⟩, rfl⟩ ?_
        refine JO.done rfl ?_
        refine JS.region ?_
        refine JO.reg ttOk 3 [(W (x4 + 1))] [] [(7, .v (.int .i64 (W (x4 + 1))))] _ rfl ⟨⟨trivial, rfl⟩, ⟨rfl, trivial⟩, rfl⟩ ?_
        refine JO.done rfl ?_
        refine JS.endB ?_
        exact JS.endL (n13, (W ((W (x3 * 10)) + ((u8 (((at' x0 x4).toNat : Int) - (48 : Int))).toNat : Int))), (W (x4 + 1))) h (Nat.lt_succ_self _) ⟨rfl, rfl, rfl, rfl, trivial⟩ trivial [] rfl [] rfl
      · have h := condF h ht38
        refine JS.exit rfl ?_
        exact JS.endJ (x3, x4) h ⟨rfl, rfl, trivial⟩ trivial [] rfl [] rfl
    · rintro ⟨x21, x22⟩ h
      subst hj39
      refine JS.seq ?_
      refine JS.region ?_
      refine JO.reg ttOk 4 [] [] [(4, .v (.int .i64 x21)), (5, .v (.int .i64 x22))] _ rfl ⟨⟨rfl, rfl, trivial⟩, rfl⟩ ?_
      refine JO.done rfl ?_
      cases h
      exact JS.ret ttOk () trivial rfl rfl [] rfl

def M_s_l16In_L1 (x0 : List UInt8) (x1 : List UInt8) (x2 : Bool) (j15 : Unit → Option Bool) (k9 : Int → Option Bool) : Int → Option Bool := fun x4 =>
  (bif (decide ((W (x4 + (x1.length : Int))) ≤ (x0.length : Int))) then
  (guardO (0 ≤ x4 ∧ x4 ≤ (W (x4 + (x1.length : Int))) ∧ (W (x4 + (x1.length : Int))) ≤ (x0.length : Int)) <|
  (bif (decide ((sub' x0 x4 (W (x4 + (x1.length : Int)))) = x1)) then
  some true
  else
  (bif x2 then
  some false
  else
  k9 (W (x4 + 1)))))
  else
  j15 ())

def M_s_l16In (x0 : List UInt8) (x1 : List UInt8) (x2 : Bool) : Option Bool :=
  (joinO (fun (_ : Unit) =>
  some false) fun j15 =>
  (fixF (M_s_l16In_L1 x0 x1 x2 j15) FUEL 0))

theorem ok_s_l16In (x0 : List UInt8) (x1 : List UInt8) (x2 : Bool) (r : Bool) (h : M_s_l16In x0 x1 x2 = some r) :
    FC Try.prog 34 [.string (bs x0), .string (bs x1), .bool x2] [] (fun _ : Unit => True) (fun _ => .bool r) (fun _ => []) :=
  FC.of (T := TTx) Try.call34 Try.func34 rfl rfl fun w0 => by
    unfold M_s_l16In at h
    refine JS.seq ?_
    refine JS.region ?_
    refine JO.reg ttOk 1 [] [] [] _ rfl ⟨trivial, rfl⟩ ?_
    refine JO.done rfl ?_
    refine JS.seq ?_
    refine JS.seq ?_
    refine JS.region ?_
    refine JO.reg ttOk 1 [] [] [(7, .v (.int .i64 0))] _ rfl ⟨⟨rfl, trivial⟩, rfl⟩ ?_
    refine JO.done rfl ?_
    obtain ⟨j15, hj25, h⟩ := joinO_some h
    refine JS.blockJ (ι := Unit) ⟨fun _ => j15 () = some r, fun _ => [], fun _ => .nil, fun _ => [], fun _ => [], fun _ => 0⟩ ?_ ?_
    · refine JS.loop (ι := Nat × Int) ⟨fun z => fixF (M_s_l16In_L1 x0 x1 x2 j15) z.1 z.2 = some r, fun z => [(0, .v (.string (bs x0))), (1, .v (.string (bs x1))), (2, .v (.bool x2)), (7, .v (.int .i64 z.2))], fun z => .nil, fun z => [], fun z => [], fun z => z.1⟩ (FUEL, 0) h ⟨rfl, rfl, rfl, rfl, trivial⟩ trivial [] rfl [] rfl ?_
      rintro ⟨n10, x4⟩ h
      obtain ⟨n10, rfl, h⟩ := fixF_some h
      rw [M_s_l16In_L1] at h
      refine JS.seq ?_
      refine JS.seq ?_
      refine JS.region ?_
      refine JO.reg ttOk 7 [(W (x4 + (x1.length : Int)))] [] [(14, .v (.bool (decide ((W (x4 + (x1.length : Int))) ≤ (x0.length : Int)))))] _ rfl ⟨⟨trivial, rfl⟩, ⟨rfl, trivial⟩, rfl⟩ ?_
      refine JO.done rfl ?_
      refine JS.cond rfl (fun ht24 => ?_) (fun ht24 => ?_)
      · have h := condT h ht24
        refine JS.skip ?_
        refine JS.seq ?_
        refine JS.block ?_
        refine JS.seq ?_
        refine JS.seq ?_
        refine JS.region ?_
        obtain ⟨g21, h⟩ := guardO_some h
        refine JO.reg ttOk 9 [(W (x4 + (x1.length : Int)))] [] [(25, .v (.bool (decide ((sub' x0 x4 (W (x4 + (x1.length : Int)))) = x1))))] _ rfl ⟨⟨trivial, rfl⟩, g21, ⟨rfl, trivial⟩, rfl⟩ ?_
        refine JO.done rfl ?_
        refine JS.cond rfl (fun ht23 => ?_) (fun ht23 => ?_)
        · have h := condT h ht23
          refine JS.seq ?_
          refine JS.region ?_
          refine JO.reg ttOk 1 [] [] [(6, .v (.bool true))] _ rfl ⟨⟨rfl, trivial⟩, rfl⟩ ?_
          refine JO.done rfl ?_
          cases h
          exact JS.ret ttOk () trivial rfl rfl [] rfl
        · have h := condF h ht23
          refine JS.skip ?_
          refine JS.seq ?_
          refine JS.region ?_
          refine JO.reg ttOk 1 [] [] [(26, .v (.bool x2))] _ rfl ⟨⟨rfl, trivial⟩, rfl⟩ ?_
          refine JO.done rfl ?_
          refine JS.cond rfl (fun ht22 => ?_) (fun ht22 => ?_)
          · have h := condT h ht22
            refine JS.seq ?_
            refine JS.region ?_
            refine JO.reg ttOk 1 [] [] [(6, .v (.bool false))] _ rfl ⟨⟨rfl, trivial⟩, rfl⟩ ?_
            refine JO.done rfl ?_
            cases h
            exact JS.ret ttOk () trivial rfl rfl [] rfl
          · have h := condF h ht22
            refine JS.skip ?_
            refine JS.endB ?_
            refine JS.region ?_
            refine JO.reg ttOk 3 [(W (x4 + 1))] [] [(7, .v (.int .i64 (W (x4 + 1))))] _ rfl ⟨⟨trivial, rfl⟩, ⟨rfl, trivial⟩, rfl⟩ ?_
            refine JO.done rfl ?_
            exact JS.endL (n10, (W (x4 + 1))) h (Nat.lt_succ_self _) ⟨rfl, rfl, rfl, rfl, trivial⟩ trivial [] rfl [] rfl
      · have h := condF h ht24
        refine JS.exit rfl ?_
        exact JS.endJ () h trivial trivial [] rfl [] rfl
    · rintro _ h
      subst hj25
      refine JS.seq ?_
      refine JS.region ?_
      refine JO.reg ttOk 1 [] [] [(6, .v (.bool false))] _ rfl ⟨⟨rfl, trivial⟩, rfl⟩ ?_
      refine JO.done rfl ?_
      cases h
      exact JS.ret ttOk () trivial rfl rfl [] rfl

def M_s_RefAt_L1 (x0 : List UInt8) (j57 : (Int × Int × Int × List UInt8 × Int) → Option ((Int × Int × List UInt8 × Int) × Bool)) (k44 : Int → Option ((Int × Int × List UInt8 × Int) × Bool)) : Int → Option ((Int × Int × List UInt8 × Int) × Bool) := fun x26 =>
  (guardO (((decide (x26 < (x0.length : Int))) = true) → 0 ≤ x26 ∧ x26 ≤ (W (x26 + 1)) ∧ (W (x26 + 1)) ≤ (x0.length : Int)) <|
  (callO ((decide (x26 < (x0.length : Int))) = true) (M_s_l16In ([32, 9, 10, 59, 38, 124, 60, 62, 40, 41, 61, 33, 39, 34]) (sub' x0 x26 (W (x26 + 1))) false) false fun (y34 : Bool) =>
  (bif (bif (decide (x26 < (x0.length : Int))) then (!y34) else false) then
  k44 (W (x26 + 1))
  else
  j57 (x26, 0, 0, [], 0))))

def M_s_RefAt (x0 : List UInt8) (x1 : Int) : Option ((Int × Int × List UInt8 × Int) × Bool) :=
  (guardO (((bif (decide (x1 < 0)) then true else (decide ((x0.length : Int) ≤ x1))) = false) → 0 ≤ x1 ∧ x1 < (x0.length : Int)) <|
  (bif (bif (bif (decide (x1 < 0)) then true else (decide ((x0.length : Int) ≤ x1))) then true else (!(decide (((at' x0 x1).toNat : Int) = (33 : Int))))) then
  some ((0, 0, [], 0), false)
  else
  (guardO (((decide ((W (x1 + 1)) < (x0.length : Int))) = true) → 0 ≤ (W (x1 + 1)) ∧ (W (x1 + 1)) < (x0.length : Int)) <|
  (bif (bif (decide ((W (x1 + 1)) < (x0.length : Int))) then (decide (((at' x0 (W (x1 + 1))).toNat : Int) = (33 : Int))) else false) then
  some ((1, 0, [], (W (x1 + 2))), true)
  else
  (bindO (M_s_l20Number x0 (W (x1 + 1))) fun (y8, y9) =>
  (bif (decide ((W (x1 + 1)) < y9)) then
  some ((2, y8, [], y9), true)
  else
  (joinO (fun (_ : Unit) =>
  (joinO (fun ((x52, x53, x54, x55, x56) : Int × Int × Int × List UInt8 × Int) =>
  (bif (decide (x52 = (W (x1 + 1)))) then
  some ((0, 0, [], 0), false)
  else
  (guardO (0 ≤ (W (x1 + 1)) ∧ (W (x1 + 1)) ≤ x52 ∧ x52 ≤ (x0.length : Int)) <|
  some ((4, 0, (sub' x0 (W (x1 + 1)) x52), x52), true)))) fun j57 =>
  (fixF (M_s_RefAt_L1 x0 j57) FUEL (W (x1 + 1))))) fun j19 =>
  (guardO (((decide ((W (x1 + 1)) < (x0.length : Int))) = true) → 0 ≤ (W (x1 + 1)) ∧ (W (x1 + 1)) < (x0.length : Int)) <|
  (bif (bif (decide ((W (x1 + 1)) < (x0.length : Int))) then (decide (((at' x0 (W (x1 + 1))).toNat : Int) = (45 : Int))) else false) then
  (bindO (M_s_l20Number x0 (W (x1 + 2))) fun (y14, y15) =>
  (bif (decide ((W (x1 + 2)) < y15)) then
  some ((3, y14, [], y15), true)
  else
  j19 ()))
  else
  j19 ())))))))))

theorem ok_s_RefAt (x0 : List UInt8) (x1 : Int) (r : (Int × Int × List UInt8 × Int) × Bool) (h : M_s_RefAt x0 x1 = some r) :
    FC Try.prog 20 [.string (bs x0), .int .i64 x1] [] (fun _ : Unit => True) (fun _ => .tuple #[.agg #[.int .i64 r.1.1, .int .i64 r.1.2.1, .string (bs r.1.2.2.1), .int .i64 r.1.2.2.2], .bool r.2]) (fun _ => []) :=
  FC.of (T := TTx) Try.call20 Try.func20 rfl rfl fun w0 => by
    unfold M_s_RefAt at h
    refine JS.seq ?_
    refine JS.region ?_
    refine JO.regB ttOk 2 [] [1] [(4, .bp 1 0)] (.new 1 30 [.int .i64 0, .int .i64 0, .string (bs []), .int .i64 0] .nil) rfl ⟨⟨rfl, trivial⟩, ⟨rfl, rfl, rfl, rfl, trivial⟩⟩ ?_
    refine JO.done rfl ?_
    refine JS.seq ?_
    refine JS.seq ?_
    refine JS.region ?_
    obtain ⟨g71, h⟩ := guardO_some h
    refine JO.reg ttOk 14 [] [] [(21, .v (.bool (bif (bif (decide (x1 < 0)) then true else (decide ((x0.length : Int) ≤ x1))) then true else (!(decide (((at' x0 x1).toNat : Int) = (33 : Int)))))))] _ rfl ⟨(fun q72 => (g71 q72)), ⟨rfl, trivial⟩, rfl⟩ ?_
    refine JO.done rfl ?_
    refine JS.cond rfl (fun ht95 => ?_) (fun ht95 => ?_)
    · have h := condT h ht95
      refine JS.seq ?_
      refine JS.region ?_
      refine JO.regB ttOk 3 [] [] [(5, .v (.bool false))] (.new 1 30 [.int .i64 0, .int .i64 0, .string (bs []), .int .i64 0] .nil) rfl ⟨⟨rfl, trivial⟩, ⟨rfl, rfl, rfl, rfl, trivial⟩⟩ ?_
      refine JO.done rfl ?_
      cases h
      exact JS.ret ttOk () trivial rfl rfl [] rfl
    · have h := condF h ht95
      refine JS.skip ?_
      refine JS.seq ?_
      refine JS.seq ?_
      refine JS.region ?_
      obtain ⟨g74, h⟩ := guardO_some h
      refine JO.reg ttOk 12 [(W (x1 + 1)), (W (x1 + 1))] [] [(34, .v (.bool (bif (decide ((W (x1 + 1)) < (x0.length : Int))) then (decide (((at' x0 (W (x1 + 1))).toNat : Int) = (33 : Int))) else false)))] _ rfl ⟨⟨trivial, rfl⟩, (fun q73 => ⟨trivial, rfl⟩), (fun q75 => (g74 q75)), ⟨rfl, trivial⟩, rfl⟩ ?_
      refine JO.done rfl ?_
      refine JS.cond rfl (fun ht94 => ?_) (fun ht94 => ?_)
      · have h := condT h ht94
        refine JS.seq ?_
        refine JS.region ?_
        refine JO.regB ttOk 5 [(W (x1 + 2))] [] [(5, .v (.bool true))] (.new 1 30 [.int .i64 1, .int .i64 0, .string (bs []), .int .i64 (W (x1 + 2))] .nil) rfl ⟨⟨trivial, rfl⟩, ⟨rfl, trivial⟩, ⟨rfl, rfl, rfl, rfl, trivial⟩⟩ ?_
        refine JO.done rfl ?_
        cases h
        exact JS.ret ttOk () trivial rfl rfl [] rfl
      · have h := condF h ht94
        refine JS.skip ?_
        refine JS.seq ?_
        refine JS.region ?_
        refine JO.reg ttOk 3 [(W (x1 + 1))] [] [(39, .v (.string (bs x0))), (41, .v (.int .i64 (W (x1 + 1))))] _ rfl ⟨⟨trivial, rfl⟩, ⟨rfl, rfl, trivial⟩, rfl⟩ ?_
        obtain ⟨⟨y8, y9⟩, hy76, h⟩ := bindO_some h
        refine JO.call rfl rfl rfl rfl (ok_s_l20Number x0 (W (x1 + 1)) _ hy76) rfl [] rfl rfl ?_
        intro _ _
        refine JO.reg ttOk 5 [] [] [(6, .v (.int .i64 y8)), (7, .v (.int .i64 y9))] _ rfl ⟨⟨rfl, rfl, trivial⟩, rfl⟩ ?_
        refine JO.done rfl ?_
        refine JS.seq ?_
        refine JS.seq ?_
        refine JS.region ?_
        refine JO.reg ttOk 4 [(W (x1 + 1))] [] [(48, .v (.bool (decide ((W (x1 + 1)) < y9))))] _ rfl ⟨⟨trivial, rfl⟩, ⟨rfl, trivial⟩, rfl⟩ ?_
        refine JO.done rfl ?_
        refine JS.cond rfl (fun ht93 => ?_) (fun ht93 => ?_)
        · have h := condT h ht93
          refine JS.seq ?_
          refine JS.region ?_
          refine JO.regB ttOk 5 [] [] [(5, .v (.bool true))] (.new 1 30 [.int .i64 2, .int .i64 y8, .string (bs []), .int .i64 y9] .nil) rfl ⟨⟨rfl, trivial⟩, ⟨rfl, rfl, rfl, rfl, trivial⟩⟩ ?_
          refine JO.done rfl ?_
          cases h
          exact JS.ret ttOk () trivial rfl rfl [] rfl
        · have h := condF h ht93
          refine JS.skip ?_
          obtain ⟨j19, hj92, h⟩ := joinO_some h
          refine JS.seqJ (ι := Unit) ⟨fun _ => j19 () = some r, fun _ => [(0, .v (.string (bs x0))), (1, .v (.int .i64 x1)), (4, .bp 1 0)], fun _ => (.new 1 30 [.int .i64 0, .int .i64 0, .string (bs []), .int .i64 0] .nil), fun _ => [], fun _ => [], fun _ => 0⟩ ?_ ?_
          · refine JS.seq ?_
            refine JS.region ?_
            obtain ⟨g78, h⟩ := guardO_some h
            refine JO.reg ttOk 12 [(W (x1 + 1)), (W (x1 + 1))] [] [(63, .v (.bool (bif (decide ((W (x1 + 1)) < (x0.length : Int))) then (decide (((at' x0 (W (x1 + 1))).toNat : Int) = (45 : Int))) else false)))] _ rfl ⟨⟨trivial, rfl⟩, (fun q77 => ⟨trivial, rfl⟩), (fun q79 => (g78 q79)), ⟨rfl, trivial⟩, rfl⟩ ?_
            refine JO.done rfl ?_
            refine JS.cond rfl (fun ht82 => ?_) (fun ht82 => ?_)
            · have h := condT h ht82
              refine JS.seq ?_
              refine JS.region ?_
              refine JO.reg ttOk 3 [(W (x1 + 2))] [] [(65, .v (.string (bs x0))), (67, .v (.int .i64 (W (x1 + 2))))] _ rfl ⟨⟨trivial, rfl⟩, ⟨rfl, rfl, trivial⟩, rfl⟩ ?_
              obtain ⟨⟨y14, y15⟩, hy80, h⟩ := bindO_some h
              refine JO.call rfl rfl rfl rfl (ok_s_l20Number x0 (W (x1 + 2)) _ hy80) rfl [] rfl rfl ?_
              intro _ _
              refine JO.reg ttOk 5 [] [] [(6, .v (.int .i64 y14)), (7, .v (.int .i64 y15))] _ rfl ⟨⟨rfl, rfl, trivial⟩, rfl⟩ ?_
              refine JO.done rfl ?_
              refine JS.seq ?_
              refine JS.region ?_
              refine JO.reg ttOk 4 [(W (x1 + 2))] [] [(74, .v (.bool (decide ((W (x1 + 2)) < y15))))] _ rfl ⟨⟨trivial, rfl⟩, ⟨rfl, trivial⟩, rfl⟩ ?_
              refine JO.done rfl ?_
              refine JS.cond rfl (fun ht81 => ?_) (fun ht81 => ?_)
              · have h := condT h ht81
                refine JS.seq ?_
                refine JS.region ?_
                refine JO.regB ttOk 5 [] [] [(5, .v (.bool true))] (.new 1 30 [.int .i64 3, .int .i64 y14, .string (bs []), .int .i64 y15] .nil) rfl ⟨⟨rfl, trivial⟩, ⟨rfl, rfl, rfl, rfl, trivial⟩⟩ ?_
                refine JO.done rfl ?_
                cases h
                exact JS.ret ttOk () trivial rfl rfl [] rfl
              · have h := condF h ht81
                refine JS.skip ?_
                exact JS.endJ () h ⟨rfl, rfl, rfl, trivial⟩ ⟨rfl, rfl, rfl, rfl, trivial⟩ [] rfl [] rfl
            · have h := condF h ht82
              refine JS.skip ?_
              exact JS.endJ () h ⟨rfl, rfl, rfl, trivial⟩ ⟨rfl, rfl, rfl, rfl, trivial⟩ [] rfl [] rfl
          · rintro _ h
            subst hj92
            refine JS.seq ?_
            refine JS.region ?_
            refine JO.reg ttOk 3 [(W (x1 + 1))] [] [(7, .v (.int .i64 (W (x1 + 1))))] _ rfl ⟨⟨trivial, rfl⟩, ⟨rfl, trivial⟩, rfl⟩ ?_
            refine JO.done rfl ?_
            refine JS.seq ?_
            obtain ⟨j57, hj91, h⟩ := joinO_some h
            refine JS.blockJ (ι := Int × Int × Int × List UInt8 × Int) ⟨fun z => j57 (z.1, z.2.1, z.2.2.1, z.2.2.2.1, z.2.2.2.2) = some r, fun z => [(0, .v (.string (bs x0))), (1, .v (.int .i64 x1)), (4, .bp 1 0), (7, .v (.int .i64 z.1))], fun z => (.new 1 30 [.int .i64 z.2.1, .int .i64 z.2.2.1, .string (bs z.2.2.2.1), .int .i64 z.2.2.2.2] .nil), fun z => [], fun z => [], fun z => 0⟩ ?_ ?_
            · refine JS.loop (ι := Nat × Int) ⟨fun z => fixF (M_s_RefAt_L1 x0 j57) z.1 z.2 = some r, fun z => [(0, .v (.string (bs x0))), (1, .v (.int .i64 x1)), (4, .bp 1 0), (7, .v (.int .i64 z.2))], fun z => (.new 1 30 [.int .i64 0, .int .i64 0, .string (bs []), .int .i64 0] .nil), fun z => [], fun z => [], fun z => z.1⟩ (FUEL, (W (x1 + 1))) h ⟨rfl, rfl, rfl, rfl, trivial⟩ ⟨rfl, rfl, rfl, rfl, trivial⟩ [] rfl [] rfl ?_
              rintro ⟨n45, x26⟩ h
              obtain ⟨n45, rfl, h⟩ := fixF_some h
              rw [M_s_RefAt_L1] at h
              refine JS.seq ?_
              refine JS.seq ?_
              refine JS.region ?_
              obtain ⟨g84, h⟩ := guardO_some h
              refine JO.reg ttOk 10 [(W (x26 + 1))] [] [(84, .v (.bool (decide (x26 < (x0.length : Int))))), (89, .cd [(84, true)] (.v (.string (bs (sub' x0 x26 (W (x26 + 1)))))))] _ rfl ⟨(fun q83 => ⟨trivial, rfl⟩), (fun q85 => (g84 q85)), ⟨rfl, rfl, trivial⟩, rfl⟩ ?_
              obtain ⟨y34, hy86, -, h⟩ := callO_some h
              refine JO.callg rfl rfl rfl rfl (fun q87 => ok_s_l16In ([32, 9, 10, 59, 38, 124, 60, 62, 40, 41, 61, 33, 39, 34]) (sub' x0 x26 (W (x26 + 1))) false _ (hy86 q87)) rfl [] rfl rfl ?_
              refine JO.reg ttOk 2 [] [] [(92, .v (.bool (bif (decide (x26 < (x0.length : Int))) then (!y34) else false)))] _ rfl ⟨⟨rfl, trivial⟩, rfl⟩ ?_
              refine JO.done rfl ?_
              refine JS.cond rfl (fun ht88 => ?_) (fun ht88 => ?_)
              · have h := condT h ht88
                refine JS.skip ?_
                refine JS.block ?_
                refine JS.region ?_
                refine JO.reg ttOk 3 [(W (x26 + 1))] [] [(7, .v (.int .i64 (W (x26 + 1))))] _ rfl ⟨⟨trivial, rfl⟩, ⟨rfl, trivial⟩, rfl⟩ ?_
                refine JO.done rfl ?_
                refine JS.endB ?_
                exact JS.endL (n45, (W (x26 + 1))) h (Nat.lt_succ_self _) ⟨rfl, rfl, rfl, rfl, trivial⟩ ⟨rfl, rfl, rfl, rfl, trivial⟩ [] rfl [] rfl
              · have h := condF h ht88
                refine JS.exit rfl ?_
                exact JS.endJ (x26, 0, 0, [], 0) h ⟨rfl, rfl, rfl, rfl, trivial⟩ ⟨rfl, rfl, rfl, rfl, trivial⟩ [] rfl [] rfl
            · rintro ⟨x52, x53, x54, x55, x56⟩ h
              subst hj91
              refine JS.seq ?_
              refine JS.seq ?_
              refine JS.region ?_
              refine JO.reg ttOk 4 [(W (x1 + 1))] [] [(98, .v (.bool (decide (x52 = (W (x1 + 1))))))] _ rfl ⟨⟨trivial, rfl⟩, ⟨rfl, trivial⟩, rfl⟩ ?_
              refine JO.done rfl ?_
              refine JS.cond rfl (fun ht90 => ?_) (fun ht90 => ?_)
              · have h := condT h ht90
                refine JS.seq ?_
                refine JS.region ?_
                refine JO.regB ttOk 3 [] [] [(5, .v (.bool false))] (.new 1 30 [.int .i64 0, .int .i64 0, .string (bs []), .int .i64 0] .nil) rfl ⟨⟨rfl, trivial⟩, ⟨rfl, rfl, rfl, rfl, trivial⟩⟩ ?_
                refine JO.done rfl ?_
                cases h
                exact JS.ret ttOk () trivial rfl rfl [] rfl
              · have h := condF h ht90
                refine JS.skip ?_
                refine JS.seq ?_
                refine JS.region ?_
                obtain ⟨g89, h⟩ := guardO_some h
                refine JO.regB ttOk 9 [(W (x1 + 1))] [] [(5, .v (.bool true))] (.new 1 30 [.int .i64 4, .int .i64 0, .string (bs (sub' x0 (W (x1 + 1)) x52)), .int .i64 x52] .nil) rfl ⟨⟨trivial, rfl⟩, g89, ⟨rfl, trivial⟩, ⟨rfl, rfl, rfl, rfl, trivial⟩⟩ ?_
                refine JO.done rfl ?_
                cases h
                exact JS.ret ttOk () trivial rfl rfl [] rfl

def M_i_in (x0 : Int) (x1 : Int) (x2 : Int) : Option Bool :=
  some (bif (decide (x1 ≤ x0)) then (decide (x0 ≤ x2)) else false)

theorem ok_i_in (x0 : Int) (x1 : Int) (x2 : Int) (r : Bool) (h : M_i_in x0 x1 x2 = some r) :
    FC Try.prog 35 [.int .i64 x0, .int .i64 x1, .int .i64 x2] [] (fun _ : Unit => True) (fun _ => .bool r) (fun _ => []) :=
  FC.of (T := TTx) Try.call35 Try.func35 rfl rfl fun w0 => by
    unfold M_i_in at h
    refine JS.seq ?_
    refine JS.region ?_
    refine JO.reg ttOk 1 [] [] [] _ rfl ⟨trivial, rfl⟩ ?_
    refine JO.done rfl ?_
    refine JS.seq ?_
    refine JS.region ?_
    refine JO.reg ttOk 9 [] [] [(6, .v (.bool (bif (decide (x1 ≤ x0)) then (decide (x0 ≤ x2)) else false)))] _ rfl ⟨⟨rfl, trivial⟩, rfl⟩ ?_
    refine JO.done rfl ?_
    cases h
    exact JS.ret ttOk () trivial rfl rfl [] rfl

def M_i_isDigit (x0 : Int) : Option Bool :=
  (bindO (M_i_in x0 48 57) fun (y2 : Bool) =>
  some y2)

theorem ok_i_isDigit (x0 : Int) (r : Bool) (h : M_i_isDigit x0 = some r) :
    FC Try.prog 29 [.int .i64 x0] [] (fun _ : Unit => True) (fun _ => .bool r) (fun _ => []) :=
  FC.of (T := TTx) Try.call29 Try.func29 rfl rfl fun w0 => by
    unfold M_i_isDigit at h
    refine JS.seq ?_
    refine JS.region ?_
    refine JO.reg ttOk 1 [] [] [] _ rfl ⟨trivial, rfl⟩ ?_
    refine JO.done rfl ?_
    refine JS.seq ?_
    refine JS.region ?_
    refine JO.reg ttOk 1 [] [] [(3, .v (.int .i64 x0))] _ rfl ⟨⟨rfl, trivial⟩, rfl⟩ ?_
    obtain ⟨y2, hy4, h⟩ := bindO_some h
    refine JO.call rfl rfl rfl rfl (ok_i_in x0 48 57 _ hy4) rfl [] rfl rfl ?_
    intro _ _
    refine JO.reg ttOk 1 [] [] [(2, .v (.bool y2))] _ rfl ⟨⟨rfl, trivial⟩, rfl⟩ ?_
    refine JO.done rfl ?_
    cases h
    exact JS.ret ttOk () trivial rfl rfl [] rfl

def M_i_digitsAt_L1 (x0 : List UInt8) (x1 : Int) (j26 : (Int × Int) → Option (Int × Int)) (k14 : (Int × Int) → Option (Int × Int)) : (Int × Int) → Option (Int × Int) := fun (x3, x4) =>
  (guardO (((bif (decide (x4 < (x0.length : Int))) then (decide (x4 < (W (x1 + 9)))) else false) = true) → 0 ≤ x4 ∧ x4 < (x0.length : Int)) <|
  (callO ((bif (decide (x4 < (x0.length : Int))) then (decide (x4 < (W (x1 + 9)))) else false) = true) (M_i_isDigit ((at' x0 x4).toNat : Int)) false fun (y9 : Bool) =>
  (bif (bif (bif (decide (x4 < (x0.length : Int))) then (decide (x4 < (W (x1 + 9)))) else false) then y9 else false) then
  (guardO (0 ≤ x4 ∧ x4 < (x0.length : Int)) <|
  k14 ((W ((W ((W (10 * x3)) + ((at' x0 x4).toNat : Int))) - 48)), (W (x4 + 1))))
  else
  j26 (x3, x4))))

def M_i_digitsAt (x0 : List UInt8) (x1 : Int) : Option (Int × Int) :=
  (joinO (fun ((x24, x25) : Int × Int) =>
  some (x24, x25)) fun j26 =>
  (fixF (M_i_digitsAt_L1 x0 x1 j26) FUEL (0, x1)))

theorem ok_i_digitsAt (x0 : List UInt8) (x1 : Int) (r : Int × Int) (h : M_i_digitsAt x0 x1 = some r) :
    FC Try.prog 36 [.string (bs x0), .int .i64 x1] [] (fun _ : Unit => True) (fun _ => .tuple #[.int .i64 r.1, .int .i64 r.2]) (fun _ => []) :=
  FC.of (T := TTx) Try.call36 Try.func36 rfl rfl fun w0 => by
    unfold M_i_digitsAt at h
    refine JS.seq ?_
    refine JS.region ?_
    refine JO.reg ttOk 2 [] [] [] _ rfl ⟨trivial, rfl⟩ ?_
    refine JO.done rfl ?_
    refine JS.seq ?_
    refine JS.region ?_
    refine JO.reg ttOk 3 [] [] [(6, .v (.int .i64 0)), (7, .v (.int .i64 x1))] _ rfl ⟨⟨rfl, rfl, trivial⟩, rfl⟩ ?_
    refine JO.done rfl ?_
    refine JS.seq ?_
    obtain ⟨j26, hj44, h⟩ := joinO_some h
    refine JS.blockJ (ι := Int × Int) ⟨fun z => j26 (z.1, z.2) = some r, fun z => [(6, .v (.int .i64 z.1)), (7, .v (.int .i64 z.2))], fun z => .nil, fun z => [], fun z => [], fun z => 0⟩ ?_ ?_
    · refine JS.loop (ι := Nat × Int × Int) ⟨fun z => fixF (M_i_digitsAt_L1 x0 x1 j26) z.1 (z.2.1, z.2.2) = some r, fun z => [(0, .v (.string (bs x0))), (1, .v (.int .i64 x1)), (6, .v (.int .i64 z.2.1)), (7, .v (.int .i64 z.2.2))], fun z => .nil, fun z => [], fun z => [], fun z => z.1⟩ (FUEL, 0, x1) h ⟨rfl, rfl, rfl, rfl, trivial⟩ trivial [] rfl [] rfl ?_
      rintro ⟨n15, x3, x4⟩ h
      obtain ⟨n15, rfl, h⟩ := fixF_some h
      rw [M_i_digitsAt_L1] at h
      refine JS.seq ?_
      refine JS.seq ?_
      refine JS.region ?_
      obtain ⟨g37, h⟩ := guardO_some h
      refine JO.reg ttOk 15 [(W (x1 + 9)), ((at' x0 x4).toNat : Int)] [] [(19, .v (.bool (bif (decide (x4 < (x0.length : Int))) then (decide (x4 < (W (x1 + 9)))) else false))), (23, .cd [(19, true)] (.v (.int .i64 ((at' x0 x4).toNat : Int))))] _ rfl ⟨(fun q36 => ⟨trivial, rfl⟩), (fun q38 => (g37 q38)), (fun q39 => ⟨trivial, W_byte _⟩), ⟨rfl, rfl, trivial⟩, rfl⟩ ?_
      obtain ⟨y9, hy40, -, h⟩ := callO_some h
      refine JO.callg rfl rfl rfl rfl (fun q41 => ok_i_isDigit ((at' x0 x4).toNat : Int) _ (hy40 q41)) rfl [] rfl rfl ?_
      refine JO.reg ttOk 1 [] [] [(25, .v (.bool (bif (bif (decide (x4 < (x0.length : Int))) then (decide (x4 < (W (x1 + 9)))) else false) then y9 else false)))] _ rfl ⟨⟨rfl, trivial⟩, rfl⟩ ?_
      refine JO.done rfl ?_
      refine JS.cond rfl (fun ht43 => ?_) (fun ht43 => ?_)
      · have h := condT h ht43
        refine JS.skip ?_
        refine JS.block ?_
        refine JS.seq ?_
        refine JS.region ?_
        obtain ⟨g42, h⟩ := guardO_some h
        refine JO.reg ttOk 9 [(W (10 * x3)), ((at' x0 x4).toNat : Int), (W ((W (10 * x3)) + ((at' x0 x4).toNat : Int))), (W ((W ((W (10 * x3)) + ((at' x0 x4).toNat : Int))) - 48))] [] [(6, .v (.int .i64 (W ((W ((W (10 * x3)) + ((at' x0 x4).toNat : Int))) - 48))))] _ rfl ⟨⟨trivial, rfl⟩, g42, ⟨trivial, W_byte _⟩, ⟨trivial, rfl⟩, ⟨trivial, rfl⟩, ⟨rfl, trivial⟩, rfl⟩ ?_
        refine JO.done rfl ?_
        refine JS.region ?_
        refine JO.reg ttOk 3 [(W (x4 + 1))] [] [(7, .v (.int .i64 (W (x4 + 1))))] _ rfl ⟨⟨trivial, rfl⟩, ⟨rfl, trivial⟩, rfl⟩ ?_
        refine JO.done rfl ?_
        refine JS.endB ?_
        exact JS.endL (n15, (W ((W ((W (10 * x3)) + ((at' x0 x4).toNat : Int))) - 48)), (W (x4 + 1))) h (Nat.lt_succ_self _) ⟨rfl, rfl, rfl, rfl, trivial⟩ trivial [] rfl [] rfl
      · have h := condF h ht43
        refine JS.exit rfl ?_
        exact JS.endJ (x3, x4) h ⟨rfl, rfl, trivial⟩ trivial [] rfl [] rfl
    · rintro ⟨x24, x25⟩ h
      subst hj44
      refine JS.seq ?_
      refine JS.region ?_
      refine JO.reg ttOk 4 [] [] [(4, .v (.int .i64 x24)), (5, .v (.int .i64 x25))] _ rfl ⟨⟨rfl, rfl, trivial⟩, rfl⟩ ?_
      refine JO.done rfl ?_
      cases h
      exact JS.ret ttOk () trivial rfl rfl [] rfl

def M_strings_IndexByte (x0 : List UInt8) (x1 : UInt8) : Option Int := some (Lib.indexByte x0 x1)

theorem ok_strings_IndexByte (x0 : List UInt8) (x1 : UInt8) (r : Int) (h : M_strings_IndexByte x0 x1 = some r) : FV Try.prog 32 [.string (bs x0), .int .u8 (x1.toNat : Int)] [] (.int .i64 r) := by
  cases h
  refine FV.of_calls Try.call32 fun w => ?_
  have := Try.strings_IndexByte (bs x0) (x1.toNat : Int) w
  rw [u8_byte] at this
  exact this

def M_i_RefAt_L1 (x0 : List UInt8) (j53 : (Int × Int × Int × List UInt8 × Int) → Option ((Int × Int × List UInt8 × Int) × Bool)) (k41 : Int → Option ((Int × Int × List UInt8 × Int) × Bool)) : Int → Option ((Int × Int × List UInt8 × Int) × Bool) := fun x25 =>
  (guardO (((decide (x25 < (x0.length : Int))) = true) → 0 ≤ x25 ∧ x25 < (x0.length : Int)) <|
  (callO ((decide (x25 < (x0.length : Int))) = true) (M_strings_IndexByte ([32, 9, 10, 59, 38, 124, 60, 62, 40, 41, 61, 33, 39, 34]) (at' x0 x25)) (0 : Int) fun (y32 : Int) =>
  (bif (bif (decide (x25 < (x0.length : Int))) then (decide (y32 < 0)) else false) then
  k41 (W (x25 + 1))
  else
  j53 (x25, 0, 0, [], 0))))

def M_i_RefAt (x0 : List UInt8) (x1 : Int) : Option ((Int × Int × List UInt8 × Int) × Bool) :=
  (bindO (M_i_in x1 0 (W ((x0.length : Int) - 1))) fun (y3 : Bool) =>
  (guardO (((!y3) = false) → 0 ≤ x1 ∧ x1 < (x0.length : Int)) <|
  (bif (bif (!y3) then true else (!(decide (((at' x0 x1).toNat : Int) = (33 : Int))))) then
  some ((0, 0, [], 0), false)
  else
  (guardO (((decide ((W (x1 + 1)) < (x0.length : Int))) = true) → 0 ≤ (W (x1 + 1)) ∧ (W (x1 + 1)) < (x0.length : Int)) <|
  (bif (bif (decide ((W (x1 + 1)) < (x0.length : Int))) then (decide (((at' x0 (W (x1 + 1))).toNat : Int) = (33 : Int))) else false) then
  some ((1, 0, [], (W ((W (x1 + 1)) + 1))), true)
  else
  (bindO (M_i_digitsAt x0 (W (x1 + 1))) fun (y9, y10) =>
  (bif (decide ((W (x1 + 1)) < y10)) then
  some ((2, y9, [], y10), true)
  else
  (joinO (fun (_ : Unit) =>
  (joinO (fun ((x48, x49, x50, x51, x52) : Int × Int × Int × List UInt8 × Int) =>
  (bif (decide (x48 = (W (x1 + 1)))) then
  some ((0, 0, [], 0), false)
  else
  (guardO (0 ≤ (W (x1 + 1)) ∧ (W (x1 + 1)) ≤ x48 ∧ x48 ≤ (x0.length : Int)) <|
  some ((4, 0, (sub' x0 (W (x1 + 1)) x48), x48), true)))) fun j53 =>
  (fixF (M_i_RefAt_L1 x0 j53) FUEL (W (x1 + 1))))) fun j19 =>
  (guardO (((decide ((W (x1 + 1)) < (x0.length : Int))) = true) → 0 ≤ (W (x1 + 1)) ∧ (W (x1 + 1)) < (x0.length : Int)) <|
  (bif (bif (decide ((W (x1 + 1)) < (x0.length : Int))) then (decide (((at' x0 (W (x1 + 1))).toNat : Int) = (45 : Int))) else false) then
  (bindO (M_i_digitsAt x0 (W ((W (x1 + 1)) + 1))) fun (y14, y15) =>
  (bif (decide ((W ((W (x1 + 1)) + 1)) < y15)) then
  some ((3, y14, [], y15), true)
  else
  j19 ()))
  else
  j19 ()))))))))))

theorem ok_i_RefAt (x0 : List UInt8) (x1 : Int) (r : (Int × Int × List UInt8 × Int) × Bool) (h : M_i_RefAt x0 x1 = some r) :
    FC Try.prog 21 [.string (bs x0), .int .i64 x1] [] (fun _ : Unit => True) (fun _ => .tuple #[.agg #[.int .i64 r.1.1, .int .i64 r.1.2.1, .string (bs r.1.2.2.1), .int .i64 r.1.2.2.2], .bool r.2]) (fun _ => []) :=
  FC.of (T := TTx) Try.call21 Try.func21 rfl rfl fun w0 => by
    unfold M_i_RefAt at h
    refine JS.seq ?_
    refine JS.region ?_
    refine JO.regB ttOk 2 [] [1] [(4, .bp 1 0)] (.new 1 30 [.int .i64 0, .int .i64 0, .string (bs []), .int .i64 0] .nil) rfl ⟨⟨rfl, trivial⟩, ⟨rfl, rfl, rfl, rfl, trivial⟩⟩ ?_
    refine JO.done rfl ?_
    refine JS.seq ?_
    refine JS.seq ?_
    refine JS.region ?_
    refine JO.reg ttOk 4 [(W ((x0.length : Int) - 1))] [] [(12, .v (.int .i64 x1)), (15, .v (.int .i64 (W ((x0.length : Int) - 1))))] _ rfl ⟨⟨trivial, rfl⟩, ⟨rfl, rfl, trivial⟩, rfl⟩ ?_
    obtain ⟨y3, hy66, h⟩ := bindO_some h
    refine JO.call rfl rfl rfl rfl (ok_i_in x1 0 (W ((x0.length : Int) - 1)) _ hy66) rfl [] rfl rfl ?_
    intro _ _
    obtain ⟨g67, h⟩ := guardO_some h
    refine JO.reg ttOk 7 [] [] [(23, .v (.bool (bif (!y3) then true else (!(decide (((at' x0 x1).toNat : Int) = (33 : Int)))))))] _ rfl ⟨(fun q68 => (g67 q68)), ⟨rfl, trivial⟩, rfl⟩ ?_
    refine JO.done rfl ?_
    refine JS.cond rfl (fun ht88 => ?_) (fun ht88 => ?_)
    · have h := condT h ht88
      refine JS.seq ?_
      refine JS.region ?_
      refine JO.regB ttOk 3 [] [] [(5, .v (.bool false))] (.new 1 30 [.int .i64 0, .int .i64 0, .string (bs []), .int .i64 0] .nil) rfl ⟨⟨rfl, trivial⟩, ⟨rfl, rfl, rfl, rfl, trivial⟩⟩ ?_
      refine JO.done rfl ?_
      cases h
      exact JS.ret ttOk () trivial rfl rfl [] rfl
    · have h := condF h ht88
      refine JS.skip ?_
      refine JS.seq ?_
      refine JS.region ?_
      refine JO.reg ttOk 3 [(W (x1 + 1))] [] [(6, .v (.int .i64 (W (x1 + 1))))] _ rfl ⟨⟨trivial, rfl⟩, ⟨rfl, trivial⟩, rfl⟩ ?_
      refine JO.done rfl ?_
      refine JS.seq ?_
      refine JS.seq ?_
      refine JS.region ?_
      obtain ⟨g69, h⟩ := guardO_some h
      refine JO.reg ttOk 10 [] [] [(36, .v (.bool (bif (decide ((W (x1 + 1)) < (x0.length : Int))) then (decide (((at' x0 (W (x1 + 1))).toNat : Int) = (33 : Int))) else false)))] _ rfl ⟨(fun q70 => (g69 q70)), ⟨rfl, trivial⟩, rfl⟩ ?_
      refine JO.done rfl ?_
      refine JS.cond rfl (fun ht87 => ?_) (fun ht87 => ?_)
      · have h := condT h ht87
        refine JS.seq ?_
        refine JS.region ?_
        refine JO.regB ttOk 5 [(W ((W (x1 + 1)) + 1))] [] [(5, .v (.bool true))] (.new 1 30 [.int .i64 1, .int .i64 0, .string (bs []), .int .i64 (W ((W (x1 + 1)) + 1))] .nil) rfl ⟨⟨trivial, rfl⟩, ⟨rfl, trivial⟩, ⟨rfl, rfl, rfl, rfl, trivial⟩⟩ ?_
        refine JO.done rfl ?_
        cases h
        exact JS.ret ttOk () trivial rfl rfl [] rfl
      · have h := condF h ht87
        refine JS.skip ?_
        refine JS.seq ?_
        refine JS.seq ?_
        refine JS.region ?_
        refine JO.reg ttOk 2 [] [] [(41, .v (.string (bs x0))), (42, .v (.int .i64 (W (x1 + 1))))] _ rfl ⟨⟨rfl, rfl, trivial⟩, rfl⟩ ?_
        obtain ⟨⟨y9, y10⟩, hy71, h⟩ := bindO_some h
        refine JO.call rfl rfl rfl rfl (ok_i_digitsAt x0 (W (x1 + 1)) _ hy71) rfl [] rfl rfl ?_
        intro _ _
        refine JO.reg ttOk 5 [] [] [(7, .v (.int .i64 y9)), (8, .v (.int .i64 y10))] _ rfl ⟨⟨rfl, rfl, trivial⟩, rfl⟩ ?_
        refine JO.done rfl ?_
        refine JS.seq ?_
        refine JS.region ?_
        refine JO.reg ttOk 3 [] [] [(48, .v (.bool (decide ((W (x1 + 1)) < y10))))] _ rfl ⟨⟨rfl, trivial⟩, rfl⟩ ?_
        refine JO.done rfl ?_
        refine JS.cond rfl (fun ht86 => ?_) (fun ht86 => ?_)
        · have h := condT h ht86
          refine JS.seq ?_
          refine JS.region ?_
          refine JO.regB ttOk 5 [] [] [(5, .v (.bool true))] (.new 1 30 [.int .i64 2, .int .i64 y9, .string (bs []), .int .i64 y10] .nil) rfl ⟨⟨rfl, trivial⟩, ⟨rfl, rfl, rfl, rfl, trivial⟩⟩ ?_
          refine JO.done rfl ?_
          cases h
          exact JS.ret ttOk () trivial rfl rfl [] rfl
        · have h := condF h ht86
          refine JS.skip ?_
          obtain ⟨j19, hj85, h⟩ := joinO_some h
          refine JS.seqJ (ι := Unit) ⟨fun _ => j19 () = some r, fun _ => [(0, .v (.string (bs x0))), (4, .bp 1 0), (6, .v (.int .i64 (W (x1 + 1))))], fun _ => (.new 1 30 [.int .i64 0, .int .i64 0, .string (bs []), .int .i64 0] .nil), fun _ => [], fun _ => [], fun _ => 0⟩ ?_ ?_
          · refine JS.seq ?_
            refine JS.region ?_
            obtain ⟨g72, h⟩ := guardO_some h
            refine JO.reg ttOk 10 [] [] [(61, .v (.bool (bif (decide ((W (x1 + 1)) < (x0.length : Int))) then (decide (((at' x0 (W (x1 + 1))).toNat : Int) = (45 : Int))) else false)))] _ rfl ⟨(fun q73 => (g72 q73)), ⟨rfl, trivial⟩, rfl⟩ ?_
            refine JO.done rfl ?_
            refine JS.cond rfl (fun ht76 => ?_) (fun ht76 => ?_)
            · have h := condT h ht76
              refine JS.seq ?_
              refine JS.region ?_
              refine JO.reg ttOk 3 [(W ((W (x1 + 1)) + 1))] [] [(63, .v (.string (bs x0))), (65, .v (.int .i64 (W ((W (x1 + 1)) + 1))))] _ rfl ⟨⟨trivial, rfl⟩, ⟨rfl, rfl, trivial⟩, rfl⟩ ?_
              obtain ⟨⟨y14, y15⟩, hy74, h⟩ := bindO_some h
              refine JO.call rfl rfl rfl rfl (ok_i_digitsAt x0 (W ((W (x1 + 1)) + 1)) _ hy74) rfl [] rfl rfl ?_
              intro _ _
              refine JO.reg ttOk 5 [] [] [(9, .v (.int .i64 y14)), (10, .v (.int .i64 y15))] _ rfl ⟨⟨rfl, rfl, trivial⟩, rfl⟩ ?_
              refine JO.done rfl ?_
              refine JS.seq ?_
              refine JS.region ?_
              refine JO.reg ttOk 4 [(W ((W (x1 + 1)) + 1))] [] [(72, .v (.bool (decide ((W ((W (x1 + 1)) + 1)) < y15))))] _ rfl ⟨⟨trivial, rfl⟩, ⟨rfl, trivial⟩, rfl⟩ ?_
              refine JO.done rfl ?_
              refine JS.cond rfl (fun ht75 => ?_) (fun ht75 => ?_)
              · have h := condT h ht75
                refine JS.seq ?_
                refine JS.region ?_
                refine JO.regB ttOk 5 [] [] [(5, .v (.bool true))] (.new 1 30 [.int .i64 3, .int .i64 y14, .string (bs []), .int .i64 y15] .nil) rfl ⟨⟨rfl, trivial⟩, ⟨rfl, rfl, rfl, rfl, trivial⟩⟩ ?_
                refine JO.done rfl ?_
                cases h
                exact JS.ret ttOk () trivial rfl rfl [] rfl
              · have h := condF h ht75
                refine JS.skip ?_
                exact JS.endJ () h ⟨rfl, rfl, rfl, trivial⟩ ⟨rfl, rfl, rfl, rfl, trivial⟩ [] rfl [] rfl
            · have h := condF h ht76
              refine JS.skip ?_
              exact JS.endJ () h ⟨rfl, rfl, rfl, trivial⟩ ⟨rfl, rfl, rfl, rfl, trivial⟩ [] rfl [] rfl
          · rintro _ h
            subst hj85
            refine JS.seq ?_
            refine JS.region ?_
            refine JO.reg ttOk 2 [] [] [(11, .v (.int .i64 (W (x1 + 1))))] _ rfl ⟨⟨rfl, trivial⟩, rfl⟩ ?_
            refine JO.done rfl ?_
            refine JS.seq ?_
            obtain ⟨j53, hj84, h⟩ := joinO_some h
            refine JS.blockJ (ι := Int × Int × Int × List UInt8 × Int) ⟨fun z => j53 (z.1, z.2.1, z.2.2.1, z.2.2.2.1, z.2.2.2.2) = some r, fun z => [(0, .v (.string (bs x0))), (4, .bp 1 0), (6, .v (.int .i64 (W (x1 + 1)))), (11, .v (.int .i64 z.1))], fun z => (.new 1 30 [.int .i64 z.2.1, .int .i64 z.2.2.1, .string (bs z.2.2.2.1), .int .i64 z.2.2.2.2] .nil), fun z => [], fun z => [], fun z => 0⟩ ?_ ?_
            · refine JS.loop (ι := Nat × Int) ⟨fun z => fixF (M_i_RefAt_L1 x0 j53) z.1 z.2 = some r, fun z => [(0, .v (.string (bs x0))), (4, .bp 1 0), (6, .v (.int .i64 (W (x1 + 1)))), (11, .v (.int .i64 z.2))], fun z => (.new 1 30 [.int .i64 0, .int .i64 0, .string (bs []), .int .i64 0] .nil), fun z => [], fun z => [], fun z => z.1⟩ (FUEL, (W (x1 + 1))) h ⟨rfl, rfl, rfl, rfl, trivial⟩ ⟨rfl, rfl, rfl, rfl, trivial⟩ [] rfl [] rfl ?_
              rintro ⟨n42, x25⟩ h
              obtain ⟨n42, rfl, h⟩ := fixF_some h
              rw [M_i_RefAt_L1] at h
              refine JS.seq ?_
              refine JS.seq ?_
              refine JS.region ?_
              obtain ⟨g77, h⟩ := guardO_some h
              refine JO.reg ttOk 8 [] [] [(81, .v (.bool (decide (x25 < (x0.length : Int))))), (84, .cd [(81, true)] (.v (.int .u8 ((at' x0 x25).toNat : Int))))] _ rfl ⟨(fun q78 => (g77 q78)), ⟨rfl, rfl, trivial⟩, rfl⟩ ?_
              obtain ⟨y32, hy79, -, h⟩ := callO_some h
              refine JO.callg rfl rfl rfl rfl (fun q80 => ok_strings_IndexByte ([32, 9, 10, 59, 38, 124, 60, 62, 40, 41, 61, 33, 39, 34]) (at' x0 x25) _ (hy79 q80)) rfl [] rfl rfl ?_
              refine JO.reg ttOk 2 [] [] [(87, .v (.bool (bif (decide (x25 < (x0.length : Int))) then (decide (y32 < 0)) else false)))] _ rfl ⟨⟨rfl, trivial⟩, rfl⟩ ?_
              refine JO.done rfl ?_
              refine JS.cond rfl (fun ht81 => ?_) (fun ht81 => ?_)
              · have h := condT h ht81
                refine JS.skip ?_
                refine JS.block ?_
                refine JS.region ?_
                refine JO.reg ttOk 3 [(W (x25 + 1))] [] [(11, .v (.int .i64 (W (x25 + 1))))] _ rfl ⟨⟨trivial, rfl⟩, ⟨rfl, trivial⟩, rfl⟩ ?_
                refine JO.done rfl ?_
                refine JS.endB ?_
                exact JS.endL (n42, (W (x25 + 1))) h (Nat.lt_succ_self _) ⟨rfl, rfl, rfl, rfl, trivial⟩ ⟨rfl, rfl, rfl, rfl, trivial⟩ [] rfl [] rfl
              · have h := condF h ht81
                refine JS.exit rfl ?_
                exact JS.endJ (x25, 0, 0, [], 0) h ⟨rfl, rfl, rfl, rfl, trivial⟩ ⟨rfl, rfl, rfl, rfl, trivial⟩ [] rfl [] rfl
            · rintro ⟨x48, x49, x50, x51, x52⟩ h
              subst hj84
              refine JS.seq ?_
              refine JS.seq ?_
              refine JS.region ?_
              refine JO.reg ttOk 3 [] [] [(92, .v (.bool (decide (x48 = (W (x1 + 1))))))] _ rfl ⟨⟨rfl, trivial⟩, rfl⟩ ?_
              refine JO.done rfl ?_
              refine JS.cond rfl (fun ht83 => ?_) (fun ht83 => ?_)
              · have h := condT h ht83
                refine JS.seq ?_
                refine JS.region ?_
                refine JO.regB ttOk 3 [] [] [(5, .v (.bool false))] (.new 1 30 [.int .i64 0, .int .i64 0, .string (bs []), .int .i64 0] .nil) rfl ⟨⟨rfl, trivial⟩, ⟨rfl, rfl, rfl, rfl, trivial⟩⟩ ?_
                refine JO.done rfl ?_
                cases h
                exact JS.ret ttOk () trivial rfl rfl [] rfl
              · have h := condF h ht83
                refine JS.skip ?_
                refine JS.seq ?_
                refine JS.region ?_
                obtain ⟨g82, h⟩ := guardO_some h
                refine JO.regB ttOk 8 [] [] [(5, .v (.bool true))] (.new 1 30 [.int .i64 4, .int .i64 0, .string (bs (sub' x0 (W (x1 + 1)) x48)), .int .i64 x48] .nil) rfl ⟨g82, ⟨rfl, trivial⟩, ⟨rfl, rfl, rfl, rfl, trivial⟩⟩ ?_
                refine JO.done rfl ?_
                cases h
                exact JS.ret ttOk () trivial rfl rfl [] rfl

def M_l_eqRef (x0 : Int × Int × List UInt8 × Int) (x1 : Int × Int × List UInt8 × Int) : Option Bool :=
  (bif (!(decide (x0.1 = x1.1))) then
  some false
  else
  (bif (!(decide (x0.2.1 = x1.2.1))) then
  some false
  else
  (bif (!(decide (x0.2.2.1 = x1.2.2.1))) then
  some false
  else
  (bif (!(decide (x0.2.2.2 = x1.2.2.2))) then
  some false
  else
  some true))))

theorem ok_l_eqRef (x0 : Int × Int × List UInt8 × Int) (x1 : Int × Int × List UInt8 × Int) (r : Bool) (h : M_l_eqRef x0 x1 = some r) :
    FC Try.prog 22 [.agg #[.int .i64 x0.1, .int .i64 x0.2.1, .string (bs x0.2.2.1), .int .i64 x0.2.2.2], .agg #[.int .i64 x1.1, .int .i64 x1.2.1, .string (bs x1.2.2.1), .int .i64 x1.2.2.2]] [] (fun _ : Unit => True) (fun _ => .bool r) (fun _ => []) :=
  FC.of (T := TTx) Try.call22 Try.func22 rfl rfl fun w0 => by
    unfold M_l_eqRef at h
    refine JS.seq ?_
    refine JS.region ?_
    refine JO.regB ttOk 3 [] [1, 2] [(2, .bp 1 0), (3, .bp 2 0)] (.new 1 30 [.int .i64 x0.1, .int .i64 x0.2.1, .string (bs x0.2.2.1), .int .i64 x0.2.2.2] (.new 2 30 [.int .i64 x1.1, .int .i64 x1.2.1, .string (bs x1.2.2.1), .int .i64 x1.2.2.2] .nil)) rfl ⟨⟨rfl, rfl, trivial⟩, ⟨rfl, rfl, rfl, rfl, rfl, rfl, rfl, rfl, trivial⟩⟩ ?_
    refine JO.done rfl ?_
    refine JS.seq ?_
    refine JS.seq ?_
    refine JS.region ?_
    refine JO.reg ttOk 5 [] [] [(9, .v (.bool (!(decide (x0.1 = x1.1)))))] _ rfl ⟨⟨rfl, trivial⟩, rfl⟩ ?_
    refine JO.done rfl ?_
    refine JS.cond rfl (fun ht10 => ?_) (fun ht10 => ?_)
    · have h := condT h ht10
      refine JS.seq ?_
      refine JS.region ?_
      refine JO.reg ttOk 1 [] [] [(4, .v (.bool false))] _ rfl ⟨⟨rfl, trivial⟩, rfl⟩ ?_
      refine JO.done rfl ?_
      cases h
      exact JS.ret ttOk () trivial rfl rfl [] rfl
    · have h := condF h ht10
      refine JS.skip ?_
      refine JS.seq ?_
      refine JS.seq ?_
      refine JS.region ?_
      refine JO.reg ttOk 5 [] [] [(14, .v (.bool (!(decide (x0.2.1 = x1.2.1)))))] _ rfl ⟨⟨rfl, trivial⟩, rfl⟩ ?_
      refine JO.done rfl ?_
      refine JS.cond rfl (fun ht9 => ?_) (fun ht9 => ?_)
      · have h := condT h ht9
        refine JS.seq ?_
        refine JS.region ?_
        refine JO.reg ttOk 1 [] [] [(4, .v (.bool false))] _ rfl ⟨⟨rfl, trivial⟩, rfl⟩ ?_
        refine JO.done rfl ?_
        cases h
        exact JS.ret ttOk () trivial rfl rfl [] rfl
      · have h := condF h ht9
        refine JS.skip ?_
        refine JS.seq ?_
        refine JS.seq ?_
        refine JS.region ?_
        refine JO.reg ttOk 5 [] [] [(19, .v (.bool (!(decide (x0.2.2.1 = x1.2.2.1)))))] _ rfl ⟨⟨rfl, trivial⟩, rfl⟩ ?_
        refine JO.done rfl ?_
        refine JS.cond rfl (fun ht8 => ?_) (fun ht8 => ?_)
        · have h := condT h ht8
          refine JS.seq ?_
          refine JS.region ?_
          refine JO.reg ttOk 1 [] [] [(4, .v (.bool false))] _ rfl ⟨⟨rfl, trivial⟩, rfl⟩ ?_
          refine JO.done rfl ?_
          cases h
          exact JS.ret ttOk () trivial rfl rfl [] rfl
        · have h := condF h ht8
          refine JS.skip ?_
          refine JS.seq ?_
          refine JS.seq ?_
          refine JS.region ?_
          refine JO.reg ttOk 5 [] [] [(24, .v (.bool (!(decide (x0.2.2.2 = x1.2.2.2)))))] _ rfl ⟨⟨rfl, trivial⟩, rfl⟩ ?_
          refine JO.done rfl ?_
          refine JS.cond rfl (fun ht7 => ?_) (fun ht7 => ?_)
          · have h := condT h ht7
            refine JS.seq ?_
            refine JS.region ?_
            refine JO.reg ttOk 1 [] [] [(4, .v (.bool false))] _ rfl ⟨⟨rfl, trivial⟩, rfl⟩ ?_
            refine JO.done rfl ?_
            cases h
            exact JS.ret ttOk () trivial rfl rfl [] rfl
          · have h := condF h ht7
            refine JS.skip ?_
            refine JS.seq ?_
            refine JS.region ?_
            refine JO.reg ttOk 1 [] [] [(4, .v (.bool true))] _ rfl ⟨⟨rfl, trivial⟩, rfl⟩ ?_
            refine JO.done rfl ?_
            cases h
            exact JS.ret ttOk () trivial rfl rfl [] rfl

def M_l_FnExactRefAt (x0 : List UInt8) (x1 : Int) : Option Bool :=
  (bif (decide (1048576 < (x0.length : Int))) then
  some true
  else
  (bindO (M_s_RefAt x0 x1) fun (y3, y4) =>
  (bindO (M_i_RefAt x0 x1) fun (y6, y7) =>
  (bindO (M_l_eqRef y6 y3) fun (y9 : Bool) =>
  (bif (bif (!y9) then true else (!(y7 == y4))) then
  some false
  else
  some true)))))

theorem ok_l_FnExactRefAt (x0 : List UInt8) (x1 : Int) (r : Bool) (h : M_l_FnExactRefAt x0 x1 = some r) :
    FC Try.prog 8 [.string (bs x0), .int .i64 x1] [] (fun _ : Unit => True) (fun _ => .bool r) (fun _ => []) :=
  FC.of (T := TTx) Try.call8 Try.func8 rfl rfl fun w0 => by
    unfold M_l_FnExactRefAt at h
    refine JS.seq ?_
    refine JS.region ?_
    refine JO.reg ttOk 1 [] [] [] _ rfl ⟨trivial, rfl⟩ ?_
    refine JO.done rfl ?_
    refine JS.seq ?_
    refine JS.seq ?_
    refine JS.region ?_
    refine JO.reg ttOk 3 [] [] [(11, .v (.bool (decide (1048576 < (x0.length : Int)))))] _ rfl ⟨⟨rfl, trivial⟩, rfl⟩ ?_
    refine JO.done rfl ?_
    refine JS.cond rfl (fun ht17 => ?_) (fun ht17 => ?_)
    · have h := condT h ht17
      refine JS.seq ?_
      refine JS.region ?_
      refine JO.reg ttOk 1 [] [] [(4, .v (.bool true))] _ rfl ⟨⟨rfl, trivial⟩, rfl⟩ ?_
      refine JO.done rfl ?_
      cases h
      exact JS.ret ttOk () trivial rfl rfl [] rfl
    · have h := condF h ht17
      refine JS.skip ?_
      refine JS.seq ?_
      refine JS.region ?_
      refine JO.reg ttOk 2 [] [] [(13, .v (.string (bs x0))), (14, .v (.int .i64 x1))] _ rfl ⟨⟨rfl, rfl, trivial⟩, rfl⟩ ?_
      obtain ⟨⟨y3, y4⟩, hy13, h⟩ := bindO_some h
      refine JO.call rfl rfl rfl rfl (ok_s_RefAt x0 x1 _ hy13) rfl [] rfl rfl ?_
      intro _ _
      refine JO.regB ttOk 6 [] [3] [(5, .bp 3 0), (6, .v (.bool y4))] (.new 3 30 [.int .i64 y3.1, .int .i64 y3.2.1, .string (bs y3.2.2.1), .int .i64 y3.2.2.2] .nil) rfl ⟨⟨rfl, rfl, trivial⟩, ⟨rfl, rfl, rfl, rfl, trivial⟩⟩ ?_
      refine JO.done rfl ?_
      refine JS.seq ?_
      refine JS.region ?_
      refine JO.reg ttOk 2 [] [] [(19, .v (.string (bs x0))), (20, .v (.int .i64 x1))] _ rfl ⟨⟨rfl, rfl, trivial⟩, rfl⟩ ?_
      obtain ⟨⟨y6, y7⟩, hy14, h⟩ := bindO_some h
      refine JO.call rfl rfl rfl rfl (ok_i_RefAt x0 x1 _ hy14) rfl [] rfl rfl ?_
      intro _ _
      refine JO.regB ttOk 6 [] [6] [(7, .bp 6 0), (8, .v (.bool y7))] (.new 3 30 [.int .i64 y3.1, .int .i64 y3.2.1, .string (bs y3.2.2.1), .int .i64 y3.2.2.2] (.new 6 30 [.int .i64 y6.1, .int .i64 y6.2.1, .string (bs y6.2.2.1), .int .i64 y6.2.2.2] .nil)) rfl ⟨⟨rfl, rfl, trivial⟩, ⟨rfl, rfl, rfl, rfl, rfl, rfl, rfl, rfl, trivial⟩⟩ ?_
      refine JO.done rfl ?_
      refine JS.seq ?_
      refine JS.seq ?_
      refine JS.region ?_
      refine JO.reg ttOk 2 [] [] [(24, .v (.agg #[.int .i64 y6.1, .int .i64 y6.2.1, .string (bs y6.2.2.1), .int .i64 y6.2.2.2])), (25, .v (.agg #[.int .i64 y3.1, .int .i64 y3.2.1, .string (bs y3.2.2.1), .int .i64 y3.2.2.2]))] _ rfl ⟨⟨rfl, rfl, trivial⟩, rfl⟩ ?_
      obtain ⟨y9, hy15, h⟩ := bindO_some h
      refine JO.call rfl rfl rfl rfl (ok_l_eqRef y6 y3 _ hy15) rfl [] rfl rfl ?_
      intro _ _
      refine JO.reg ttOk 6 [] [] [(32, .v (.bool (bif (!y9) then true else (!(y7 == y4)))))] _ rfl ⟨⟨rfl, trivial⟩, rfl⟩ ?_
      refine JO.done rfl ?_
      refine JS.cond rfl (fun ht16 => ?_) (fun ht16 => ?_)
      · have h := condT h ht16
        refine JS.seq ?_
        refine JS.region ?_
        refine JO.reg ttOk 1 [] [] [(4, .v (.bool false))] _ rfl ⟨⟨rfl, trivial⟩, rfl⟩ ?_
        refine JO.done rfl ?_
        cases h
        exact JS.ret ttOk () trivial rfl rfl [] rfl
      · have h := condF h ht16
        refine JS.skip ?_
        refine JS.seq ?_
        refine JS.region ?_
        refine JO.reg ttOk 1 [] [] [(4, .v (.bool true))] _ rfl ⟨⟨rfl, trivial⟩, rfl⟩ ?_
        refine JO.done rfl ?_
        cases h
        exact JS.ret ttOk () trivial rfl rfl [] rfl

end
end Go.Eng
