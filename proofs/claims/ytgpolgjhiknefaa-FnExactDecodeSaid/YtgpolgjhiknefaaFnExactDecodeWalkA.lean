/- The walks of the functions that FnExactDecode reaches: what each computes, as a plain function (M_..), and that the model computes it (ok_..). Condition of each: that the plain function answers. -/
import Derived.Test.YtgpolgjhiknefaaEngB
import Derived.Test.YtgpolgjhiknefaaChecked
set_option linter.unusedVariables false
set_option linter.unusedSimpArgs false
namespace Go.Eng
open Go Go.Proofs
noncomputable section

def TTx : TT := [
  (2, ⟨.int .i64, 1, 8, [.int .i64 0]⟩),
  (3, ⟨.int .i64, 1, 8, [.int .i64 0]⟩),
  (4, ⟨.bool, 1, 1, [.bool false]⟩),
  (5, ⟨.int .u8, 1, 1, [.int .u8 0]⟩),
  (6, ⟨.int .u8, 1, 1, [.int .u8 0]⟩),
  (7, ⟨.struct [(0, 2), (1, 3), (2, 4), (3, 6)], 4, 24, [.int .i64 0, .int .i64 0, .bool false, .int .u8 0]⟩),
  (8, ⟨.struct [(0, 2), (1, 3), (2, 4), (3, 6)], 4, 24, [.int .i64 0, .int .i64 0, .bool false, .int .u8 0]⟩),
  (9, ⟨.str, 1, 16, [.string ByteArray.empty]⟩),
  (10, ⟨.str, 1, 16, [.string ByteArray.empty]⟩),
  (11, ⟨.str, 1, 16, [.string ByteArray.empty]⟩),
  (12, ⟨.int .u64, 1, 8, [.int .u64 0]⟩),
  (13, ⟨.struct [(0, 9), (1, 12)], 2, 24, [.string ByteArray.empty, .int .u64 0]⟩),
  (14, ⟨.struct [(0, 9), (1, 12)], 2, 24, [.string ByteArray.empty, .int .u64 0]⟩),
  (21, ⟨.int .i32, 1, 4, [.int .i32 0]⟩),
  (22, ⟨.slice 5, 1, 24, [.slice none 0 0]⟩),
  (23, ⟨.struct [(0, 3), (1, 22)], 2, 32, [.int .i64 0, .slice none 0 0]⟩),
  (24, ⟨.struct [(0, 3), (1, 22)], 2, 32, [.int .i64 0, .slice none 0 0]⟩),
  (26, ⟨.struct [(0, 3), (1, 22)], 2, 32, [.int .i64 0, .slice none 0 0]⟩),
  (27, ⟨.slice 40, 1, 24, [.slice none 0 0]⟩),
  (39, ⟨.struct [(0, 3), (1, 3)], 2, 16, [.int .i64 0, .int .i64 0]⟩),
  (40, ⟨.struct [(0, 3), (1, 3)], 2, 16, [.int .i64 0, .int .i64 0]⟩),
  (64, ⟨.struct [(0, 22), (1, 3), (2, 3)], 3, 40, [.slice none 0 0, .int .i64 0, .int .i64 0]⟩),
  (65, ⟨.struct [(0, 22), (1, 3), (2, 3)], 3, 40, [.slice none 0 0, .int .i64 0, .int .i64 0]⟩),
  (68, ⟨.slice 3, 1, 24, [.slice none 0 0]⟩),
  (71, ⟨.int .u64, 1, 8, [.int .u64 0]⟩),
  (79, ⟨.int .u32, 1, 4, [.int .u32 0]⟩),
  (80, ⟨.int .u8, 1, 1, [.int .u8 0]⟩),
  (81, ⟨.int .u8, 1, 1, [.int .u8 0]⟩),
  (84, ⟨.int .i32, 1, 4, [.int .i32 0]⟩),
  (85, ⟨.int .i32, 1, 4, [.int .i32 0]⟩)]

set_option maxRecDepth 100000 in
theorem ttOk : TTok Try.prog TTx := TTok.of (by
  simp only [TTx, List.forall_mem_cons]
  exact ⟨⟨⟨_, _, rfl, rfl, rfl, rfl, rfl⟩, rfl⟩, ⟨⟨_, _, rfl, rfl, rfl, rfl, rfl⟩, rfl⟩, ⟨⟨_, _, rfl, rfl, rfl, rfl, rfl⟩, rfl⟩, ⟨⟨_, _, rfl, rfl, rfl, rfl, rfl⟩, rfl⟩, ⟨⟨_, _, rfl, rfl, rfl, rfl, rfl⟩, rfl⟩, ⟨⟨_, _, rfl, rfl, rfl, rfl, rfl⟩, ⟨_, rfl, rfl⟩⟩, ⟨⟨_, _, rfl, rfl, rfl, rfl, rfl⟩, ⟨_, rfl, rfl⟩⟩, ⟨⟨_, _, rfl, rfl, rfl, rfl, rfl⟩, rfl⟩, ⟨⟨_, _, rfl, rfl, rfl, rfl, rfl⟩, rfl⟩, ⟨⟨_, _, rfl, rfl, rfl, rfl, rfl⟩, rfl⟩, ⟨⟨_, _, rfl, rfl, rfl, rfl, rfl⟩, rfl⟩, ⟨⟨_, _, rfl, rfl, rfl, rfl, rfl⟩, ⟨_, rfl, rfl⟩⟩, ⟨⟨_, _, rfl, rfl, rfl, rfl, rfl⟩, ⟨_, rfl, rfl⟩⟩, ⟨⟨_, _, rfl, rfl, rfl, rfl, rfl⟩, rfl⟩, ⟨⟨_, _, rfl, rfl, rfl, rfl, rfl⟩, rfl⟩, ⟨⟨_, _, rfl, rfl, rfl, rfl, rfl⟩, ⟨_, rfl, rfl⟩⟩, ⟨⟨_, _, rfl, rfl, rfl, rfl, rfl⟩, ⟨_, rfl, rfl⟩⟩, ⟨⟨_, _, rfl, rfl, rfl, rfl, rfl⟩, ⟨_, rfl, rfl⟩⟩, ⟨⟨_, _, rfl, rfl, rfl, rfl, rfl⟩, rfl⟩, ⟨⟨_, _, rfl, rfl, rfl, rfl, rfl⟩, ⟨_, rfl, rfl⟩⟩, ⟨⟨_, _, rfl, rfl, rfl, rfl, rfl⟩, ⟨_, rfl, rfl⟩⟩, ⟨⟨_, _, rfl, rfl, rfl, rfl, rfl⟩, ⟨_, rfl, rfl⟩⟩, ⟨⟨_, _, rfl, rfl, rfl, rfl, rfl⟩, ⟨_, rfl, rfl⟩⟩, ⟨⟨_, _, rfl, rfl, rfl, rfl, rfl⟩, rfl⟩, ⟨⟨_, _, rfl, rfl, rfl, rfl, rfl⟩, rfl⟩, ⟨⟨_, _, rfl, rfl, rfl, rfl, rfl⟩, rfl⟩, ⟨⟨_, _, rfl, rfl, rfl, rfl, rfl⟩, rfl⟩, ⟨⟨_, _, rfl, rfl, rfl, rfl, rfl⟩, rfl⟩, ⟨⟨_, _, rfl, rfl, rfl, rfl, rfl⟩, rfl⟩, ⟨⟨_, _, rfl, rfl, rfl, rfl, rfl⟩, rfl⟩, by simp⟩)

def M_l_szByteS (x0 : List UInt8) (x1 : Int) : Option Int :=
  (bif (decide ((W (x1 - (x0.length : Int))) < 0)) then
  some (-1)
  else
  some (W (x1 - (x0.length : Int))))

theorem ok_l_szByteS (x0 : List UInt8) (x1 : Int) (a3 : Option Addr) (c4 : Nat) (l5 : Nat) (hl6 : x0.length = l5) (r : Int) (h : M_l_szByteS x0 x1 = some r) :
    FC Try.prog 30 [.slice a3 l5 c4, .int .i64 x1] [⟨.byte, ⟨a3, l5, c4⟩, x0⟩] (fun _ : Unit => True) (fun _ => .int .i64 r) (fun _ => []) :=
  by
    subst hl6
    refine FC.of (T := TTx) Try.call30 Try.func30 rfl rfl fun w0 => ?_
    unfold M_l_szByteS at h
    refine JS.seq ?_
    refine JS.region ?_
    refine JO.reg ttOk 1 [] [] [] _ rfl ⟨trivial, rfl⟩ ?_
    refine JO.done rfl ?_
    refine JS.seq ?_
    refine JS.region ?_
    refine JO.reg ttOk 5 [(W (x1 - (x0.length : Int)))] [] [(1, .v (.int .i64 (W (x1 - (x0.length : Int)))))] _ rfl ⟨⟨trivial, rfl⟩, ⟨rfl, trivial⟩, rfl⟩ ?_
    refine JO.done rfl ?_
    refine JS.seq ?_
    refine JS.seq ?_
    refine JS.region ?_
    refine JO.reg ttOk 2 [] [] [(10, .v (.bool (decide ((W (x1 - (x0.length : Int))) < 0))))] _ rfl ⟨⟨rfl, trivial⟩, rfl⟩ ?_
    refine JO.done rfl ?_
    refine JS.cond rfl (fun ht8 => ?_) (fun ht8 => ?_)
    · have h := condT h ht8
      refine JS.seq ?_
      refine JS.region ?_
      refine JO.reg ttOk 1 [] [] [(4, .v (.int .i64 (-1)))] _ rfl ⟨⟨rfl, trivial⟩, rfl⟩ ?_
      refine JO.done rfl ?_
      cases h
      exact JS.ret ttOk () trivial rfl rfl [] rfl
    · have h := condF h ht8
      refine JS.skip ?_
      refine JS.seq ?_
      refine JS.region ?_
      refine JO.reg ttOk 2 [] [] [(4, .v (.int .i64 (W (x1 - (x0.length : Int)))))] _ rfl ⟨⟨rfl, trivial⟩, rfl⟩ ?_
      refine JO.done rfl ?_
      cases h
      exact JS.ret ttOk () trivial rfl rfl [] rfl

def M_l_szDec (x0 : Int × List UInt8) (x1 : Int) : Option Int :=
  (bindO (M_l_szByteS x0.2 x1) fun (y7 : Int) =>
  (bif (decide (y7 < 0)) then
  some (-1)
  else
  some y7))

theorem ok_l_szDec (x0 : Int × List UInt8) (x1 : Int) (a3 : Option Addr) (c4 : Nat) (l5 : Nat) (hl6 : x0.2.length = l5) (r : Int) (h : M_l_szDec x0 x1 = some r) :
    FC Try.prog 8 [.agg #[.int .i64 x0.1, .slice a3 l5 c4], .int .i64 x1] [⟨.byte, ⟨a3, l5, c4⟩, x0.2⟩] (fun _ : Unit => True) (fun _ => .int .i64 r) (fun _ => []) :=
  by
    subst hl6
    refine FC.of (T := TTx) Try.call8 Try.func8 rfl rfl fun w0 => ?_
    unfold M_l_szDec at h
    refine JS.seq ?_
    refine JS.region ?_
    refine JO.regB ttOk 2 [] [2] [(2, .bp 2 0)] (.new 2 24 [.int .i64 x0.1, .slice a3 x0.2.length c4] .nil) rfl ⟨⟨rfl, trivial⟩, ⟨rfl, rfl, rfl, rfl, trivial⟩⟩ ?_
    refine JO.done rfl ?_
    refine JS.seq ?_
    refine JS.region ?_
    refine JO.reg ttOk 3 [] [] [(6, .v (.slice a3 x0.2.length c4)), (7, .v (.int .i64 x1))] _ rfl ⟨⟨rfl, rfl, trivial⟩, rfl⟩ ?_
    obtain ⟨y7, hy8, h⟩ := bindO_some h
    refine JO.call rfl rfl rfl rfl (ok_l_szByteS x0.2 x1 a3 c4 x0.2.length rfl _ hy8) rfl [0] rfl rfl ?_
    intro _ _
    refine JO.reg ttOk 1 [] [] [(1, .v (.int .i64 y7))] _ rfl ⟨⟨rfl, trivial⟩, rfl⟩ ?_
    refine JO.done rfl ?_
    refine JS.seq ?_
    refine JS.seq ?_
    refine JS.region ?_
    refine JO.reg ttOk 2 [] [] [(10, .v (.bool (decide (y7 < 0))))] _ rfl ⟨⟨rfl, trivial⟩, rfl⟩ ?_
    refine JO.done rfl ?_
    refine JS.cond rfl (fun ht10 => ?_) (fun ht10 => ?_)
    · have h := condT h ht10
      refine JS.seq ?_
      refine JS.region ?_
      refine JO.reg ttOk 1 [] [] [(4, .v (.int .i64 (-1)))] _ rfl ⟨⟨rfl, trivial⟩, rfl⟩ ?_
      refine JO.done rfl ?_
      cases h
      exact JS.ret ttOk () trivial rfl rfl [] rfl
    · have h := condF h ht10
      refine JS.skip ?_
      refine JS.seq ?_
      refine JS.region ?_
      refine JO.reg ttOk 2 [] [] [(4, .v (.int .i64 y7))] _ rfl ⟨⟨rfl, trivial⟩, rfl⟩ ?_
      refine JO.done rfl ?_
      cases h
      exact JS.ret ttOk () trivial rfl rfl [] rfl

def M_l_toByteS_L1 (x0 : List UInt8) (j25 : (List UInt8) → Option (List UInt8)) (k17 : (List UInt8 × Int) → Option (List UInt8)) : (List UInt8 × Int) → Option (List UInt8) := fun (x8, x11) =>
  (bif (decide (x11 < (x0.length : Int))) then
  (guardO (0 ≤ x11 ∧ x11 < (x0.length : Int)) <|
  (guardO (0 ≤ x11 ∧ x11 < (x8.length : Int)) <|
  k17 ((List.set x8 (Int.toNat x11) (at' x0 x11)), (W (x11 + 1)))))
  else
  j25 x8)

def M_l_toByteS (x0 : List UInt8) : Option (List UInt8) :=
  (guardO (x0.length ≤ 536870912) <|
  (joinO (fun (x22 : List UInt8) =>
  some x22) fun j25 =>
  (fixF (M_l_toByteS_L1 x0 j25) FUEL ((List.replicate x0.length (0 : UInt8)), 0))))

theorem ok_l_toByteS (x0 : List UInt8) (a2 : Option Addr) (c3 : Nat) (l4 : Nat) (hl5 : x0.length = l4) (r : List UInt8) (h : M_l_toByteS x0 = some r) :
    FC Try.prog 27 [.slice a2 l4 c3] [⟨.byte, ⟨a2, l4, c3⟩, x0⟩] (fun _ : Option Addr × Nat => True) (fun q => .slice q.1 r.length q.2) (fun q => [⟨.byte, ⟨q.1, r.length, q.2⟩, r⟩]) :=
  by
    subst hl5
    refine FC.of (T := TTx) Try.call27 Try.func27 rfl rfl fun w0 => ?_
    unfold M_l_toByteS at h
    refine JS.seq ?_
    refine JS.region ?_
    refine JO.reg ttOk 1 [] [] [] _ rfl ⟨trivial, rfl⟩ ?_
    refine JO.done rfl ?_
    refine JS.seq ?_
    refine JS.region ?_
    refine JO.reg ttOk 2 [] [] [(6, .v (.int .i64 (x0.length : Int)))] _ rfl ⟨⟨rfl, trivial⟩, rfl⟩ ?_
    obtain ⟨g6, h⟩ := guardO_some h
    refine JO.makeSlice ttOk rfl rfl rfl rfl rfl rfl rfl rfl x0.length rfl g6 .byte rfl rfl rfl rfl rfl ?_
    intro a7
    refine JO.reg ttOk 1 [] [] [(3, .v (.slice a7 x0.length x0.length))] _ rfl ⟨⟨rfl, trivial⟩, rfl⟩ ?_
    refine JO.done rfl ?_
    refine JS.seq ?_
    refine JS.seq ?_
    refine JS.region ?_
    refine JO.reg ttOk 1 [] [] [(4, .v (.int .i64 0))] _ rfl ⟨⟨rfl, trivial⟩, rfl⟩ ?_
    refine JO.done rfl ?_
    obtain ⟨j25, hj33, h⟩ := joinO_some h
    refine JS.blockJ (ι := List UInt8 × Option Addr × Nat) ⟨fun z => j25 z.1 = some r, fun z => [(3, .v (.slice z.2.1 z.1.length z.2.2))], fun z => .nil, fun z => [], fun z => [⟨.byte, ⟨z.2.1, z.1.length, z.2.2⟩, z.1⟩], fun z => 0⟩ ?_ ?_
    · refine JS.loop (ι := Nat × List UInt8 × Int × Option Addr × Nat) ⟨fun z => fixF (M_l_toByteS_L1 x0 j25) z.1 (z.2.1, z.2.2.1) = some r, fun z => [(0, .v (.slice a2 x0.length c3)), (3, .v (.slice z.2.2.2.1 z.2.1.length z.2.2.2.2)), (4, .v (.int .i64 z.2.2.1))], fun z => .nil, fun z => [⟨.byte, ⟨a2, x0.length, c3⟩, x0⟩], fun z => [⟨.byte, ⟨z.2.2.2.1, z.2.1.length, z.2.2.2.2⟩, z.2.1⟩], fun z => z.1⟩ (FUEL, (List.replicate x0.length (0 : UInt8)), 0, a7, x0.length) h ⟨rfl, (by simp only [List.length_set, List.length_replicate, pickO, getF]; rfl), rfl, trivial⟩ trivial [0] rfl [0] (by simp only [List.length_set, List.length_replicate, pickO, getF]; rfl) ?_
      rintro ⟨n18, x8, x11, a9, c10⟩ h
      obtain ⟨n18, rfl, h⟩ := fixF_some h
      rw [M_l_toByteS_L1] at h
      refine JS.seq ?_
      refine JS.seq ?_
      refine JS.region ?_
      refine JO.reg ttOk 4 [] [] [(11, .v (.bool (decide (x11 < (x0.length : Int)))))] _ rfl ⟨⟨rfl, trivial⟩, rfl⟩ ?_
      refine JO.done rfl ?_
      refine JS.cond rfl (fun ht32 => ?_) (fun ht32 => ?_)
      · have h := condT h ht32
        refine JS.skip ?_
        refine JS.seq ?_
        refine JS.block ?_
        refine JS.region ?_
        refine JO.know 0 rfl fun hs30 => ?_
        obtain ⟨g13, h⟩ := guardO_some h
        refine JO.reg ttOk 5 [] [] [(14, .v (.slice a9 x8.length c10)), (15, .v (.int .i64 x11)), (18, .ep ⟨a2, x0.length, c3⟩ (Int.toNat x11 * 1))] _ rfl ⟨hs30.ix g13, ⟨rfl, rfl, rfl, trivial⟩, rfl⟩ ?_
        refine JO.load ttOk rfl rfl rfl rfl rfl rfl rfl 0 rfl rfl (Int.toNat x11) 0 (at' x0 x11) ⟨at_some g13, rfl⟩ rfl rfl ?_
        refine JO.know 1 rfl fun hs31 => ?_
        obtain ⟨g15, h⟩ := guardO_some h
        refine JO.reg ttOk 1 [] [] [(20, .ep ⟨a9, x8.length, c10⟩ (Int.toNat x11 * 1))] _ rfl ⟨hs31.ix g15, ⟨rfl, trivial⟩, rfl⟩ ?_
        refine JO.storeE ttOk rfl rfl rfl rfl rfl rfl rfl rfl rfl [0] (fs := []) rfl (Int.toNat x11) 0 (at' x8 x11) (at' x0 x11) ⟨at_some g15, rfl⟩ ⟨rfl, rfl, rfl⟩ ?_
        refine JO.done rfl ?_
        refine JS.endB ?_
        refine JS.region ?_
        refine JO.reg ttOk 3 [(W (x11 + 1))] [] [(4, .v (.int .i64 (W (x11 + 1))))] _ rfl ⟨⟨trivial, rfl⟩, ⟨rfl, trivial⟩, rfl⟩ ?_
        refine JO.done rfl ?_
        exact JS.endL (n18, (List.set x8 (Int.toNat x11) (at' x0 x11)), (W (x11 + 1)), a9, c10) h (Nat.lt_succ_self _) ⟨rfl, (by simp only [List.length_set, List.length_replicate, pickO, getF]; rfl), rfl, trivial⟩ trivial [0] rfl [0] (by simp only [List.length_set, List.length_replicate, pickO, getF]; rfl)
      · have h := condF h ht32
        refine JS.exit rfl ?_
        exact JS.endJ (x8, a9, c10) h ⟨rfl, trivial⟩ trivial [] rfl [0] rfl
    · rintro ⟨x22, a23, c24⟩ h
      subst hj33
      refine JS.seq ?_
      refine JS.region ?_
      refine JO.reg ttOk 2 [] [] [(2, .v (.slice a23 x22.length c24))] _ rfl ⟨⟨rfl, trivial⟩, rfl⟩ ?_
      refine JO.done rfl ?_
      cases h
      exact JS.ret ttOk (a23, c24) trivial rfl rfl [0] rfl

def M_l_toDec (x0 : Int × List UInt8) : Option (Int × List UInt8) :=
  (bindO (M_l_toByteS x0.2) fun (y6 : List UInt8) =>
  some (x0.1, y6))

theorem ok_l_toDec (x0 : Int × List UInt8) (a2 : Option Addr) (c3 : Nat) (l4 : Nat) (hl5 : x0.2.length = l4) (r : Int × List UInt8) (h : M_l_toDec x0 = some r) :
    FC Try.prog 10 [.agg #[.int .i64 x0.1, .slice a2 l4 c3]] [⟨.byte, ⟨a2, l4, c3⟩, x0.2⟩] (fun _ : Option Addr × Nat => True) (fun q => .agg #[.int .i64 r.1, .slice q.1 r.2.length q.2]) (fun q => [⟨.byte, ⟨q.1, r.2.length, q.2⟩, r.2⟩]) :=
  by
    subst hl5
    refine FC.of (T := TTx) Try.call10 Try.func10 rfl rfl fun w0 => ?_
    unfold M_l_toDec at h
    refine JS.seq ?_
    refine JS.region ?_
    refine JO.regB ttOk 2 [] [2, 3] [(1, .bp 2 0), (2, .bp 3 0)] (.new 2 24 [.int .i64 x0.1, .slice a2 x0.2.length c3] (.new 3 26 [.int .i64 0, .slice none 0 0] .nil)) rfl ⟨⟨rfl, rfl, trivial⟩, ⟨rfl, rfl, rfl, rfl, rfl, rfl, rfl, rfl, trivial⟩⟩ ?_
    refine JO.done rfl ?_
    refine JS.seq ?_
    refine JS.region ?_
    refine JO.regB ttOk 1 [] [4] [(3, .bp 4 0)] (.new 2 24 [.int .i64 x0.1, .slice a2 x0.2.length c3] (.new 3 26 [.int .i64 0, .slice none 0 0] (.new 4 26 [.int .i64 0, .slice none 0 0] .nil))) rfl ⟨⟨rfl, trivial⟩, ⟨rfl, rfl, rfl, rfl, rfl, rfl, rfl, rfl, rfl, rfl, rfl, rfl, trivial⟩⟩ ?_
    refine JO.done rfl ?_
    refine JS.seq ?_
    refine JS.region ?_
    refine JO.regB ttOk 4 [] [] [] (.new 2 24 [.int .i64 x0.1, .slice a2 x0.2.length c3] (.new 3 26 [.int .i64 0, .slice none 0 0] (.new 4 26 [.int .i64 x0.1, .slice none 0 0] .nil))) rfl ⟨trivial, ⟨rfl, rfl, rfl, rfl, rfl, rfl, rfl, rfl, rfl, rfl, rfl, rfl, trivial⟩⟩ ?_
    refine JO.done rfl ?_
    refine JS.seq ?_
    refine JS.region ?_
    refine JO.reg ttOk 2 [] [] [(8, .v (.slice a2 x0.2.length c3))] _ rfl ⟨⟨rfl, trivial⟩, rfl⟩ ?_
    obtain ⟨y6, hy7, h⟩ := bindO_some h
    refine JO.call rfl rfl rfl rfl (ok_l_toByteS x0.2 a2 c3 x0.2.length rfl _ hy7) rfl [0] rfl rfl ?_
    rintro ⟨a8, c9⟩ -
    refine JO.regB ttOk 2 [] [] [] (.new 3 26 [.int .i64 0, .slice none 0 0] (.new 4 26 [.int .i64 x0.1, .slice a8 y6.length c9] .nil)) rfl ⟨trivial, ⟨rfl, rfl, rfl, rfl, rfl, rfl, rfl, rfl, trivial⟩⟩ ?_
    refine JO.done rfl ?_
    refine JS.seq ?_
    refine JS.region ?_
    refine JO.regB ttOk 2 [] [] [] (.new 3 26 [.int .i64 x0.1, .slice a8 y6.length c9] .nil) rfl ⟨trivial, ⟨rfl, rfl, rfl, rfl, trivial⟩⟩ ?_
    refine JO.done rfl ?_
    cases h
    exact JS.ret ttOk (a8, c9) trivial rfl rfl [0] rfl

def M_s_l12Param (x0 : Int) : Option Bool :=
  some (bif (bif (decide (48 ≤ x0)) then (decide (x0 ≤ 57)) else false) then true else (decide (x0 = 59)))

theorem ok_s_l12Param (x0 : Int) (r : Bool) (h : M_s_l12Param x0 = some r) :
    FC Try.prog 52 [.int .i64 x0] [] (fun _ : Unit => True) (fun _ => .bool r) (fun _ => []) :=
  by
    refine FC.of (T := TTx) Try.call52 Try.func52 rfl rfl fun w0 => ?_
    unfold M_s_l12Param at h
    refine JS.seq ?_
    refine JS.region ?_
    refine JO.reg ttOk 1 [] [] [] _ rfl ⟨trivial, rfl⟩ ?_
    refine JO.done rfl ?_
    refine JS.seq ?_
    refine JS.region ?_
    refine JO.reg ttOk 11 [] [] [(2, .v (.bool (bif (bif (decide (48 ≤ x0)) then (decide (x0 ≤ 57)) else false) then true else (decide (x0 = 59)))))] _ rfl ⟨⟨rfl, trivial⟩, rfl⟩ ?_
    refine JO.done rfl ?_
    cases h
    exact JS.ret ttOk () trivial rfl rfl [] rfl

def M_s_RuneOk (x0 : Int) : Option Bool :=
  some (bif (bif (decide (0 ≤ x0)) then (decide (x0 ≤ 1114111)) else false) then (bif (decide (x0 < 55296)) then true else (decide (57343 < x0))) else false)

theorem ok_s_RuneOk (x0 : Int) (r : Bool) (h : M_s_RuneOk x0 = some r) :
    FC Try.prog 67 [.int .i64 x0] [] (fun _ : Unit => True) (fun _ => .bool r) (fun _ => []) :=
  by
    refine FC.of (T := TTx) Try.call67 Try.func67 rfl rfl fun w0 => ?_
    unfold M_s_RuneOk at h
    refine JS.seq ?_
    refine JS.region ?_
    refine JO.reg ttOk 1 [] [] [] _ rfl ⟨trivial, rfl⟩ ?_
    refine JO.done rfl ?_
    refine JS.seq ?_
    refine JS.region ?_
    refine JO.reg ttOk 15 [] [] [(2, .v (.bool (bif (bif (decide (0 ≤ x0)) then (decide (x0 ≤ 1114111)) else false) then (bif (decide (x0 < 55296)) then true else (decide (57343 < x0))) else false)))] _ rfl ⟨⟨rfl, trivial⟩, rfl⟩ ?_
    refine JO.done rfl ?_
    cases h
    exact JS.ret ttOk () trivial rfl rfl [] rfl

def M_s_RuneBytes (x0 : Int) : Option (List UInt8) :=
  (bindO (M_s_RuneOk x0) fun (y2 : Bool) =>
  (bif (!y2) then
  some ([])
  else
  (bif (decide (x0 < 128)) then
  some ([(u8 (x0))] : List UInt8)
  else
  (bif (decide (x0 < 2048)) then
  some ([(u8 ((W (192 + (W (Int.tdiv x0 64)))))), (u8 ((W (128 + (Int.tmod x0 64)))))] : List UInt8)
  else
  (bif (decide (x0 < 65536)) then
  some ([(u8 ((W (224 + (W (Int.tdiv x0 4096)))))), (u8 ((W (128 + (Int.tmod (W (Int.tdiv x0 64)) 64))))), (u8 ((W (128 + (Int.tmod x0 64)))))] : List UInt8)
  else
  some ([(u8 ((W (240 + (W (Int.tdiv x0 262144)))))), (u8 ((W (128 + (Int.tmod (W (Int.tdiv x0 4096)) 64))))), (u8 ((W (128 + (Int.tmod (W (Int.tdiv x0 64)) 64))))), (u8 ((W (128 + (Int.tmod x0 64)))))] : List UInt8))))))

theorem ok_s_RuneBytes (x0 : Int) (r : List UInt8) (h : M_s_RuneBytes x0 = some r) :
    FC Try.prog 66 [.int .i64 x0] [] (fun _ : Option Addr × Nat => True) (fun q => .slice q.1 r.length q.2) (fun q => [⟨.byte, ⟨q.1, r.length, q.2⟩, r⟩]) :=
  by
    refine FC.of (T := TTx) Try.call66 Try.func66 rfl rfl fun w0 => ?_
    unfold M_s_RuneBytes at h
    refine JS.seq ?_
    refine JS.region ?_
    refine JO.reg ttOk 1 [] [] [] _ rfl ⟨trivial, rfl⟩ ?_
    refine JO.done rfl ?_
    refine JS.seq ?_
    refine JS.seq ?_
    refine JS.region ?_
    refine JO.reg ttOk 1 [] [] [(3, .v (.int .i64 x0))] _ rfl ⟨⟨rfl, trivial⟩, rfl⟩ ?_
    obtain ⟨y2, hy3, h⟩ := bindO_some h
    refine JO.call rfl rfl rfl rfl (ok_s_RuneOk x0 _ hy3) rfl [] rfl rfl ?_
    intro _ _
    refine JO.reg ttOk 1 [] [] [(5, .v (.bool (!y2)))] _ rfl ⟨⟨rfl, trivial⟩, rfl⟩ ?_
    refine JO.done rfl ?_
    refine JS.cond rfl (fun ht27 => ?_) (fun ht27 => ?_)
    · have h := condT h ht27
      refine JS.seq ?_
      refine JS.region ?_
      refine JO.reg ttOk 1 [] [] [(2, .v (.slice none 0 0))] _ rfl ⟨⟨rfl, trivial⟩, rfl⟩ ?_
      refine JO.done rfl ?_
      cases h
      refine JS.nilO .byte Sl.nil rfl rfl ?_
      exact JS.ret ttOk (none, 0) trivial rfl rfl [0] rfl
    · have h := condF h ht27
      refine JS.skip ?_
      refine JS.seq ?_
      refine JS.seq ?_
      refine JS.region ?_
      refine JO.reg ttOk 2 [] [] [(7, .v (.bool (decide (x0 < 128))))] _ rfl ⟨⟨rfl, trivial⟩, rfl⟩ ?_
      refine JO.done rfl ?_
      refine JS.cond rfl (fun ht26 => ?_) (fun ht26 => ?_)
      · have h := condT h ht26
        refine JS.seq ?_
        refine JS.region ?_
        refine JO.reg ttOk 2 [((u8 (x0)).toNat : Int)] [] [(9, .v (.int .u8 ((u8 (x0)).toNat : Int)))] _ rfl ⟨⟨trivial, u8_wrap _⟩, ⟨rfl, trivial⟩, rfl⟩ ?_
        refine JO.ofK rfl (JK.buildSlice ttOk rfl rfl rfl rfl rfl rfl rfl rfl rfl rfl rfl [] rfl .byte [(u8 (x0))] ⟨rfl, rfl⟩ rfl rfl fun a4 => JO.toK ?_)
        refine JO.reg ttOk 1 [] [] [(2, .v (.slice a4 ([(u8 (x0))] : List UInt8).length ([(u8 (x0))] : List UInt8).length))] _ rfl ⟨⟨rfl, trivial⟩, rfl⟩ ?_
        refine JO.done rfl ?_
        cases h
        exact JS.ret ttOk (a4, ([(u8 (x0))] : List UInt8).length) trivial rfl rfl [0] rfl
      · have h := condF h ht26
        refine JS.skip ?_
        refine JS.seq ?_
        refine JS.seq ?_
        refine JS.region ?_
        refine JO.reg ttOk 2 [] [] [(12, .v (.bool (decide (x0 < 2048))))] _ rfl ⟨⟨rfl, trivial⟩, rfl⟩ ?_
        refine JO.done rfl ?_
        refine JS.cond rfl (fun ht25 => ?_) (fun ht25 => ?_)
        · have h := condT h ht25
          refine JS.seq ?_
          refine JS.region ?_
          have g5 : (64 : Int) ≠ 0 := by decide
          have g6 : (64 : Int) ≠ 0 := by decide
          refine JO.reg ttOk 8 [(W (Int.tdiv x0 64)), (W (192 + (W (Int.tdiv x0 64)))), ((u8 ((W (192 + (W (Int.tdiv x0 64)))))).toNat : Int), (W (128 + (Int.tmod x0 64))), ((u8 ((W (128 + (Int.tmod x0 64))))).toNat : Int)] [] [(16, .v (.int .u8 ((u8 ((W (192 + (W (Int.tdiv x0 64)))))).toNat : Int))), (20, .v (.int .u8 ((u8 ((W (128 + (Int.tmod x0 64))))).toNat : Int)))] _ rfl ⟨⟨g5, rfl⟩, ⟨trivial, rfl⟩, ⟨trivial, u8_wrap _⟩, g6, ⟨trivial, rfl⟩, ⟨trivial, u8_wrap _⟩, ⟨rfl, rfl, trivial⟩, rfl⟩ ?_
          refine JO.ofK rfl (JK.buildSlice ttOk rfl rfl rfl rfl rfl rfl rfl rfl rfl rfl rfl [] rfl .byte [(u8 ((W (192 + (W (Int.tdiv x0 64)))))), (u8 ((W (128 + (Int.tmod x0 64)))))] ⟨rfl, rfl⟩ rfl rfl fun a7 => JO.toK ?_)
          refine JO.reg ttOk 1 [] [] [(2, .v (.slice a7 ([(u8 ((W (192 + (W (Int.tdiv x0 64)))))), (u8 ((W (128 + (Int.tmod x0 64)))))] : List UInt8).length ([(u8 ((W (192 + (W (Int.tdiv x0 64)))))), (u8 ((W (128 + (Int.tmod x0 64)))))] : List UInt8).length))] _ rfl ⟨⟨rfl, trivial⟩, rfl⟩ ?_
          refine JO.done rfl ?_
          cases h
          exact JS.ret ttOk (a7, ([(u8 ((W (192 + (W (Int.tdiv x0 64)))))), (u8 ((W (128 + (Int.tmod x0 64)))))] : List UInt8).length) trivial rfl rfl [0] rfl
        · have h := condF h ht25
          refine JS.skip ?_
          refine JS.seq ?_
          refine JS.seq ?_
          refine JS.region ?_
          refine JO.reg ttOk 2 [] [] [(23, .v (.bool (decide (x0 < 65536))))] _ rfl ⟨⟨rfl, trivial⟩, rfl⟩ ?_
          refine JO.done rfl ?_
          refine JS.cond rfl (fun ht24 => ?_) (fun ht24 => ?_)
          · have h := condT h ht24
            refine JS.seq ?_
            refine JS.region ?_
            have g8 : (4096 : Int) ≠ 0 := by decide
            have g9 : (64 : Int) ≠ 0 := by decide
            have g10 : (64 : Int) ≠ 0 := by decide
            have g11 : (64 : Int) ≠ 0 := by decide
            refine JO.reg ttOk 13 [(W (Int.tdiv x0 4096)), (W (224 + (W (Int.tdiv x0 4096)))), ((u8 ((W (224 + (W (Int.tdiv x0 4096)))))).toNat : Int), (W (Int.tdiv x0 64)), (W (128 + (Int.tmod (W (Int.tdiv x0 64)) 64))), ((u8 ((W (128 + (Int.tmod (W (Int.tdiv x0 64)) 64))))).toNat : Int), (W (128 + (Int.tmod x0 64))), ((u8 ((W (128 + (Int.tmod x0 64))))).toNat : Int)] [] [(27, .v (.int .u8 ((u8 ((W (224 + (W (Int.tdiv x0 4096)))))).toNat : Int))), (32, .v (.int .u8 ((u8 ((W (128 + (Int.tmod (W (Int.tdiv x0 64)) 64))))).toNat : Int))), (36, .v (.int .u8 ((u8 ((W (128 + (Int.tmod x0 64))))).toNat : Int)))] _ rfl ⟨⟨g8, rfl⟩, ⟨trivial, rfl⟩, ⟨trivial, u8_wrap _⟩, ⟨g9, rfl⟩, g10, ⟨trivial, rfl⟩, ⟨trivial, u8_wrap _⟩, g11, ⟨trivial, rfl⟩, ⟨trivial, u8_wrap _⟩, ⟨rfl, rfl, rfl, trivial⟩, rfl⟩ ?_
            refine JO.ofK rfl (JK.buildSlice ttOk rfl rfl rfl rfl rfl rfl rfl rfl rfl rfl rfl [] rfl .byte [(u8 ((W (224 + (W (Int.tdiv x0 4096)))))), (u8 ((W (128 + (Int.tmod (W (Int.tdiv x0 64)) 64))))), (u8 ((W (128 + (Int.tmod x0 64)))))] ⟨rfl, rfl⟩ rfl rfl fun a12 => JO.toK ?_)
            refine JO.reg ttOk 1 [] [] [(2, .v (.slice a12 ([(u8 ((W (224 + (W (Int.tdiv x0 4096)))))), (u8 ((W (128 + (Int.tmod (W (Int.tdiv x0 64)) 64))))), (u8 ((W (128 + (Int.tmod x0 64)))))] : List UInt8).length ([(u8 ((W (224 + (W (Int.tdiv x0 4096)))))), (u8 ((W (128 + (Int.tmod (W (Int.tdiv x0 64)) 64))))), (u8 ((W (128 + (Int.tmod x0 64)))))] : List UInt8).length))] _ rfl ⟨⟨rfl, trivial⟩, rfl⟩ ?_
            refine JO.done rfl ?_
            cases h
            exact JS.ret ttOk (a12, ([(u8 ((W (224 + (W (Int.tdiv x0 4096)))))), (u8 ((W (128 + (Int.tmod (W (Int.tdiv x0 64)) 64))))), (u8 ((W (128 + (Int.tmod x0 64)))))] : List UInt8).length) trivial rfl rfl [0] rfl
          · have h := condF h ht24
            refine JS.skip ?_
            refine JS.seq ?_
            refine JS.region ?_
            have g13 : (262144 : Int) ≠ 0 := by decide
            have g14 : (4096 : Int) ≠ 0 := by decide
            have g15 : (64 : Int) ≠ 0 := by decide
            have g16 : (64 : Int) ≠ 0 := by decide
            have g17 : (64 : Int) ≠ 0 := by decide
            have g18 : (64 : Int) ≠ 0 := by decide
            refine JO.reg ttOk 18 [(W (Int.tdiv x0 262144)), (W (240 + (W (Int.tdiv x0 262144)))), ((u8 ((W (240 + (W (Int.tdiv x0 262144)))))).toNat : Int), (W (Int.tdiv x0 4096)), (W (128 + (Int.tmod (W (Int.tdiv x0 4096)) 64))), ((u8 ((W (128 + (Int.tmod (W (Int.tdiv x0 4096)) 64))))).toNat : Int), (W (Int.tdiv x0 64)), (W (128 + (Int.tmod (W (Int.tdiv x0 64)) 64))), ((u8 ((W (128 + (Int.tmod (W (Int.tdiv x0 64)) 64))))).toNat : Int), (W (128 + (Int.tmod x0 64))), ((u8 ((W (128 + (Int.tmod x0 64))))).toNat : Int)] [] [(41, .v (.int .u8 ((u8 ((W (240 + (W (Int.tdiv x0 262144)))))).toNat : Int))), (46, .v (.int .u8 ((u8 ((W (128 + (Int.tmod (W (Int.tdiv x0 4096)) 64))))).toNat : Int))), (51, .v (.int .u8 ((u8 ((W (128 + (Int.tmod (W (Int.tdiv x0 64)) 64))))).toNat : Int))), (55, .v (.int .u8 ((u8 ((W (128 + (Int.tmod x0 64))))).toNat : Int)))] _ rfl ⟨⟨g13, rfl⟩, ⟨trivial, rfl⟩, ⟨trivial, u8_wrap _⟩, ⟨g14, rfl⟩, g15, ⟨trivial, rfl⟩, ⟨trivial, u8_wrap _⟩, ⟨g16, rfl⟩, g17, ⟨trivial, rfl⟩, ⟨trivial, u8_wrap _⟩, g18, ⟨trivial, rfl⟩, ⟨trivial, u8_wrap _⟩, ⟨rfl, rfl, rfl, rfl, trivial⟩, rfl⟩ ?_
            refine JO.ofK rfl (JK.buildSlice ttOk rfl rfl rfl rfl rfl rfl rfl rfl rfl rfl rfl [] rfl .byte [(u8 ((W (240 + (W (Int.tdiv x0 262144)))))), (u8 ((W (128 + (Int.tmod (W (Int.tdiv x0 4096)) 64))))), (u8 ((W (128 + (Int.tmod (W (Int.tdiv x0 64)) 64))))), (u8 ((W (128 + (Int.tmod x0 64)))))] ⟨rfl, rfl⟩ rfl rfl fun a19 => JO.toK ?_)
            refine JO.reg ttOk 1 [] [] [(2, .v (.slice a19 ([(u8 ((W (240 + (W (Int.tdiv x0 262144)))))), (u8 ((W (128 + (Int.tmod (W (Int.tdiv x0 4096)) 64))))), (u8 ((W (128 + (Int.tmod (W (Int.tdiv x0 64)) 64))))), (u8 ((W (128 + (Int.tmod x0 64)))))] : List UInt8).length ([(u8 ((W (240 + (W (Int.tdiv x0 262144)))))), (u8 ((W (128 + (Int.tmod (W (Int.tdiv x0 4096)) 64))))), (u8 ((W (128 + (Int.tmod (W (Int.tdiv x0 64)) 64))))), (u8 ((W (128 + (Int.tmod x0 64)))))] : List UInt8).length))] _ rfl ⟨⟨rfl, trivial⟩, rfl⟩ ?_
            refine JO.done rfl ?_
            cases h
            exact JS.ret ttOk (a19, ([(u8 ((W (240 + (W (Int.tdiv x0 262144)))))), (u8 ((W (128 + (Int.tmod (W (Int.tdiv x0 4096)) 64))))), (u8 ((W (128 + (Int.tmod (W (Int.tdiv x0 64)) 64))))), (u8 ((W (128 + (Int.tmod x0 64)))))] : List UInt8).length) trivial rfl rfl [0] rfl

def M_s_RuneRead_L1 (x0 : List UInt8) (x1 : Int) (x7 : Int) (j29 : Int → Option (Int × Int)) (k24 : (Int × Int) → Option (Int × Int)) : (Int × Int) → Option (Int × Int) := fun (x19, x20) =>
  (bif (decide (x20 < x7)) then
  (guardO (0 ≤ (W (x1 + x20)) ∧ (W (x1 + x20)) < (x0.length : Int)) <|
  k24 ((W ((W ((W (x19 * 64)) + ((at' x0 (W (x1 + x20))).toNat : Int))) - 128)), (W (x20 + 1))))
  else
  j29 x19)

def M_s_RuneRead_L2 (x0 : List UInt8) (x1 : Int) (j101 : Unit → Option (Int × Int)) (k77 : Int → Option (Int × Int)) : Int → Option (Int × Int) := fun x7 =>
  (bif (bif (decide (x7 ≤ 4)) then (decide (x7 ≤ (W ((x0.length : Int) - x1)))) else false) then
  (joinO (fun (_ : Unit) =>
  k77 (W (x7 + 1))) fun j55 =>
  (guardO (0 ≤ x1 ∧ x1 < (x0.length : Int)) <|
  (joinO (fun (x15 : Int) =>
  (joinO (fun (x28 : Int) =>
  (bindO (M_s_RuneBytes x28) fun (y32 : List UInt8) =>
  (guardO (((decide ((y32.length : Int) = x7)) = true) → 0 ≤ x1 ∧ x1 ≤ (W (x1 + x7)) ∧ (W (x1 + x7)) ≤ (x0.length : Int)) <|
  (bif (bif (decide ((y32.length : Int) = x7)) then (decide (y32 = (sub' x0 x1 (W (x1 + x7))))) else false) then
  some (x28, x7)
  else
  j55 ())))) fun j29 =>
  (fixF (M_s_RuneRead_L1 x0 x1 x7 j29) FUEL (x15, 1)))) fun j16 =>
  (bif (decide (1 < x7)) then
  (guardO (0 ≤ x7 ∧ x7 < (([0, 0, 192, 224, 240] : List Int).length : Int)) <|
  j16 (W (((at' x0 x1).toNat : Int) - (at' ([0, 0, 192, 224, 240] : List Int) x7))))
  else
  j16 ((at' x0 x1).toNat : Int)))))
  else
  j101 ())

def M_s_RuneRead (x0 : List UInt8) (x1 : Int) : Option (Int × Int) :=
  (bif (bif (decide (x1 < 0)) then true else (decide ((x0.length : Int) ≤ x1))) then
  some (0, 0)
  else
  (joinO (fun (_ : Unit) =>
  some (0, 0)) fun j101 =>
  (fixF (M_s_RuneRead_L2 x0 x1 j101) FUEL 1)))

theorem ok_s_RuneRead (x0 : List UInt8) (x1 : Int) (a3 : Option Addr) (c4 : Nat) (l5 : Nat) (hl6 : x0.length = l5) (r : Int × Int) (h : M_s_RuneRead x0 x1 = some r) :
    FC Try.prog 62 [.slice a3 l5 c4, .int .i64 x1] [⟨.byte, ⟨a3, l5, c4⟩, x0⟩] (fun _ : Unit => True) (fun _ => .tuple #[.int .i64 r.1, .int .i64 r.2]) (fun _ => []) :=
  by
    subst hl6
    refine FC.of (T := TTx) Try.call62 Try.func62 rfl rfl fun w0 => ?_
    unfold M_s_RuneRead at h
    refine JS.seq ?_
    refine JS.region ?_
    refine JO.reg ttOk 2 [] [] [] _ rfl ⟨trivial, rfl⟩ ?_
    refine JO.done rfl ?_
    refine JS.seq ?_
    refine JS.seq ?_
    refine JS.region ?_
    refine JO.reg ttOk 8 [] [] [(17, .v (.bool (bif (decide (x1 < 0)) then true else (decide ((x0.length : Int) ≤ x1)))))] _ rfl ⟨⟨rfl, trivial⟩, rfl⟩ ?_
    refine JO.done rfl ?_
    refine JS.cond rfl (fun ht149 => ?_) (fun ht149 => ?_)
    · have h := condT h ht149
      refine JS.seq ?_
      refine JS.region ?_
      refine JO.reg ttOk 2 [] [] [(4, .v (.int .i64 0)), (5, .v (.int .i64 0))] _ rfl ⟨⟨rfl, rfl, trivial⟩, rfl⟩ ?_
      refine JO.done rfl ?_
      cases h
      exact JS.ret ttOk () trivial rfl rfl [] rfl
    · have h := condF h ht149
      refine JS.skip ?_
      refine JS.seq ?_
      refine JS.seq ?_
      refine JS.region ?_
      refine JO.reg ttOk 1 [] [] [(6, .v (.int .i64 1))] _ rfl ⟨⟨rfl, trivial⟩, rfl⟩ ?_
      refine JO.done rfl ?_
      obtain ⟨j101, hj148, h⟩ := joinO_some h
      refine JS.blockJ (ι := Unit) ⟨fun _ => j101 () = some r, fun _ => [], fun _ => .nil, fun _ => [], fun _ => [], fun _ => 0⟩ ?_ ?_
      · refine JS.loop (ι := Nat × Int) ⟨fun z => fixF (M_s_RuneRead_L2 x0 x1 j101) z.1 z.2 = some r, fun z => [(0, .v (.slice a3 x0.length c4)), (1, .v (.int .i64 x1)), (6, .v (.int .i64 z.2))], fun z => .nil, fun z => [⟨.byte, ⟨a3, x0.length, c4⟩, x0⟩], fun z => [], fun z => z.1⟩ (FUEL, 1) h ⟨rfl, rfl, rfl, trivial⟩ trivial [0] rfl [] rfl ?_
        rintro ⟨n78, x7⟩ h
        obtain ⟨n78, rfl, h⟩ := fixF_some h
        rw [M_s_RuneRead_L2] at h
        refine JS.seq ?_
        refine JS.seq ?_
        refine JS.region ?_
        refine JO.reg ttOk 10 [(W ((x0.length : Int) - x1))] [] [(27, .v (.bool (bif (decide (x7 ≤ 4)) then (decide (x7 ≤ (W ((x0.length : Int) - x1)))) else false)))] _ rfl ⟨(fun q126 => ⟨trivial, rfl⟩), ⟨rfl, trivial⟩, rfl⟩ ?_
        refine JO.done rfl ?_
        refine JS.cond rfl (fun ht147 => ?_) (fun ht147 => ?_)
        · have h := condT h ht147
          refine JS.skip ?_
          refine JS.seq ?_
          obtain ⟨j55, hj146, h⟩ := joinO_some h
          refine JS.blockJ (ι := Unit) ⟨fun _ => j55 () = some r, fun _ => [(0, .v (.slice a3 x0.length c4)), (1, .v (.int .i64 x1)), (6, .v (.int .i64 x7))], fun _ => .nil, fun _ => [⟨.byte, ⟨a3, x0.length, c4⟩, x0⟩], fun _ => [], fun _ => 0⟩ ?_ ?_
          · refine JS.seq ?_
            refine JS.region ?_
            refine JO.know 0 rfl fun hs127 => ?_
            obtain ⟨g10, h⟩ := guardO_some h
            refine JO.reg ttOk 3 [] [] [(32, .ep ⟨a3, x0.length, c4⟩ (Int.toNat x1 * 1))] _ rfl ⟨hs127.ix g10, ⟨rfl, trivial⟩, rfl⟩ ?_
            refine JO.load ttOk rfl rfl rfl rfl rfl rfl rfl 0 rfl rfl (Int.toNat x1) 0 (at' x0 x1) ⟨at_some g10, rfl⟩ rfl rfl ?_
            refine JO.reg ttOk 2 [((at' x0 x1).toNat : Int)] [] [(7, .v (.int .i64 ((at' x0 x1).toNat : Int)))] _ rfl ⟨⟨trivial, W_byte _⟩, ⟨rfl, trivial⟩, rfl⟩ ?_
            refine JO.done rfl ?_
            obtain ⟨j16, hj145, h⟩ := joinO_some h
            refine JS.seqJ (ι := Int) ⟨fun z => j16 z = some r, fun z => [(0, .v (.slice a3 x0.length c4)), (1, .v (.int .i64 x1)), (6, .v (.int .i64 x7)), (7, .v (.int .i64 z))], fun z => .nil, fun z => [⟨.byte, ⟨a3, x0.length, c4⟩, x0⟩], fun z => [], fun z => 0⟩ ?_ ?_
            · refine JS.seq ?_
              refine JS.region ?_
              refine JO.reg ttOk 2 [] [] [(36, .v (.bool (decide (1 < x7))))] _ rfl ⟨⟨rfl, trivial⟩, rfl⟩ ?_
              refine JO.done rfl ?_
              refine JS.cond rfl (fun ht129 => ?_) (fun ht129 => ?_)
              · have h := condT h ht129
                refine JS.region ?_
                refine JO.reg ttOk 1 [] [] [(37, .v (.int .i64 ((at' x0 x1).toNat : Int)))] _ rfl ⟨⟨rfl, trivial⟩, rfl⟩ ?_
                refine JO.ofK rfl (JK.buildSlice ttOk rfl rfl rfl rfl rfl rfl rfl rfl rfl rfl rfl [] rfl (.int .i64) [0, 0, 192, 224, 240] ⟨rfl, rfl⟩ rfl rfl fun a11 => JO.toK ?_)
                refine JO.know 1 rfl fun hs128 => ?_
                obtain ⟨g13, h⟩ := guardO_some h
                refine JO.reg ttOk 2 [] [] [(40, .ep ⟨a11, ([0, 0, 192, 224, 240] : List Int).length, ([0, 0, 192, 224, 240] : List Int).length⟩ (Int.toNat x7 * 1))] _ rfl ⟨hs128.ix g13, ⟨rfl, trivial⟩, rfl⟩ ?_
                refine JO.load ttOk rfl rfl rfl rfl rfl rfl rfl 1 rfl rfl (Int.toNat x7) 0 (at' ([0, 0, 192, 224, 240] : List Int) x7) ⟨at_some g13, rfl⟩ rfl rfl ?_
                refine JO.reg ttOk 2 [(W (((at' x0 x1).toNat : Int) - (at' ([0, 0, 192, 224, 240] : List Int) x7)))] [] [(7, .v (.int .i64 (W (((at' x0 x1).toNat : Int) - (at' ([0, 0, 192, 224, 240] : List Int) x7)))))] _ rfl ⟨⟨trivial, rfl⟩, ⟨rfl, trivial⟩, rfl⟩ ?_
                refine JO.done rfl ?_
                exact JS.endJ (W (((at' x0 x1).toNat : Int) - (at' ([0, 0, 192, 224, 240] : List Int) x7))) h ⟨rfl, rfl, rfl, rfl, trivial⟩ trivial [0] rfl [] rfl
              · have h := condF h ht129
                refine JS.skip ?_
                exact JS.endJ ((at' x0 x1).toNat : Int) h ⟨rfl, rfl, rfl, rfl, trivial⟩ trivial [0] rfl [] rfl
            · rintro x15 h
              subst hj145
              refine JS.seq ?_
              refine JS.seq ?_
              refine JS.region ?_
              refine JO.reg ttOk 1 [] [] [(8, .v (.int .i64 1))] _ rfl ⟨⟨rfl, trivial⟩, rfl⟩ ?_
              refine JO.done rfl ?_
              obtain ⟨j29, hj144, h⟩ := joinO_some h
              refine JS.blockJ (ι := Int) ⟨fun z => j29 z = some r, fun z => [(0, .v (.slice a3 x0.length c4)), (1, .v (.int .i64 x1)), (6, .v (.int .i64 x7)), (7, .v (.int .i64 z))], fun z => .nil, fun z => [⟨.byte, ⟨a3, x0.length, c4⟩, x0⟩], fun z => [], fun z => 0⟩ ?_ ?_
              · refine JS.loop (ι := Nat × Int × Int) ⟨fun z => fixF (M_s_RuneRead_L1 x0 x1 x7 j29) z.1 (z.2.1, z.2.2) = some r, fun z => [(0, .v (.slice a3 x0.length c4)), (1, .v (.int .i64 x1)), (6, .v (.int .i64 x7)), (7, .v (.int .i64 z.2.1)), (8, .v (.int .i64 z.2.2))], fun z => .nil, fun z => [⟨.byte, ⟨a3, x0.length, c4⟩, x0⟩], fun z => [], fun z => z.1⟩ (FUEL, x15, 1) h ⟨rfl, rfl, rfl, rfl, rfl, trivial⟩ trivial [0] rfl [] rfl ?_
                rintro ⟨n25, x19, x20⟩ h
                obtain ⟨n25, rfl, h⟩ := fixF_some h
                rw [M_s_RuneRead_L1] at h
                refine JS.seq ?_
                refine JS.seq ?_
                refine JS.region ?_
                refine JO.reg ttOk 3 [] [] [(45, .v (.bool (decide (x20 < x7))))] _ rfl ⟨⟨rfl, trivial⟩, rfl⟩ ?_
                refine JO.done rfl ?_
                refine JS.cond rfl (fun ht131 => ?_) (fun ht131 => ?_)
                · have h := condT h ht131
                  refine JS.skip ?_
                  refine JS.seq ?_
                  refine JS.block ?_
                  refine JS.region ?_
                  refine JO.know 0 rfl fun hs130 => ?_
                  obtain ⟨g22, h⟩ := guardO_some h
                  refine JO.reg ttOk 7 [(W (x19 * 64)), (W (x1 + x20))] [] [(49, .v (.int .i64 (W (x19 * 64)))), (54, .ep ⟨a3, x0.length, c4⟩ (Int.toNat (W (x1 + x20)) * 1))] _ rfl ⟨⟨trivial, rfl⟩, ⟨trivial, rfl⟩, hs130.ix g22, ⟨rfl, rfl, trivial⟩, rfl⟩ ?_
                  refine JO.load ttOk rfl rfl rfl rfl rfl rfl rfl 0 rfl rfl (Int.toNat (W (x1 + x20))) 0 (at' x0 (W (x1 + x20))) ⟨at_some g22, rfl⟩ rfl rfl ?_
                  refine JO.reg ttOk 4 [((at' x0 (W (x1 + x20))).toNat : Int), (W ((W (x19 * 64)) + ((at' x0 (W (x1 + x20))).toNat : Int))), (W ((W ((W (x19 * 64)) + ((at' x0 (W (x1 + x20))).toNat : Int))) - 128))] [] [(7, .v (.int .i64 (W ((W ((W (x19 * 64)) + ((at' x0 (W (x1 + x20))).toNat : Int))) - 128))))] _ rfl ⟨⟨trivial, W_byte _⟩, ⟨trivial, rfl⟩, ⟨trivial, rfl⟩, ⟨rfl, trivial⟩, rfl⟩ ?_
                  refine JO.done rfl ?_
                  refine JS.endB ?_
                  refine JS.region ?_
                  refine JO.reg ttOk 3 [(W (x20 + 1))] [] [(8, .v (.int .i64 (W (x20 + 1))))] _ rfl ⟨⟨trivial, rfl⟩, ⟨rfl, trivial⟩, rfl⟩ ?_
                  refine JO.done rfl ?_
                  exact JS.endL (n25, (W ((W ((W (x19 * 64)) + ((at' x0 (W (x1 + x20))).toNat : Int))) - 128)), (W (x20 + 1))) h (Nat.lt_succ_self _) ⟨rfl, rfl, rfl, rfl, rfl, trivial⟩ trivial [0] rfl [] rfl
                · have h := condF h ht131
                  refine JS.exit rfl ?_
                  exact JS.endJ x19 h ⟨rfl, rfl, rfl, rfl, trivial⟩ trivial [0] rfl [] rfl
              · rintro x28 h
                subst hj144
                refine JS.seq ?_
                refine JS.region ?_
                refine JO.reg ttOk 1 [] [] [(59, .v (.int .i64 x28))] _ rfl ⟨⟨rfl, trivial⟩, rfl⟩ ?_
                obtain ⟨y32, hy33, h⟩ := bindO_some h
                refine JO.call rfl rfl rfl rfl (ok_s_RuneBytes x28 _ hy33) rfl [] rfl rfl ?_
                rintro ⟨a34, c35⟩ -
                refine JO.reg ttOk 1 [] [] [(9, .v (.slice a34 y32.length c35))] _ rfl ⟨⟨rfl, trivial⟩, rfl⟩ ?_
                refine JO.done rfl ?_
                refine JS.seq ?_
                obtain ⟨g37, h⟩ := guardO_some h
                refine JS.subR 0 rfl x1 (W (x1 + x7)) ?_
                intro a38 c39 hu40
                refine JS.know 1 rfl fun hs139 => ?_
                refine JS.regionA rfl .nil [2, 0] [14] trivial rfl (fun be49 => ?_)
                refine JA.regL ttOk panic_cx 12 [0, 1, 2, 3] rfl (by kernel_rfl) [] [(61, .v (.slice a34 y32.length c35)), (62, .v (.int .i64 (y32.length : Int))), (63, .v (.int .i64 x7)), (64, .v (.bool (decide ((y32.length : Int) = x7))))] rfl ⟨rfl, rfl, rfl, rfl, trivial⟩ ?_
                refine JA.reg ttOk panic_cx true 11 [4] rfl (by kernel_rfl) [] [(61, .v (.slice a34 y32.length c35)), (62, .v (.int .i64 (y32.length : Int))), (63, .v (.int .i64 x7)), (64, .v (.bool (decide ((y32.length : Int) = x7)))), (65, .v (.bool (decide ((y32.length : Int) = x7))))] trivial [2, 0] rfl rfl ⟨rfl, rfl, rfl, rfl, rfl, trivial⟩ ?_
                refine JA.regL ttOk panic_cx 5 [5, 7, 8, 9, 10, 11] rfl (by kernel_rfl) [(W (x1 + x7))] [(61, .v (.slice a34 y32.length c35)), (62, .v (.int .i64 (y32.length : Int))), (63, .v (.int .i64 x7)), (64, .v (.bool (decide ((y32.length : Int) = x7)))), (65, .v (.bool (decide ((y32.length : Int) = x7)))), (66, .cd [(65, true)] (.v (.slice a34 y32.length c35))), (68, .cd [(65, true)] (.v (.slice a3 x0.length c4))), (69, .cd [(65, true)] (.v (.int .i64 x1))), (70, .cd [(65, true)] (.v (.int .i64 x1))), (71, .cd [(65, true)] (.v (.int .i64 x7))), (72, .cd [(65, true)] (.v (.int .i64 (W (x1 + x7)))))] rfl ⟨(fun q141 => ⟨trivial, rfl⟩), ⟨rfl, rfl, rfl, rfl, rfl, rfl, rfl, rfl, rfl, rfl, rfl, trivial⟩⟩ ?_
                refine JA.strOf ttOk panic_cx 6 rfl (by kernel_rfl) rfl rfl rfl rfl rfl rfl rfl 0 rfl rfl trivial [2, 0] rfl ?_
                refine JA.sliceP ttOk panic_cx 12 rfl (by kernel_rfl) rfl rfl rfl rfl rfl rfl x1 (W (x1 + x7)) rfl rfl (fun q142 => ⟨(g37 q142).1, (g37 q142).2.1, (g37 q142).2.2, hs139.cap, hu40 (g37 q142)⟩) rfl ?_
                refine JA.strOf ttOk panic_cx 13 rfl (by kernel_rfl) rfl rfl rfl rfl rfl rfl rfl 1 rfl rfl trivial [2, 0] rfl ?_
                refine JA.regL ttOk panic_cx 0 [14, 15] rfl (by kernel_rfl) [] [(61, .v (.slice a34 y32.length c35)), (62, .v (.int .i64 (y32.length : Int))), (63, .v (.int .i64 x7)), (64, .v (.bool (decide ((y32.length : Int) = x7)))), (65, .v (.bool (decide ((y32.length : Int) = x7)))), (66, .cd [(65, true)] (.v (.slice a34 y32.length c35))), (67, .cd [(65, true)] (.v (.string (bs y32)))), (68, .cd [(65, true)] (.v (.slice a3 x0.length c4))), (69, .cd [(65, true)] (.v (.int .i64 x1))), (70, .cd [(65, true)] (.v (.int .i64 x1))), (71, .cd [(65, true)] (.v (.int .i64 x7))), (72, .cd [(65, true)] (.v (.int .i64 (W (x1 + x7))))), (73, .cd [(65, true)] (.v (.slice a38 (sub' x0 x1 (W (x1 + x7))).length c39))), (74, .cd [(65, true)] (.v (.string (bs (sub' x0 x1 (W (x1 + x7))))))), (75, .cd [(65, true)] (.v (.bool (decide (y32 = (sub' x0 x1 (W (x1 + x7)))))))), (76, .v (.bool (bif (decide ((y32.length : Int) = x7)) then (decide (y32 = (sub' x0 x1 (W (x1 + x7))))) else false)))] rfl ⟨rfl, rfl, rfl, rfl, rfl, rfl, rfl, rfl, rfl, rfl, rfl, rfl, rfl, rfl, rfl, rfl, trivial⟩ ?_
                refine JA.done (by kernel_rfl) ?_
                refine JS.boxes (B' := .nil) trivial ?_
                refine JS.cond rfl (fun ht143 => ?_) (fun ht143 => ?_)
                · have h := condT h ht143
                  refine JS.seq ?_
                  refine JS.region ?_
                  refine JO.reg ttOk 4 [] [] [(4, .v (.int .i64 x28)), (5, .v (.int .i64 x7))] _ rfl ⟨⟨rfl, rfl, trivial⟩, rfl⟩ ?_
                  refine JO.done rfl ?_
                  cases h
                  exact JS.ret ttOk () trivial rfl rfl [] rfl
                · have h := condF h ht143
                  refine JS.skip ?_
                  refine JS.endB ?_
                  exact JS.endJ () h ⟨rfl, rfl, rfl, trivial⟩ trivial [1] rfl [] rfl
          · rintro _ h
            subst hj146
            refine JS.region ?_
            refine JO.reg ttOk 3 [(W (x7 + 1))] [] [(6, .v (.int .i64 (W (x7 + 1))))] _ rfl ⟨⟨trivial, rfl⟩, ⟨rfl, trivial⟩, rfl⟩ ?_
            refine JO.done rfl ?_
            exact JS.endL (n78, (W (x7 + 1))) h (Nat.lt_succ_self _) ⟨rfl, rfl, rfl, trivial⟩ trivial [0] rfl [] rfl
        · have h := condF h ht147
          refine JS.exit rfl ?_
          exact JS.endJ () h trivial trivial [] rfl [] rfl
      · rintro _ h
        subst hj148
        refine JS.seq ?_
        refine JS.region ?_
        refine JO.reg ttOk 2 [] [] [(4, .v (.int .i64 0)), (5, .v (.int .i64 0))] _ rfl ⟨⟨rfl, rfl, trivial⟩, rfl⟩ ?_
        refine JO.done rfl ?_
        cases h
        exact JS.ret ttOk () trivial rfl rfl [] rfl

def M_s_RuneBegin_L1 (x6 : Int) (j39 : (List UInt8 × List UInt8) → Option Bool) (k30 : (List UInt8 × List UInt8) → Option Bool) : (List UInt8 × List UInt8) → Option Bool := fun (x15, x18) =>
  (bif (decide ((x15.length : Int) < x6)) then
  (guardO (x15.length + ([(128 : UInt8)] : List UInt8).length ≤ 536870912) <|
  (guardO (x18.length + ([(191 : UInt8)] : List UInt8).length ≤ 536870912) <|
  k30 ((x15 ++ ([(128 : UInt8)] : List UInt8)), (x18 ++ ([(191 : UInt8)] : List UInt8)))))
  else
  j39 (x15, x18))

def M_s_RuneBegin_L2 (x0 : List UInt8) (j62 : Unit → Option Bool) (k55 : Int → Option Bool) : Int → Option Bool := fun x6 =>
  (bif (decide (x6 ≤ 4)) then
  (joinO (fun (_ : Unit) =>
  k55 (W (x6 + 1))) fun j49 =>
  (guardO (([] : List UInt8).length + x0.length ≤ 536870912) <|
  (guardO (([] : List UInt8).length + x0.length ≤ 536870912) <|
  (joinO (fun ((x33, x36) : List UInt8 × List UInt8) =>
  (bindO (M_s_RuneRead x33 0) fun (y41, y42) =>
  (bindO (M_s_RuneRead x36 0) fun (y44, y45) =>
  (bif (bif (decide (y42 = x6)) then true else (decide (y45 = x6))) then
  some true
  else
  j49 ())))) fun j39 =>
  (fixF (M_s_RuneBegin_L1 x6 j39) FUEL ((([] : List UInt8) ++ x0), (([] : List UInt8) ++ x0)))))))
  else
  j62 ())

def M_s_RuneBegin (x0 : List UInt8) : Option Bool :=
  (bif (bif (decide ((x0.length : Int) < 1)) then true else (decide (3 < (x0.length : Int)))) then
  some false
  else
  (joinO (fun (_ : Unit) =>
  some false) fun j62 =>
  (fixF (M_s_RuneBegin_L2 x0 j62) FUEL (W ((x0.length : Int) + 1)))))

theorem ok_s_RuneBegin (x0 : List UInt8) (a2 : Option Addr) (c3 : Nat) (l4 : Nat) (hl5 : x0.length = l4) (r : Bool) (h : M_s_RuneBegin x0 = some r) :
    FC Try.prog 53 [.slice a2 l4 c3] [⟨.byte, ⟨a2, l4, c3⟩, x0⟩] (fun _ : Unit => True) (fun _ => .bool r) (fun _ => []) :=
  by
    subst hl5
    refine FC.of (T := TTx) Try.call53 Try.func53 rfl rfl fun w0 => ?_
    unfold M_s_RuneBegin at h
    refine JS.seq ?_
    refine JS.region ?_
    refine JO.reg ttOk 1 [] [] [] _ rfl ⟨trivial, rfl⟩ ?_
    refine JO.done rfl ?_
    refine JS.seq ?_
    refine JS.seq ?_
    refine JS.region ?_
    refine JO.reg ttOk 8 [] [] [(17, .v (.bool (bif (decide ((x0.length : Int) < 1)) then true else (decide (3 < (x0.length : Int))))))] _ rfl ⟨⟨rfl, trivial⟩, rfl⟩ ?_
    refine JO.done rfl ?_
    refine JS.cond rfl (fun ht76 => ?_) (fun ht76 => ?_)
    · have h := condT h ht76
      refine JS.seq ?_
      refine JS.region ?_
      refine JO.reg ttOk 1 [] [] [(2, .v (.bool false))] _ rfl ⟨⟨rfl, trivial⟩, rfl⟩ ?_
      refine JO.done rfl ?_
      cases h
      exact JS.ret ttOk () trivial rfl rfl [] rfl
    · have h := condF h ht76
      refine JS.skip ?_
      refine JS.seq ?_
      refine JS.seq ?_
      refine JS.region ?_
      refine JO.reg ttOk 4 [(W ((x0.length : Int) + 1))] [] [(3, .v (.int .i64 (W ((x0.length : Int) + 1))))] _ rfl ⟨⟨trivial, rfl⟩, ⟨rfl, trivial⟩, rfl⟩ ?_
      refine JO.done rfl ?_
      obtain ⟨j62, hj75, h⟩ := joinO_some h
      refine JS.blockJ (ι := Unit) ⟨fun _ => j62 () = some r, fun _ => [], fun _ => .nil, fun _ => [], fun _ => [], fun _ => 0⟩ ?_ ?_
      · refine JS.loop (ι := Nat × Int) ⟨fun z => fixF (M_s_RuneBegin_L2 x0 j62) z.1 z.2 = some r, fun z => [(0, .v (.slice a2 x0.length c3)), (3, .v (.int .i64 z.2))], fun z => .nil, fun z => [⟨.byte, ⟨a2, x0.length, c3⟩, x0⟩], fun z => [], fun z => z.1⟩ (FUEL, (W ((x0.length : Int) + 1))) h ⟨rfl, rfl, trivial⟩ trivial [0] rfl [] rfl ?_
        rintro ⟨n56, x6⟩ h
        obtain ⟨n56, rfl, h⟩ := fixF_some h
        rw [M_s_RuneBegin_L2] at h
        refine JS.seq ?_
        refine JS.seq ?_
        refine JS.region ?_
        refine JO.reg ttOk 2 [] [] [(22, .v (.bool (decide (x6 ≤ 4))))] _ rfl ⟨⟨rfl, trivial⟩, rfl⟩ ?_
        refine JO.done rfl ?_
        refine JS.cond rfl (fun ht74 => ?_) (fun ht74 => ?_)
        · have h := condT h ht74
          refine JS.skip ?_
          refine JS.seq ?_
          obtain ⟨j49, hj73, h⟩ := joinO_some h
          refine JS.blockJ (ι := Unit) ⟨fun _ => j49 () = some r, fun _ => [(0, .v (.slice a2 x0.length c3)), (3, .v (.int .i64 x6))], fun _ => .nil, fun _ => [⟨.byte, ⟨a2, x0.length, c3⟩, x0⟩], fun _ => [], fun _ => 0⟩ ?_ ?_
          · refine JS.seq ?_
            refine JS.region ?_
            refine JO.ofK rfl (JK.buildSlice ttOk rfl rfl rfl rfl rfl rfl rfl rfl rfl rfl rfl [] rfl .byte [] ⟨rfl, rfl⟩ rfl rfl fun a7 => JO.toK ?_)
            refine JO.reg ttOk 1 [] [] [(26, .v (.slice a2 x0.length c3))] _ rfl ⟨⟨rfl, trivial⟩, rfl⟩ ?_
            obtain ⟨g8, h⟩ := guardO_some h
            refine JO.appendR' ttOk rfl rfl rfl rfl ⟨rfl, rfl, rfl, rfl, trivial, rfl, rfl, rfl, rfl⟩ rfl rfl rfl [0] rfl 0 rfl g8 rfl ?_
            intro a9 c10
            refine JO.reg ttOk 1 [] [] [(4, .v (.slice a9 (([] : List UInt8) ++ x0).length c10))] _ rfl ⟨⟨rfl, trivial⟩, rfl⟩ ?_
            refine JO.done rfl ?_
            refine JS.seq ?_
            refine JS.region ?_
            refine JO.ofK rfl (JK.buildSlice ttOk rfl rfl rfl rfl rfl rfl rfl rfl rfl rfl rfl [] rfl .byte [] ⟨rfl, rfl⟩ rfl rfl fun a11 => JO.toK ?_)
            refine JO.reg ttOk 1 [] [] [(29, .v (.slice a2 x0.length c3))] _ rfl ⟨⟨rfl, trivial⟩, rfl⟩ ?_
            obtain ⟨g12, h⟩ := guardO_some h
            refine JO.appendR' ttOk rfl rfl rfl rfl ⟨rfl, rfl, rfl, rfl, trivial, rfl, rfl, rfl, rfl⟩ rfl rfl rfl [0] rfl 0 rfl g12 rfl ?_
            intro a13 c14
            refine JO.reg ttOk 1 [] [] [(5, .v (.slice a13 (([] : List UInt8) ++ x0).length c14))] _ rfl ⟨⟨rfl, trivial⟩, rfl⟩ ?_
            refine JO.done rfl ?_
            refine JS.seq ?_
            obtain ⟨j39, hj72, h⟩ := joinO_some h
            refine JS.blockJ (ι := List UInt8 × List UInt8 × Option Addr × Nat × Option Addr × Nat) ⟨fun z => j39 (z.1, z.2.1) = some r, fun z => [(0, .v (.slice a2 x0.length c3)), (3, .v (.int .i64 x6)), (4, .v (.slice z.2.2.1 z.1.length z.2.2.2.1)), (5, .v (.slice z.2.2.2.2.1 z.2.1.length z.2.2.2.2.2))], fun z => .nil, fun z => [⟨.byte, ⟨a2, x0.length, c3⟩, x0⟩], fun z => [⟨.byte, ⟨z.2.2.1, z.1.length, z.2.2.2.1⟩, z.1⟩, ⟨.byte, ⟨z.2.2.2.2.1, z.2.1.length, z.2.2.2.2.2⟩, z.2.1⟩], fun z => 0⟩ ?_ ?_
            · refine JS.loop (ι := Nat × List UInt8 × List UInt8 × Option Addr × Nat × Option Addr × Nat) ⟨fun z => fixF (M_s_RuneBegin_L1 x6 j39) z.1 (z.2.1, z.2.2.1) = some r, fun z => [(0, .v (.slice a2 x0.length c3)), (3, .v (.int .i64 x6)), (4, .v (.slice z.2.2.2.1 z.2.1.length z.2.2.2.2.1)), (5, .v (.slice z.2.2.2.2.2.1 z.2.2.1.length z.2.2.2.2.2.2))], fun z => .nil, fun z => [⟨.byte, ⟨a2, x0.length, c3⟩, x0⟩], fun z => [⟨.byte, ⟨z.2.2.2.1, z.2.1.length, z.2.2.2.2.1⟩, z.2.1⟩, ⟨.byte, ⟨z.2.2.2.2.2.1, z.2.2.1.length, z.2.2.2.2.2.2⟩, z.2.2.1⟩], fun z => z.1⟩ (FUEL, (([] : List UInt8) ++ x0), (([] : List UInt8) ++ x0), a9, c10, a13, c14) h ⟨rfl, rfl, rfl, rfl, trivial⟩ trivial [0] rfl [1, 0] rfl ?_
              rintro ⟨n31, x15, x18, a16, c17, a19, c20⟩ h
              obtain ⟨n31, rfl, h⟩ := fixF_some h
              rw [M_s_RuneBegin_L1] at h
              refine JS.seq ?_
              refine JS.seq ?_
              refine JS.region ?_
              refine JO.reg ttOk 4 [] [] [(34, .v (.bool (decide ((x15.length : Int) < x6))))] _ rfl ⟨⟨rfl, trivial⟩, rfl⟩ ?_
              refine JO.done rfl ?_
              refine JS.cond rfl (fun ht70 => ?_) (fun ht70 => ?_)
              · have h := condT h ht70
                refine JS.skip ?_
                refine JS.block ?_
                refine JS.seq ?_
                refine JS.region ?_
                refine JO.reg ttOk 1 [] [] [(35, .v (.slice a16 x15.length c17))] _ rfl ⟨⟨rfl, trivial⟩, rfl⟩ ?_
                refine JO.ofK rfl (JK.buildSlice ttOk rfl rfl rfl rfl rfl rfl rfl rfl rfl rfl rfl [] rfl .byte [(128 : UInt8)] ⟨rfl, rfl⟩ rfl rfl fun a21 => JO.toK ?_)
                obtain ⟨g22, h⟩ := guardO_some h
                refine JO.appendR' ttOk rfl rfl rfl rfl ⟨rfl, rfl, rfl, rfl, trivial, rfl, rfl, rfl, rfl⟩ rfl rfl rfl [1] rfl 1 rfl g22 rfl ?_
                intro a23 c24
                refine JO.reg ttOk 1 [] [] [(4, .v (.slice a23 (x15 ++ ([(128 : UInt8)] : List UInt8)).length c24))] _ rfl ⟨⟨rfl, trivial⟩, rfl⟩ ?_
                refine JO.done rfl ?_
                refine JS.region ?_
                refine JO.reg ttOk 1 [] [] [(38, .v (.slice a19 x18.length c20))] _ rfl ⟨⟨rfl, trivial⟩, rfl⟩ ?_
                refine JO.ofK rfl (JK.buildSlice ttOk rfl rfl rfl rfl rfl rfl rfl rfl rfl rfl rfl [] rfl .byte [(191 : UInt8)] ⟨rfl, rfl⟩ rfl rfl fun a25 => JO.toK ?_)
                obtain ⟨g26, h⟩ := guardO_some h
                refine JO.appendR' ttOk rfl rfl rfl rfl ⟨rfl, rfl, rfl, rfl, trivial, rfl, rfl, rfl, rfl⟩ rfl rfl rfl [3] rfl 1 rfl g26 rfl ?_
                intro a27 c28
                refine JO.reg ttOk 1 [] [] [(5, .v (.slice a27 (x18 ++ ([(191 : UInt8)] : List UInt8)).length c28))] _ rfl ⟨⟨rfl, trivial⟩, rfl⟩ ?_
                refine JO.done rfl ?_
                refine JS.endB ?_
                exact JS.endL (n31, (x15 ++ ([(128 : UInt8)] : List UInt8)), (x18 ++ ([(191 : UInt8)] : List UInt8)), a23, c24, a27, c28) h (Nat.lt_succ_self _) ⟨rfl, rfl, rfl, rfl, trivial⟩ trivial [0] rfl [2, 0] rfl
              · have h := condF h ht70
                refine JS.exit rfl ?_
                exact JS.endJ (x15, x18, a16, c17, a19, c20) h ⟨rfl, rfl, rfl, rfl, trivial⟩ trivial [0] rfl [0, 0] rfl
            · rintro ⟨x33, x36, a34, c35, a37, c38⟩ h
              subst hj72
              refine JS.seq ?_
              refine JS.region ?_
              refine JO.reg ttOk 1 [] [] [(42, .v (.slice a34 x33.length c35))] _ rfl ⟨⟨rfl, trivial⟩, rfl⟩ ?_
              obtain ⟨⟨y41, y42⟩, hy43, h⟩ := bindO_some h
              refine JO.call rfl rfl rfl rfl (ok_s_RuneRead x33 0 a34 c35 x33.length rfl _ hy43) rfl [1] rfl rfl ?_
              intro _ _
              refine JO.reg ttOk 5 [] [] [(7, .v (.int .i64 y42))] _ rfl ⟨⟨rfl, trivial⟩, rfl⟩ ?_
              refine JO.done rfl ?_
              refine JS.seq ?_
              refine JS.region ?_
              refine JO.reg ttOk 1 [] [] [(47, .v (.slice a37 x36.length c38))] _ rfl ⟨⟨rfl, trivial⟩, rfl⟩ ?_
              obtain ⟨⟨y44, y45⟩, hy46, h⟩ := bindO_some h
              refine JO.call rfl rfl rfl rfl (ok_s_RuneRead x36 0 a37 c38 x36.length rfl _ hy46) rfl [2] rfl rfl ?_
              intro _ _
              refine JO.reg ttOk 5 [] [] [(9, .v (.int .i64 y45))] _ rfl ⟨⟨rfl, trivial⟩, rfl⟩ ?_
              refine JO.done rfl ?_
              refine JS.seq ?_
              refine JS.region ?_
              refine JO.reg ttOk 8 [] [] [(58, .v (.bool (bif (decide (y42 = x6)) then true else (decide (y45 = x6)))))] _ rfl ⟨⟨rfl, trivial⟩, rfl⟩ ?_
              refine JO.done rfl ?_
              refine JS.cond rfl (fun ht71 => ?_) (fun ht71 => ?_)
              · have h := condT h ht71
                refine JS.seq ?_
                refine JS.region ?_
                refine JO.reg ttOk 1 [] [] [(2, .v (.bool true))] _ rfl ⟨⟨rfl, trivial⟩, rfl⟩ ?_
                refine JO.done rfl ?_
                cases h
                exact JS.ret ttOk () trivial rfl rfl [] rfl
              · have h := condF h ht71
                refine JS.skip ?_
                refine JS.endB ?_
                exact JS.endJ () h ⟨rfl, rfl, trivial⟩ trivial [0] rfl [] rfl
          · rintro _ h
            subst hj73
            refine JS.region ?_
            refine JO.reg ttOk 3 [(W (x6 + 1))] [] [(3, .v (.int .i64 (W (x6 + 1))))] _ rfl ⟨⟨trivial, rfl⟩, ⟨rfl, trivial⟩, rfl⟩ ?_
            refine JO.done rfl ?_
            exact JS.endL (n56, (W (x6 + 1))) h (Nat.lt_succ_self _) ⟨rfl, rfl, trivial⟩ trivial [0] rfl [] rfl
        · have h := condF h ht74
          refine JS.exit rfl ?_
          exact JS.endJ () h trivial trivial [] rfl [] rfl
      · rintro _ h
        subst hj75
        refine JS.seq ?_
        refine JS.region ?_
        refine JO.reg ttOk 1 [] [] [(2, .v (.bool false))] _ rfl ⟨⟨rfl, trivial⟩, rfl⟩ ?_
        refine JO.done rfl ?_
        cases h
        exact JS.ret ttOk () trivial rfl rfl [] rfl

def M_s_DecOk_L1 (x0 : Int × List UInt8) (j28 : Unit → Option Bool) (k23 : Int → Option Bool) : Int → Option Bool := fun x9 =>
  (bif (decide (x9 < (x0.2.length : Int))) then
  (guardO (0 ≤ x9 ∧ x9 < (x0.2.length : Int)) <|
  (bindO (M_s_l12Param ((at' x0.2 x9).toNat : Int)) fun (y16 : Bool) =>
  (bif (!y16) then
  some false
  else
  k23 (W (x9 + 1)))))
  else
  j28 ())

def M_s_DecOk (x0 : Int × List UInt8) : Option Bool :=
  (joinO (fun (_ : Unit) =>
  some (bif (bif (decide (1 ≤ x0.1)) then (decide (x0.1 ≤ 4)) else false) then (decide ((x0.2.length : Int) = 0)) else false)) fun j35 =>
  (bif (decide (x0.1 = 0)) then
  (callO ((decide ((x0.2.length : Int) = 0)) = false) (M_s_RuneBegin x0.2) false fun (y6 : Bool) =>
  some (bif (decide ((x0.2.length : Int) = 0)) then true else y6))
  else
  (bif (decide (x0.1 = 2)) then
  (joinO (fun (_ : Unit) =>
  some (decide ((x0.2.length : Int) ≤ 8))) fun j28 =>
  (fixF (M_s_DecOk_L1 x0 j28) FUEL 0))
  else
  j35 ())))

theorem ok_s_DecOk (x0 : Int × List UInt8) (a2 : Option Addr) (c3 : Nat) (l4 : Nat) (hl5 : x0.2.length = l4) (r : Bool) (h : M_s_DecOk x0 = some r) :
    FC Try.prog 31 [.agg #[.int .i64 x0.1, .slice a2 l4 c3]] [⟨.byte, ⟨a2, l4, c3⟩, x0.2⟩] (fun _ : Unit => True) (fun _ => .bool r) (fun _ => []) :=
  by
    subst hl5
    refine FC.of (T := TTx) Try.call31 Try.func31 rfl rfl fun w0 => ?_
    unfold M_s_DecOk at h
    refine JS.seq ?_
    refine JS.region ?_
    refine JO.regB ttOk 2 [] [2] [(1, .bp 2 0)] (.new 2 26 [.int .i64 x0.1, .slice a2 x0.2.length c3] .nil) rfl ⟨⟨rfl, trivial⟩, ⟨rfl, rfl, rfl, rfl, trivial⟩⟩ ?_
    refine JO.done rfl ?_
    refine JS.seq ?_
    refine JS.seq ?_
    refine JS.region ?_
    refine JO.reg ttOk 2 [] [] [(6, .v (.int .i64 x0.1))] _ rfl ⟨⟨rfl, trivial⟩, rfl⟩ ?_
    refine JO.done rfl ?_
    obtain ⟨j35, hj51, h⟩ := joinO_some h
    refine JS.blockJ (ι := Unit) ⟨fun _ => j35 () = some r, fun _ => [(1, .bp 2 0)], fun _ => (.new 2 26 [.int .i64 x0.1, .slice a2 x0.2.length c3] .nil), fun _ => [⟨.byte, ⟨a2, x0.2.length, c3⟩, x0.2⟩], fun _ => [], fun _ => 0⟩ ?_ ?_
    · refine JS.seq ?_
      refine JS.region ?_
      refine JO.reg ttOk 2 [] [] [(7, .v (.bool (decide (x0.1 = 0))))] _ rfl ⟨⟨rfl, trivial⟩, rfl⟩ ?_
      refine JO.done rfl ?_
      refine JS.cond rfl (fun ht50 => ?_) (fun ht50 => ?_)
      · have h := condT h ht50
        refine JS.seq ?_
        refine JS.region ?_
        refine JO.reg ttOk 7 [] [] [(13, .v (.bool (decide ((x0.2.length : Int) = 0)))), (15, .cd [(13, false)] (.v (.slice a2 x0.2.length c3)))] _ rfl ⟨⟨rfl, rfl, trivial⟩, rfl⟩ ?_
        obtain ⟨y6, hy7, -, h⟩ := callO_some h
        refine JO.callg rfl rfl rfl rfl (fun q44 => ok_s_RuneBegin x0.2 a2 c3 x0.2.length rfl _ (hy7 q44)) rfl [0] rfl rfl ?_
        refine JO.reg ttOk 2 [] [] [(2, .v (.bool (bif (decide ((x0.2.length : Int) = 0)) then true else y6)))] _ rfl ⟨⟨rfl, trivial⟩, rfl⟩ ?_
        refine JO.done rfl ?_
        cases h
        exact JS.ret ttOk () trivial rfl rfl [] rfl
      · have h := condF h ht50
        refine JS.seq ?_
        refine JS.region ?_
        refine JO.reg ttOk 2 [] [] [(18, .v (.bool (decide (x0.1 = 2))))] _ rfl ⟨⟨rfl, trivial⟩, rfl⟩ ?_
        refine JO.done rfl ?_
        refine JS.cond rfl (fun ht49 => ?_) (fun ht49 => ?_)
        · have h := condT h ht49
          refine JS.seq ?_
          refine JS.seq ?_
          refine JS.region ?_
          refine JO.reg ttOk 4 [] [] [(21, .v (.slice a2 x0.2.length c3)), (22, .v (.int .i64 (x0.2.length : Int))), (23, .v (.int .i64 0))] _ rfl ⟨⟨rfl, rfl, rfl, trivial⟩, rfl⟩ ?_
          refine JO.done rfl ?_
          obtain ⟨j28, hj48, h⟩ := joinO_some h
          refine JS.blockJ (ι := Unit) ⟨fun _ => j28 () = some r, fun _ => [(1, .bp 2 0)], fun _ => (.new 2 26 [.int .i64 x0.1, .slice a2 x0.2.length c3] .nil), fun _ => [⟨.byte, ⟨a2, x0.2.length, c3⟩, x0.2⟩], fun _ => [], fun _ => 0⟩ ?_ ?_
          · refine JS.loop (ι := Nat × Int) ⟨fun z => fixF (M_s_DecOk_L1 x0 j28) z.1 z.2 = some r, fun z => [(1, .bp 2 0), (21, .v (.slice a2 x0.2.length c3)), (22, .v (.int .i64 (x0.2.length : Int))), (23, .v (.int .i64 z.2))], fun z => (.new 2 26 [.int .i64 x0.1, .slice a2 x0.2.length c3] .nil), fun z => [⟨.byte, ⟨a2, x0.2.length, c3⟩, x0.2⟩], fun z => [], fun z => z.1⟩ (FUEL, 0) h ⟨rfl, rfl, rfl, rfl, trivial⟩ ⟨rfl, rfl, rfl, rfl, trivial⟩ [0] rfl [] rfl ?_
            rintro ⟨n24, x9⟩ h
            obtain ⟨n24, rfl, h⟩ := fixF_some h
            rw [M_s_DecOk_L1] at h
            refine JS.seq ?_
            refine JS.region ?_
            refine JO.reg ttOk 1 [] [] [(24, .v (.bool (decide (x9 < (x0.2.length : Int)))))] _ rfl ⟨⟨rfl, trivial⟩, rfl⟩ ?_
            refine JO.done rfl ?_
            refine JS.seq ?_
            refine JS.cond rfl (fun ht47 => ?_) (fun ht47 => ?_)
            · have h := condT h ht47
              refine JS.skip ?_
              refine JS.seq ?_
              refine JS.block ?_
              refine JS.seq ?_
              refine JS.region ?_
              refine JO.know 0 rfl fun hs45 => ?_
              obtain ⟨g15, h⟩ := guardO_some h
              refine JO.reg ttOk 1 [] [] [(25, .ep ⟨a2, x0.2.length, c3⟩ (Int.toNat x9 * 1))] _ rfl ⟨hs45.ix g15, ⟨rfl, trivial⟩, rfl⟩ ?_
              refine JO.load ttOk rfl rfl rfl rfl rfl rfl rfl 0 rfl rfl (Int.toNat x9) 0 (at' x0.2 x9) ⟨at_some g15, rfl⟩ rfl rfl ?_
              refine JO.reg ttOk 1 [] [] [(4, .v (.int .u8 ((at' x0.2 x9).toNat : Int)))] _ rfl ⟨⟨rfl, trivial⟩, rfl⟩ ?_
              refine JO.done rfl ?_
              refine JS.seq ?_
              refine JS.region ?_
              refine JO.reg ttOk 2 [((at' x0.2 x9).toNat : Int)] [] [(28, .v (.int .i64 ((at' x0.2 x9).toNat : Int)))] _ rfl ⟨⟨trivial, W_byte _⟩, ⟨rfl, trivial⟩, rfl⟩ ?_
              obtain ⟨y16, hy17, h⟩ := bindO_some h
              refine JO.call rfl rfl rfl rfl (ok_s_l12Param ((at' x0.2 x9).toNat : Int) _ hy17) rfl [] rfl rfl ?_
              intro _ _
              refine JO.reg ttOk 1 [] [] [(30, .v (.bool (!y16)))] _ rfl ⟨⟨rfl, trivial⟩, rfl⟩ ?_
              refine JO.done rfl ?_
              refine JS.cond rfl (fun ht46 => ?_) (fun ht46 => ?_)
              · have h := condT h ht46
                refine JS.seq ?_
                refine JS.region ?_
                refine JO.reg ttOk 1 [] [] [(2, .v (.bool false))] _ rfl ⟨⟨rfl, trivial⟩, rfl⟩ ?_
                refine JO.done rfl ?_
                cases h
                exact JS.ret ttOk () trivial rfl rfl [] rfl
              · have h := condF h ht46
                refine JS.skip ?_
                refine JS.endB ?_
                refine JS.region ?_
                refine JO.reg ttOk 2 [(W (x9 + 1))] [] [(23, .v (.int .i64 (W (x9 + 1))))] _ rfl ⟨⟨trivial, rfl⟩, ⟨rfl, trivial⟩, rfl⟩ ?_
                refine JO.done rfl ?_
                exact JS.endL (n24, (W (x9 + 1))) h (Nat.lt_succ_self _) ⟨rfl, rfl, rfl, rfl, trivial⟩ ⟨rfl, rfl, rfl, rfl, trivial⟩ [0] rfl [] rfl
            · have h := condF h ht47
              refine JS.exit rfl ?_
              exact JS.endJ () h ⟨rfl, trivial⟩ ⟨rfl, rfl, rfl, rfl, trivial⟩ [0] rfl [] rfl
          · rintro _ h
            subst hj48
            refine JS.seq ?_
            refine JS.region ?_
            refine JO.reg ttOk 5 [] [] [(2, .v (.bool (decide ((x0.2.length : Int) ≤ 8))))] _ rfl ⟨⟨rfl, trivial⟩, rfl⟩ ?_
            refine JO.done rfl ?_
            cases h
            exact JS.ret ttOk () trivial rfl rfl [] rfl
        · have h := condF h ht49
          refine JS.skip ?_
          refine JS.endB ?_
          exact JS.endJ () h ⟨rfl, trivial⟩ ⟨rfl, rfl, rfl, rfl, trivial⟩ [0] rfl [] rfl
    · rintro _ h
      subst hj51
      refine JS.seq ?_
      refine JS.region ?_
      refine JO.reg ttOk 15 [] [] [(2, .v (.bool (bif (bif (decide (1 ≤ x0.1)) then (decide (x0.1 ≤ 4)) else false) then (decide ((x0.2.length : Int) = 0)) else false)))] _ rfl ⟨⟨rfl, trivial⟩, rfl⟩ ?_
      refine JO.done rfl ?_
      cases h
      exact JS.ret ttOk () trivial rfl rfl [] rfl

def M_s_l12One (x0 : Int) : Option (List (Int × Int)) :=
  some ([(x0, 0)] : List (Int × Int))

theorem ok_s_l12One (x0 : Int) (r : List (Int × Int)) (h : M_s_l12One x0 = some r) :
    FC Try.prog 32 [.int .i64 x0] [] (fun _ : Option Addr × Nat => True) (fun q => .slice q.1 r.length q.2) (fun q => [⟨(.pair (.int .i64) (.int .i64)), ⟨q.1, r.length, q.2⟩, r⟩]) :=
  by
    refine FC.of (T := TTx) Try.call32 Try.func32 rfl rfl fun w0 => ?_
    unfold M_s_l12One at h
    refine JS.seq ?_
    refine JS.region ?_
    refine JO.reg ttOk 1 [] [] [] _ rfl ⟨trivial, rfl⟩ ?_
    refine JO.done rfl ?_
    refine JS.seq ?_
    refine JS.region ?_
    refine JO.reg ttOk 2 [] [] [(4, .v (.agg #[.int .i64 x0, .int .i64 0]))] _ rfl ⟨⟨rfl, trivial⟩, rfl⟩ ?_
    refine JO.ofK rfl (JK.buildSlice ttOk rfl rfl rfl rfl rfl rfl rfl rfl rfl rfl rfl [] rfl (.pair (.int .i64) (.int .i64)) [(x0, 0)] ⟨rfl, rfl⟩ rfl rfl fun a2 => JO.toK ?_)
    refine JO.reg ttOk 1 [] [] [(2, .v (.slice a2 ([(x0, 0)] : List (Int × Int)).length ([(x0, 0)] : List (Int × Int)).length))] _ rfl ⟨⟨rfl, trivial⟩, rfl⟩ ?_
    refine JO.done rfl ?_
    cases h
    exact JS.ret ttOk (a2, ([(x0, 0)] : List (Int × Int)).length) trivial rfl rfl [0] rfl

def M_s_l12Arrow_L1 (x0 : Int) (j19 : Unit → Option Int) (k14 : Int → Option Int) : Int → Option Int := fun x6 =>
  (bif (decide (x6 < (([65, 66, 67, 68, 72, 70] : List Int).length : Int))) then
  (guardO (0 ≤ x6 ∧ x6 < (([65, 66, 67, 68, 72, 70] : List Int).length : Int)) <|
  (bif (decide (x0 = (at' ([65, 66, 67, 68, 72, 70] : List Int) x6))) then
  some (W (8 + x6))
  else
  k14 (W (x6 + 1))))
  else
  j19 ())

def M_s_l12Arrow (x0 : Int) : Option Int :=
  (joinO (fun (_ : Unit) =>
  some 16) fun j19 =>
  (fixF (M_s_l12Arrow_L1 x0 j19) FUEL 0))

theorem ok_s_l12Arrow (x0 : Int) (r : Int) (h : M_s_l12Arrow x0 = some r) :
    FC Try.prog 51 [.int .i64 x0] [] (fun _ : Unit => True) (fun _ => .int .i64 r) (fun _ => []) :=
  by
    refine FC.of (T := TTx) Try.call51 Try.func51 rfl rfl fun w0 => ?_
    unfold M_s_l12Arrow at h
    refine JS.seq ?_
    refine JS.region ?_
    refine JO.reg ttOk 1 [] [] [] _ rfl ⟨trivial, rfl⟩ ?_
    refine JO.done rfl ?_
    refine JS.seq ?_
    refine JS.seq ?_
    refine JS.region ?_
    refine JO.ofK rfl (JK.buildSlice ttOk rfl rfl rfl rfl rfl rfl rfl rfl rfl rfl rfl [] rfl (.int .i64) [65, 66, 67, 68, 72, 70] ⟨rfl, rfl⟩ rfl rfl fun a2 => JO.toK ?_)
    refine JO.reg ttOk 2 [] [] [(6, .v (.int .i64 (([65, 66, 67, 68, 72, 70] : List Int).length : Int))), (7, .v (.int .i64 0))] _ rfl ⟨⟨rfl, rfl, trivial⟩, rfl⟩ ?_
    refine JO.done rfl ?_
    obtain ⟨j19, hj27, h⟩ := joinO_some h
    refine JS.blockJ (ι := Unit) ⟨fun _ => j19 () = some r, fun _ => [], fun _ => .nil, fun _ => [], fun _ => [], fun _ => 0⟩ ?_ ?_
    · refine JS.loop (ι := Nat × Int) ⟨fun z => fixF (M_s_l12Arrow_L1 x0 j19) z.1 z.2 = some r, fun z => [(0, .v (.int .i64 x0)), (5, .v (.slice a2 ([65, 66, 67, 68, 72, 70] : List Int).length ([65, 66, 67, 68, 72, 70] : List Int).length)), (6, .v (.int .i64 (([65, 66, 67, 68, 72, 70] : List Int).length : Int))), (7, .v (.int .i64 z.2))], fun z => .nil, fun z => [], fun z => [⟨(.int .i64), ⟨a2, ([65, 66, 67, 68, 72, 70] : List Int).length, ([65, 66, 67, 68, 72, 70] : List Int).length⟩, ([65, 66, 67, 68, 72, 70] : List Int)⟩], fun z => z.1⟩ (FUEL, 0) h ⟨rfl, rfl, rfl, rfl, trivial⟩ trivial [] rfl [0] rfl ?_
      rintro ⟨n15, x6⟩ h
      obtain ⟨n15, rfl, h⟩ := fixF_some h
      rw [M_s_l12Arrow_L1] at h
      refine JS.seq ?_
      refine JS.region ?_
      refine JO.reg ttOk 1 [] [] [(8, .v (.bool (decide (x6 < (([65, 66, 67, 68, 72, 70] : List Int).length : Int)))))] _ rfl ⟨⟨rfl, trivial⟩, rfl⟩ ?_
      refine JO.done rfl ?_
      refine JS.seq ?_
      refine JS.cond rfl (fun ht26 => ?_) (fun ht26 => ?_)
      · have h := condT h ht26
        refine JS.skip ?_
        refine JS.seq ?_
        refine JS.block ?_
        refine JS.seq ?_
        refine JS.region ?_
        refine JO.know 0 rfl fun hs24 => ?_
        obtain ⟨g8, h⟩ := guardO_some h
        refine JO.reg ttOk 2 [] [] [(9, .v (.int .i64 x6)), (10, .ep ⟨a2, ([65, 66, 67, 68, 72, 70] : List Int).length, ([65, 66, 67, 68, 72, 70] : List Int).length⟩ (Int.toNat x6 * 1))] _ rfl ⟨hs24.ix g8, ⟨rfl, rfl, trivial⟩, rfl⟩ ?_
        refine JO.load ttOk rfl rfl rfl rfl rfl rfl rfl 0 rfl rfl (Int.toNat x6) 0 (at' ([65, 66, 67, 68, 72, 70] : List Int) x6) ⟨at_some g8, rfl⟩ rfl rfl ?_
        refine JO.reg ttOk 2 [] [] [(3, .v (.int .i64 x6)), (4, .v (.int .i64 (at' ([65, 66, 67, 68, 72, 70] : List Int) x6)))] _ rfl ⟨⟨rfl, rfl, trivial⟩, rfl⟩ ?_
        refine JO.done rfl ?_
        refine JS.seq ?_
        refine JS.region ?_
        refine JO.reg ttOk 3 [] [] [(14, .v (.bool (decide (x0 = (at' ([65, 66, 67, 68, 72, 70] : List Int) x6)))))] _ rfl ⟨⟨rfl, trivial⟩, rfl⟩ ?_
        refine JO.done rfl ?_
        refine JS.cond rfl (fun ht25 => ?_) (fun ht25 => ?_)
        · have h := condT h ht25
          refine JS.seq ?_
          refine JS.region ?_
          refine JO.reg ttOk 3 [(W (8 + x6))] [] [(2, .v (.int .i64 (W (8 + x6))))] _ rfl ⟨⟨trivial, rfl⟩, ⟨rfl, trivial⟩, rfl⟩ ?_
          refine JO.done rfl ?_
          cases h
          exact JS.ret ttOk () trivial rfl rfl [] rfl
        · have h := condF h ht25
          refine JS.skip ?_
          refine JS.endB ?_
          refine JS.region ?_
          refine JO.reg ttOk 2 [(W (x6 + 1))] [] [(7, .v (.int .i64 (W (x6 + 1))))] _ rfl ⟨⟨trivial, rfl⟩, ⟨rfl, trivial⟩, rfl⟩ ?_
          refine JO.done rfl ?_
          exact JS.endL (n15, (W (x6 + 1))) h (Nat.lt_succ_self _) ⟨rfl, rfl, rfl, rfl, trivial⟩ trivial [] rfl [0] rfl
      · have h := condF h ht26
        refine JS.exit rfl ?_
        exact JS.endJ () h trivial trivial [] rfl [] rfl
    · rintro _ h
      subst hj27
      refine JS.seq ?_
      refine JS.region ?_
      refine JO.reg ttOk 1 [] [] [(2, .v (.int .i64 16))] _ rfl ⟨⟨rfl, trivial⟩, rfl⟩ ?_
      refine JO.done rfl ?_
      cases h
      exact JS.ret ttOk () trivial rfl rfl [] rfl

def M_s_l12Csi (x0 : List UInt8) (x1 : Int) : Option ((Int × List UInt8) × List (Int × Int)) :=
  (bindO (M_s_l12Param x1) fun (y7 : Bool) =>
  (bif y7 then
  (bif (decide ((x0.length : Int) = 8)) then
  (bindO (M_s_l12One 16) fun (y9 : List (Int × Int)) =>
  some ((4, []), y9))
  else
  (guardO (([] : List UInt8).length + x0.length ≤ 536870912) <|
  (guardO ((([] : List UInt8) ++ x0).length + ([(u8 (x1))] : List UInt8).length ≤ 536870912) <|
  some ((2, ((([] : List UInt8) ++ x0) ++ ([(u8 (x1))] : List UInt8))), []))))
  else
  (bif (decide (x1 = 27)) then
  (bindO (M_s_l12One 16) fun (y22 : List (Int × Int)) =>
  some ((1, []), y22))
  else
  (bif (decide ((x0.length : Int) = 0)) then
  (bindO (M_s_l12Arrow x1) fun (y26 : Int) =>
  (bindO (M_s_l12One y26) fun (y28 : List (Int × Int)) =>
  some ((0, []), y28)))
  else
  (joinO (fun (_ : Unit) =>
  (bindO (M_s_l12One 16) fun (y67 : List (Int × Int)) =>
  some ((0, []), y67))) fun j58 =>
  (bif (decide (x1 = 126)) then
  (bif (decide (x0 = ([51] : List UInt8))) then
  (bindO (M_s_l12One 14) fun (y32 : List (Int × Int)) =>
  some ((0, []), y32))
  else
  (joinO (fun (x37 : Bool) =>
  (bif x37 then
  (bindO (M_s_l12One 12) fun (y40 : List (Int × Int)) =>
  some ((0, []), y40))
  else
  (joinO (fun (x45 : Bool) =>
  (bif x45 then
  (bindO (M_s_l12One 13) fun (y48 : List (Int × Int)) =>
  some ((0, []), y48))
  else
  j58 ())) fun j46 =>
  (bif (decide (x0 = ([52] : List UInt8))) then
  j46 (decide (x0 = ([52] : List UInt8)))
  else
  j46 (decide (x0 = ([56] : List UInt8))))))) fun j38 =>
  (bif (decide (x0 = ([49] : List UInt8))) then
  j38 (decide (x0 = ([49] : List UInt8)))
  else
  j38 (decide (x0 = ([55] : List UInt8))))))
  else
  j58 ()))))))

theorem ok_s_l12Csi (x0 : List UInt8) (x1 : Int) (a3 : Option Addr) (c4 : Nat) (l5 : Nat) (hl6 : x0.length = l5) (r : (Int × List UInt8) × List (Int × Int)) (h : M_s_l12Csi x0 x1 = some r) :
    FC Try.prog 50 [.slice a3 l5 c4, .int .i64 x1] [⟨.byte, ⟨a3, l5, c4⟩, x0⟩] (fun _ : Option Addr × Nat × Option Addr × Nat => True) (fun q => .tuple #[.agg #[.int .i64 r.1.1, .slice q.1 r.1.2.length q.2.1], .slice q.2.2.1 r.2.length q.2.2.2]) (fun q => [⟨.byte, ⟨q.1, r.1.2.length, q.2.1⟩, r.1.2⟩, ⟨(.pair (.int .i64) (.int .i64)), ⟨q.2.2.1, r.2.length, q.2.2.2⟩, r.2⟩]) :=
  by
    subst hl6
    refine FC.of (T := TTx) Try.call50 Try.func50 rfl rfl fun w0 => ?_
    unfold M_s_l12Csi at h
    refine JS.seq ?_
    refine JS.region ?_
    refine JO.regB ttOk 2 [] [2] [(4, .bp 2 0)] (.new 2 26 [.int .i64 0, .slice none 0 0] .nil) rfl ⟨⟨rfl, trivial⟩, ⟨rfl, rfl, rfl, rfl, trivial⟩⟩ ?_
    refine JO.done rfl ?_
    refine JS.seq ?_
    refine JS.seq ?_
    refine JS.region ?_
    refine JO.reg ttOk 1 [] [] [(6, .v (.int .i64 x1))] _ rfl ⟨⟨rfl, trivial⟩, rfl⟩ ?_
    obtain ⟨y7, hy8, h⟩ := bindO_some h
    refine JO.call rfl rfl rfl rfl (ok_s_l12Param x1 _ hy8) rfl [] rfl rfl ?_
    intro _ _
    refine JO.done rfl ?_
    refine JS.cond rfl (fun ht87 => ?_) (fun ht87 => ?_)
    · have h := condT h ht87
      refine JS.seq ?_
      refine JS.seq ?_
      refine JS.region ?_
      refine JO.reg ttOk 3 [] [] [(10, .v (.bool (decide ((x0.length : Int) = 8))))] _ rfl ⟨⟨rfl, trivial⟩, rfl⟩ ?_
      refine JO.done rfl ?_
      refine JS.cond rfl (fun ht75 => ?_) (fun ht75 => ?_)
      · have h := condT h ht75
        refine JS.seq ?_
        refine JS.region ?_
        refine JO.reg ttOk 1 [] [] [(11, .v (.agg #[.int .i64 4, .slice none 0 0]))] _ rfl ⟨⟨rfl, trivial⟩, rfl⟩ ?_
        obtain ⟨y9, hy10, h⟩ := bindO_some h
        refine JO.call rfl rfl rfl rfl (ok_s_l12One 16 _ hy10) rfl [] rfl rfl ?_
        rintro ⟨a11, c12⟩ -
        refine JO.regB ttOk 2 [] [] [(5, .v (.slice a11 y9.length c12))] (.new 2 26 [.int .i64 4, .slice none 0 0] .nil) rfl ⟨⟨rfl, trivial⟩, ⟨rfl, rfl, rfl, rfl, trivial⟩⟩ ?_
        refine JO.done rfl ?_
        cases h
        refine JS.nilO .byte Sl.nil rfl rfl ?_
        exact JS.ret ttOk (none, 0, a11, c12) trivial rfl rfl [0, 0] rfl
      · have h := condF h ht75
        refine JS.skip ?_
        refine JS.seq ?_
        refine JS.region ?_
        refine JO.ofK rfl (JK.buildSlice ttOk rfl rfl rfl rfl rfl rfl rfl rfl rfl rfl rfl [] rfl .byte [] ⟨rfl, rfl⟩ rfl rfl fun a13 => JO.toK ?_)
        refine JO.reg ttOk 1 [] [] [(14, .v (.slice a3 x0.length c4))] _ rfl ⟨⟨rfl, trivial⟩, rfl⟩ ?_
        obtain ⟨g14, h⟩ := guardO_some h
        refine JO.appendR' ttOk rfl rfl rfl rfl ⟨rfl, rfl, rfl, rfl, trivial, rfl, rfl, rfl, rfl⟩ rfl rfl rfl [0] rfl 0 rfl g14 rfl ?_
        intro a15 c16
        refine JO.reg ttOk 2 [((u8 (x1)).toNat : Int)] [] [(17, .v (.int .u8 ((u8 (x1)).toNat : Int)))] _ rfl ⟨⟨trivial, u8_wrap _⟩, ⟨rfl, trivial⟩, rfl⟩ ?_
        refine JO.ofK rfl (JK.buildSlice ttOk rfl rfl rfl rfl rfl rfl rfl rfl rfl rfl rfl [] rfl .byte [(u8 (x1))] ⟨rfl, rfl⟩ rfl rfl fun a17 => JO.toK ?_)
        obtain ⟨g18, h⟩ := guardO_some h
        refine JO.appendR' ttOk rfl rfl rfl rfl ⟨rfl, rfl, rfl, rfl, trivial, rfl, rfl, rfl, rfl⟩ rfl rfl rfl [1] rfl 1 rfl g18 rfl ?_
        intro a19 c20
        refine JO.regB ttOk 3 [] [] [(5, .v (.slice none 0 0))] (.new 2 26 [.int .i64 2, .slice a19 ((([] : List UInt8) ++ x0) ++ ([(u8 (x1))] : List UInt8)).length c20] .nil) rfl ⟨⟨rfl, trivial⟩, ⟨rfl, rfl, rfl, rfl, trivial⟩⟩ ?_
        refine JO.done rfl ?_
        cases h
        refine JS.nilO (.pair (.int .i64) (.int .i64)) Sl.nil rfl rfl ?_
        exact JS.ret ttOk (a19, c20, none, 0) trivial rfl rfl [1, 0] rfl
    · have h := condF h ht87
      refine JS.skip ?_
      refine JS.seq ?_
      refine JS.seq ?_
      refine JS.region ?_
      refine JO.reg ttOk 2 [] [] [(22, .v (.bool (decide (x1 = 27))))] _ rfl ⟨⟨rfl, trivial⟩, rfl⟩ ?_
      refine JO.done rfl ?_
      refine JS.cond rfl (fun ht86 => ?_) (fun ht86 => ?_)
      · have h := condT h ht86
        refine JS.seq ?_
        refine JS.region ?_
        refine JO.reg ttOk 1 [] [] [(23, .v (.agg #[.int .i64 1, .slice none 0 0]))] _ rfl ⟨⟨rfl, trivial⟩, rfl⟩ ?_
        obtain ⟨y22, hy23, h⟩ := bindO_some h
        refine JO.call rfl rfl rfl rfl (ok_s_l12One 16 _ hy23) rfl [] rfl rfl ?_
        rintro ⟨a24, c25⟩ -
        refine JO.regB ttOk 2 [] [] [(5, .v (.slice a24 y22.length c25))] (.new 2 26 [.int .i64 1, .slice none 0 0] .nil) rfl ⟨⟨rfl, trivial⟩, ⟨rfl, rfl, rfl, rfl, trivial⟩⟩ ?_
        refine JO.done rfl ?_
        cases h
        refine JS.nilO .byte Sl.nil rfl rfl ?_
        exact JS.ret ttOk (none, 0, a24, c25) trivial rfl rfl [0, 0] rfl
      · have h := condF h ht86
        refine JS.skip ?_
        refine JS.seq ?_
        refine JS.seq ?_
        refine JS.region ?_
        refine JO.reg ttOk 3 [] [] [(27, .v (.bool (decide ((x0.length : Int) = 0))))] _ rfl ⟨⟨rfl, trivial⟩, rfl⟩ ?_
        refine JO.done rfl ?_
        refine JS.cond rfl (fun ht85 => ?_) (fun ht85 => ?_)
        · have h := condT h ht85
          refine JS.seq ?_
          refine JS.region ?_
          refine JO.reg ttOk 2 [] [] [(28, .v (.agg #[.int .i64 0, .slice none 0 0])), (29, .v (.int .i64 x1))] _ rfl ⟨⟨rfl, rfl, trivial⟩, rfl⟩ ?_
          obtain ⟨y26, hy27, h⟩ := bindO_some h
          refine JO.call rfl rfl rfl rfl (ok_s_l12Arrow x1 _ hy27) rfl [] rfl rfl ?_
          intro _ _
          obtain ⟨y28, hy29, h⟩ := bindO_some h
          refine JO.call rfl rfl rfl rfl (ok_s_l12One y26 _ hy29) rfl [] rfl rfl ?_
          rintro ⟨a30, c31⟩ -
          refine JO.regB ttOk 2 [] [] [(5, .v (.slice a30 y28.length c31))] (.new 2 26 [.int .i64 0, .slice none 0 0] .nil) rfl ⟨⟨rfl, trivial⟩, ⟨rfl, rfl, rfl, rfl, trivial⟩⟩ ?_
          refine JO.done rfl ?_
          cases h
          refine JS.nilO .byte Sl.nil rfl rfl ?_
          exact JS.ret ttOk (none, 0, a30, c31) trivial rfl rfl [0, 0] rfl
        · have h := condF h ht85
          refine JS.skip ?_
          obtain ⟨j58, hj84, h⟩ := joinO_some h
          refine JS.seqJ (ι := Unit) ⟨fun _ => j58 () = some r, fun _ => [(4, .bp 2 0)], fun _ => (.new 2 26 [.int .i64 0, .slice none 0 0] .nil), fun _ => [], fun _ => [], fun _ => 0⟩ ?_ ?_
          · refine JS.seq ?_
            refine JS.region ?_
            refine JO.reg ttOk 2 [] [] [(33, .v (.bool (decide (x1 = 126))))] _ rfl ⟨⟨rfl, trivial⟩, rfl⟩ ?_
            refine JO.done rfl ?_
            refine JS.cond rfl (fun ht83 => ?_) (fun ht83 => ?_)
            · have h := condT h ht83
              refine JS.seq ?_
              refine JS.region ?_
              refine JO.reg ttOk 1 [] [] [(34, .v (.slice a3 x0.length c4))] _ rfl ⟨⟨rfl, trivial⟩, rfl⟩ ?_
              refine JO.strOf ttOk rfl rfl rfl rfl rfl rfl rfl rfl 0 rfl rfl ?_
              refine JO.done rfl ?_
              refine JS.block ?_
              refine JS.seq ?_
              refine JS.region ?_
              refine JO.reg ttOk 2 [] [] [(36, .v (.bool (decide (x0 = ([51] : List UInt8)))))] _ rfl ⟨⟨rfl, trivial⟩, rfl⟩ ?_
              refine JO.done rfl ?_
              refine JS.cond rfl (fun ht82 => ?_) (fun ht82 => ?_)
              · have h := condT h ht82
                refine JS.seq ?_
                refine JS.region ?_
                refine JO.reg ttOk 1 [] [] [(38, .v (.agg #[.int .i64 0, .slice none 0 0]))] _ rfl ⟨⟨rfl, trivial⟩, rfl⟩ ?_
                obtain ⟨y32, hy33, h⟩ := bindO_some h
                refine JO.call rfl rfl rfl rfl (ok_s_l12One 14 _ hy33) rfl [] rfl rfl ?_
                rintro ⟨a34, c35⟩ -
                refine JO.regB ttOk 2 [] [] [(5, .v (.slice a34 y32.length c35))] (.new 2 26 [.int .i64 0, .slice none 0 0] .nil) rfl ⟨⟨rfl, trivial⟩, ⟨rfl, rfl, rfl, rfl, trivial⟩⟩ ?_
                refine JO.done rfl ?_
                cases h
                refine JS.nilO .byte Sl.nil rfl rfl ?_
                exact JS.ret ttOk (none, 0, a34, c35) trivial rfl rfl [0, 0] rfl
              · have h := condF h ht82
                obtain ⟨j38, hj81, h⟩ := joinO_some h
                refine JS.seqJ (ι := Bool) ⟨fun z => j38 z = some r, fun z => [(4, .bp 2 0), (35, .v (.string (bs x0))), (40, .v (.bool z))], fun z => (.new 2 26 [.int .i64 0, .slice none 0 0] .nil), fun z => [], fun z => [], fun z => 0⟩ ?_ ?_
                · refine JS.seq ?_
                  refine JS.region ?_
                  refine JO.reg ttOk 2 [] [] [(40, .v (.bool (decide (x0 = ([49] : List UInt8)))))] _ rfl ⟨⟨rfl, trivial⟩, rfl⟩ ?_
                  refine JO.done rfl ?_
                  refine JS.cond rfl (fun ht76 => ?_) (fun ht76 => ?_)
                  · have h := condT h ht76
                    refine JS.skip ?_
                    exact JS.endJ (decide (x0 = ([49] : List UInt8))) h ⟨rfl, rfl, rfl, trivial⟩ ⟨rfl, rfl, rfl, rfl, trivial⟩ [] rfl [] rfl
                  · have h := condF h ht76
                    refine JS.region ?_
                    refine JO.reg ttOk 2 [] [] [(40, .v (.bool (decide (x0 = ([55] : List UInt8)))))] _ rfl ⟨⟨rfl, trivial⟩, rfl⟩ ?_
                    refine JO.done rfl ?_
                    exact JS.endJ (decide (x0 = ([55] : List UInt8))) h ⟨rfl, rfl, rfl, trivial⟩ ⟨rfl, rfl, rfl, rfl, trivial⟩ [] rfl [] rfl
                · rintro x37 h
                  subst hj81
                  refine JS.cond rfl (fun ht80 => ?_) (fun ht80 => ?_)
                  · have h := condT h ht80
                    refine JS.seq ?_
                    refine JS.region ?_
                    refine JO.reg ttOk 1 [] [] [(43, .v (.agg #[.int .i64 0, .slice none 0 0]))] _ rfl ⟨⟨rfl, trivial⟩, rfl⟩ ?_
                    obtain ⟨y40, hy41, h⟩ := bindO_some h
                    refine JO.call rfl rfl rfl rfl (ok_s_l12One 12 _ hy41) rfl [] rfl rfl ?_
                    rintro ⟨a42, c43⟩ -
                    refine JO.regB ttOk 2 [] [] [(5, .v (.slice a42 y40.length c43))] (.new 2 26 [.int .i64 0, .slice none 0 0] .nil) rfl ⟨⟨rfl, trivial⟩, ⟨rfl, rfl, rfl, rfl, trivial⟩⟩ ?_
                    refine JO.done rfl ?_
                    cases h
                    refine JS.nilO .byte Sl.nil rfl rfl ?_
                    exact JS.ret ttOk (none, 0, a42, c43) trivial rfl rfl [0, 0] rfl
                  · have h := condF h ht80
                    obtain ⟨j46, hj79, h⟩ := joinO_some h
                    refine JS.seqJ (ι := Bool) ⟨fun z => j46 z = some r, fun z => [(4, .bp 2 0), (45, .v (.bool z))], fun z => (.new 2 26 [.int .i64 0, .slice none 0 0] .nil), fun z => [], fun z => [], fun z => 0⟩ ?_ ?_
                    · refine JS.seq ?_
                      refine JS.region ?_
                      refine JO.reg ttOk 2 [] [] [(45, .v (.bool (decide (x0 = ([52] : List UInt8)))))] _ rfl ⟨⟨rfl, trivial⟩, rfl⟩ ?_
                      refine JO.done rfl ?_
                      refine JS.cond rfl (fun ht77 => ?_) (fun ht77 => ?_)
                      · have h := condT h ht77
                        refine JS.skip ?_
                        exact JS.endJ (decide (x0 = ([52] : List UInt8))) h ⟨rfl, rfl, trivial⟩ ⟨rfl, rfl, rfl, rfl, trivial⟩ [] rfl [] rfl
                      · have h := condF h ht77
                        refine JS.region ?_
                        refine JO.reg ttOk 2 [] [] [(45, .v (.bool (decide (x0 = ([56] : List UInt8)))))] _ rfl ⟨⟨rfl, trivial⟩, rfl⟩ ?_
                        refine JO.done rfl ?_
                        exact JS.endJ (decide (x0 = ([56] : List UInt8))) h ⟨rfl, rfl, trivial⟩ ⟨rfl, rfl, rfl, rfl, trivial⟩ [] rfl [] rfl
                    · rintro x45 h
                      subst hj79
                      refine JS.cond rfl (fun ht78 => ?_) (fun ht78 => ?_)
                      · have h := condT h ht78
                        refine JS.seq ?_
                        refine JS.region ?_
                        refine JO.reg ttOk 1 [] [] [(48, .v (.agg #[.int .i64 0, .slice none 0 0]))] _ rfl ⟨⟨rfl, trivial⟩, rfl⟩ ?_
                        obtain ⟨y48, hy49, h⟩ := bindO_some h
                        refine JO.call rfl rfl rfl rfl (ok_s_l12One 13 _ hy49) rfl [] rfl rfl ?_
                        rintro ⟨a50, c51⟩ -
                        refine JO.regB ttOk 2 [] [] [(5, .v (.slice a50 y48.length c51))] (.new 2 26 [.int .i64 0, .slice none 0 0] .nil) rfl ⟨⟨rfl, trivial⟩, ⟨rfl, rfl, rfl, rfl, trivial⟩⟩ ?_
                        refine JO.done rfl ?_
                        cases h
                        refine JS.nilO .byte Sl.nil rfl rfl ?_
                        exact JS.ret ttOk (none, 0, a50, c51) trivial rfl rfl [0, 0] rfl
                      · have h := condF h ht78
                        refine JS.skip ?_
                        refine JS.endB ?_
                        exact JS.endJ () h ⟨rfl, trivial⟩ ⟨rfl, rfl, rfl, rfl, trivial⟩ [] rfl [] rfl
            · have h := condF h ht83
              refine JS.skip ?_
              exact JS.endJ () h ⟨rfl, trivial⟩ ⟨rfl, rfl, rfl, rfl, trivial⟩ [] rfl [] rfl
          · rintro _ h
            subst hj84
            refine JS.seq ?_
            refine JS.region ?_
            refine JO.reg ttOk 1 [] [] [(50, .v (.agg #[.int .i64 0, .slice none 0 0]))] _ rfl ⟨⟨rfl, trivial⟩, rfl⟩ ?_
            obtain ⟨y67, hy68, h⟩ := bindO_some h
            refine JO.call rfl rfl rfl rfl (ok_s_l12One 16 _ hy68) rfl [] rfl rfl ?_
            rintro ⟨a69, c70⟩ -
            refine JO.regB ttOk 2 [] [] [(5, .v (.slice a69 y67.length c70))] (.new 2 26 [.int .i64 0, .slice none 0 0] .nil) rfl ⟨⟨rfl, trivial⟩, ⟨rfl, rfl, rfl, rfl, trivial⟩⟩ ?_
            refine JO.done rfl ?_
            cases h
            refine JS.nilO .byte Sl.nil rfl rfl ?_
            exact JS.ret ttOk (none, 0, a69, c70) trivial rfl rfl [0, 0] rfl

def M_s_ByteKey (x0 : Int) : Option (Int × Int) :=
  (bif (bif (decide (x0 < 0)) then true else (decide (127 < x0))) then
  some (0, 0)
  else
  (bif (bif (decide (x0 = 8)) then true else (decide (x0 = 127))) then
  some (5, 0)
  else
  (bif (decide (x0 = 9)) then
  some (6, 0)
  else
  (bif (bif (decide (x0 = 10)) then true else (decide (x0 = 13))) then
  some (4, 0)
  else
  (bif (decide (x0 = 27)) then
  some (7, 0)
  else
  (bif (decide (x0 = 31)) then
  some (2, 95)
  else
  (bif (decide (32 ≤ x0)) then
  some (1, x0)
  else
  (bif (bif (decide (1 ≤ x0)) then (decide (x0 ≤ 26)) else false) then
  some (2, (W (x0 + 96)))
  else
  some (16, 0)))))))))

theorem ok_s_ByteKey (x0 : Int) (r : Int × Int) (h : M_s_ByteKey x0 = some r) :
    FC Try.prog 61 [.int .i64 x0] [] (fun _ : Unit => True) (fun _ => .agg #[.int .i64 r.1, .int .i64 r.2]) (fun _ => []) :=
  by
    refine FC.of (T := TTx) Try.call61 Try.func61 rfl rfl fun w0 => ?_
    unfold M_s_ByteKey at h
    refine JS.seq ?_
    refine JS.region ?_
    refine JO.regB ttOk 1 [] [1] [(2, .bp 1 0)] (.new 1 40 [.int .i64 0, .int .i64 0] .nil) rfl ⟨⟨rfl, trivial⟩, ⟨rfl, rfl, rfl, rfl, trivial⟩⟩ ?_
    refine JO.done rfl ?_
    refine JS.seq ?_
    refine JS.block ?_
    refine JS.seq ?_
    refine JS.region ?_
    refine JO.reg ttOk 7 [] [] [(3, .v (.bool (bif (decide (x0 < 0)) then true else (decide (127 < x0)))))] _ rfl ⟨⟨rfl, trivial⟩, rfl⟩ ?_
    refine JO.done rfl ?_
    refine JS.cond rfl (fun ht17 => ?_) (fun ht17 => ?_)
    · have h := condT h ht17
      refine JS.seq ?_
      refine JS.region ?_
      refine JO.regB ttOk 2 [] [] [] (.new 1 40 [.int .i64 0, .int .i64 0] .nil) rfl ⟨trivial, ⟨rfl, rfl, rfl, rfl, trivial⟩⟩ ?_
      refine JO.done rfl ?_
      cases h
      exact JS.ret ttOk () trivial rfl rfl [] rfl
    · have h := condF h ht17
      refine JS.seq ?_
      refine JS.region ?_
      refine JO.reg ttOk 7 [] [] [(11, .v (.bool (bif (decide (x0 = 8)) then true else (decide (x0 = 127)))))] _ rfl ⟨⟨rfl, trivial⟩, rfl⟩ ?_
      refine JO.done rfl ?_
      refine JS.cond rfl (fun ht16 => ?_) (fun ht16 => ?_)
      · have h := condT h ht16
        refine JS.seq ?_
        refine JS.region ?_
        refine JO.regB ttOk 2 [] [] [] (.new 1 40 [.int .i64 5, .int .i64 0] .nil) rfl ⟨trivial, ⟨rfl, rfl, rfl, rfl, trivial⟩⟩ ?_
        refine JO.done rfl ?_
        cases h
        exact JS.ret ttOk () trivial rfl rfl [] rfl
      · have h := condF h ht16
        refine JS.seq ?_
        refine JS.region ?_
        refine JO.reg ttOk 3 [] [] [(19, .v (.bool (decide (x0 = 9))))] _ rfl ⟨⟨rfl, trivial⟩, rfl⟩ ?_
        refine JO.done rfl ?_
        refine JS.cond rfl (fun ht15 => ?_) (fun ht15 => ?_)
        · have h := condT h ht15
          refine JS.seq ?_
          refine JS.region ?_
          refine JO.regB ttOk 2 [] [] [] (.new 1 40 [.int .i64 6, .int .i64 0] .nil) rfl ⟨trivial, ⟨rfl, rfl, rfl, rfl, trivial⟩⟩ ?_
          refine JO.done rfl ?_
          cases h
          exact JS.ret ttOk () trivial rfl rfl [] rfl
        · have h := condF h ht15
          refine JS.seq ?_
          refine JS.region ?_
          refine JO.reg ttOk 7 [] [] [(23, .v (.bool (bif (decide (x0 = 10)) then true else (decide (x0 = 13)))))] _ rfl ⟨⟨rfl, trivial⟩, rfl⟩ ?_
          refine JO.done rfl ?_
          refine JS.cond rfl (fun ht14 => ?_) (fun ht14 => ?_)
          · have h := condT h ht14
            refine JS.seq ?_
            refine JS.region ?_
            refine JO.regB ttOk 2 [] [] [] (.new 1 40 [.int .i64 4, .int .i64 0] .nil) rfl ⟨trivial, ⟨rfl, rfl, rfl, rfl, trivial⟩⟩ ?_
            refine JO.done rfl ?_
            cases h
            exact JS.ret ttOk () trivial rfl rfl [] rfl
          · have h := condF h ht14
            refine JS.seq ?_
            refine JS.region ?_
            refine JO.reg ttOk 3 [] [] [(31, .v (.bool (decide (x0 = 27))))] _ rfl ⟨⟨rfl, trivial⟩, rfl⟩ ?_
            refine JO.done rfl ?_
            refine JS.cond rfl (fun ht13 => ?_) (fun ht13 => ?_)
            · have h := condT h ht13
              refine JS.seq ?_
              refine JS.region ?_
              refine JO.regB ttOk 2 [] [] [] (.new 1 40 [.int .i64 7, .int .i64 0] .nil) rfl ⟨trivial, ⟨rfl, rfl, rfl, rfl, trivial⟩⟩ ?_
              refine JO.done rfl ?_
              cases h
              exact JS.ret ttOk () trivial rfl rfl [] rfl
            · have h := condF h ht13
              refine JS.seq ?_
              refine JS.region ?_
              refine JO.reg ttOk 3 [] [] [(35, .v (.bool (decide (x0 = 31))))] _ rfl ⟨⟨rfl, trivial⟩, rfl⟩ ?_
              refine JO.done rfl ?_
              refine JS.cond rfl (fun ht12 => ?_) (fun ht12 => ?_)
              · have h := condT h ht12
                refine JS.seq ?_
                refine JS.region ?_
                refine JO.regB ttOk 2 [] [] [] (.new 1 40 [.int .i64 2, .int .i64 95] .nil) rfl ⟨trivial, ⟨rfl, rfl, rfl, rfl, trivial⟩⟩ ?_
                refine JO.done rfl ?_
                cases h
                exact JS.ret ttOk () trivial rfl rfl [] rfl
              · have h := condF h ht12
                refine JS.seq ?_
                refine JS.region ?_
                refine JO.reg ttOk 3 [] [] [(39, .v (.bool (decide (32 ≤ x0))))] _ rfl ⟨⟨rfl, trivial⟩, rfl⟩ ?_
                refine JO.done rfl ?_
                refine JS.cond rfl (fun ht11 => ?_) (fun ht11 => ?_)
                · have h := condT h ht11
                  refine JS.seq ?_
                  refine JS.region ?_
                  refine JO.regB ttOk 3 [] [] [] (.new 1 40 [.int .i64 1, .int .i64 x0] .nil) rfl ⟨trivial, ⟨rfl, rfl, rfl, rfl, trivial⟩⟩ ?_
                  refine JO.done rfl ?_
                  cases h
                  exact JS.ret ttOk () trivial rfl rfl [] rfl
                · have h := condF h ht11
                  refine JS.seq ?_
                  refine JS.region ?_
                  refine JO.reg ttOk 7 [] [] [(44, .v (.bool (bif (decide (1 ≤ x0)) then (decide (x0 ≤ 26)) else false)))] _ rfl ⟨⟨rfl, trivial⟩, rfl⟩ ?_
                  refine JO.done rfl ?_
                  refine JS.cond rfl (fun ht10 => ?_) (fun ht10 => ?_)
                  · have h := condT h ht10
                    refine JS.seq ?_
                    refine JS.region ?_
                    refine JO.regB ttOk 4 [(W (x0 + 96))] [] [] (.new 1 40 [.int .i64 2, .int .i64 (W (x0 + 96))] .nil) rfl ⟨⟨trivial, rfl⟩, trivial, ⟨rfl, rfl, rfl, rfl, trivial⟩⟩ ?_
                    refine JO.done rfl ?_
                    cases h
                    exact JS.ret ttOk () trivial rfl rfl [] rfl
                  · have h := condF h ht10
                    refine JS.skip ?_
                    refine JS.endB ?_
                    refine JS.seq ?_
                    refine JS.region ?_
                    refine JO.regB ttOk 2 [] [] [] (.new 1 40 [.int .i64 16, .int .i64 0] .nil) rfl ⟨trivial, ⟨rfl, rfl, rfl, rfl, trivial⟩⟩ ?_
                    refine JO.done rfl ?_
                    cases h
                    exact JS.ret ttOk () trivial rfl rfl [] rfl

def M_s_Printable (x0 : Int) : Option Bool :=
  (bindO (M_s_RuneOk x0) fun (y2 : Bool) =>
  some (bif (bif y2 then (decide (32 ≤ x0)) else false) then (bif (decide (x0 < 127)) then true else (decide (159 < x0))) else false))

theorem ok_s_Printable (x0 : Int) (r : Bool) (h : M_s_Printable x0 = some r) :
    FC Try.prog 63 [.int .i64 x0] [] (fun _ : Unit => True) (fun _ => .bool r) (fun _ => []) :=
  by
    refine FC.of (T := TTx) Try.call63 Try.func63 rfl rfl fun w0 => ?_
    unfold M_s_Printable at h
    refine JS.seq ?_
    refine JS.region ?_
    refine JO.reg ttOk 1 [] [] [] _ rfl ⟨trivial, rfl⟩ ?_
    refine JO.done rfl ?_
    refine JS.seq ?_
    refine JS.region ?_
    refine JO.reg ttOk 1 [] [] [(3, .v (.int .i64 x0))] _ rfl ⟨⟨rfl, trivial⟩, rfl⟩ ?_
    obtain ⟨y2, hy3, h⟩ := bindO_some h
    refine JO.call rfl rfl rfl rfl (ok_s_RuneOk x0 _ hy3) rfl [] rfl rfl ?_
    intro _ _
    refine JO.reg ttOk 13 [] [] [(2, .v (.bool (bif (bif y2 then (decide (32 ≤ x0)) else false) then (bif (decide (x0 < 127)) then true else (decide (159 < x0))) else false)))] _ rfl ⟨⟨rfl, trivial⟩, rfl⟩ ?_
    refine JO.done rfl ?_
    cases h
    exact JS.ret ttOk () trivial rfl rfl [] rfl

def M_s_l12Plain (x0 : List UInt8) (x1 : Int) : Option ((Int × List UInt8) × List (Int × Int)) :=
  (bif (decide (x1 < 128)) then
  (joinO (fun (x13 : List (Int × Int)) =>
  (bif (decide (x1 = 27)) then
  some ((1, []), x13)
  else
  (bindO (M_s_ByteKey x1) fun (y18 : Int × Int) =>
  (guardO (x13.length + ([y18] : List (Int × Int)).length ≤ 536870912) <|
  some ((0, []), (x13 ++ ([y18] : List (Int × Int)))))))) fun j16 =>
  (bif (decide (0 < (x0.length : Int))) then
  (bindO (M_s_l12One 16) fun (y8 : List (Int × Int)) =>
  j16 y8)
  else
  j16 ([] : List (Int × Int))))
  else
  (guardO (([] : List UInt8).length + x0.length ≤ 536870912) <|
  (guardO ((([] : List UInt8) ++ x0).length + ([(u8 (x1))] : List UInt8).length ≤ 536870912) <|
  (bindO (M_s_RuneRead ((([] : List UInt8) ++ x0) ++ ([(u8 (x1))] : List UInt8)) 0) fun (y34, y35) =>
  (bif (decide (y35 = (((([] : List UInt8) ++ x0) ++ ([(u8 (x1))] : List UInt8)).length : Int))) then
  (bindO (M_s_Printable y34) fun (y37 : Bool) =>
  (bif y37 then
  some ((0, []), ([(1, y34)] : List (Int × Int)))
  else
  (bindO (M_s_l12One 16) fun (y40 : List (Int × Int)) =>
  some ((0, []), y40))))
  else
  (bindO (M_s_RuneBegin ((([] : List UInt8) ++ x0) ++ ([(u8 (x1))] : List UInt8))) fun (y45 : Bool) =>
  (bif y45 then
  some ((0, ((([] : List UInt8) ++ x0) ++ ([(u8 (x1))] : List UInt8))), ([] : List (Int × Int)))
  else
  (callO ((decide (0 < (x0.length : Int))) = true) (M_s_RuneBegin (gl (decide (0 < (x0.length : Int))) ([(u8 (x1))] : List UInt8))) false fun (y49 : Bool) =>
  (bif (bif (decide (0 < (x0.length : Int))) then y49 else false) then
  (bindO (M_s_l12One 16) fun (y53 : List (Int × Int)) =>
  some ((0, ([(u8 (x1))] : List UInt8)), y53))
  else
  (bindO (M_s_l12One 16) fun (y57 : List (Int × Int)) =>
  some ((0, []), y57)))))))))))

theorem ok_s_l12Plain (x0 : List UInt8) (x1 : Int) (a3 : Option Addr) (c4 : Nat) (l5 : Nat) (hl6 : x0.length = l5) (r : (Int × List UInt8) × List (Int × Int)) (h : M_s_l12Plain x0 x1 = some r) :
    FC Try.prog 48 [.slice a3 l5 c4, .int .i64 x1] [⟨.byte, ⟨a3, l5, c4⟩, x0⟩] (fun _ : Option Addr × Nat × Option Addr × Nat => True) (fun q => .tuple #[.agg #[.int .i64 r.1.1, .slice q.1 r.1.2.length q.2.1], .slice q.2.2.1 r.2.length q.2.2.2]) (fun q => [⟨.byte, ⟨q.1, r.1.2.length, q.2.1⟩, r.1.2⟩, ⟨(.pair (.int .i64) (.int .i64)), ⟨q.2.2.1, r.2.length, q.2.2.2⟩, r.2⟩]) :=
  by
    subst hl6
    refine FC.of (T := TTx) Try.call48 Try.func48 rfl rfl fun w0 => ?_
    unfold M_s_l12Plain at h
    refine JS.seq ?_
    refine JS.region ?_
    refine JO.regB ttOk 2 [] [2] [(4, .bp 2 0)] (.new 2 26 [.int .i64 0, .slice none 0 0] .nil) rfl ⟨⟨rfl, trivial⟩, ⟨rfl, rfl, rfl, rfl, trivial⟩⟩ ?_
    refine JO.done rfl ?_
    refine JS.seq ?_
    refine JS.region ?_
    refine JO.ofK rfl (JK.buildSlice ttOk rfl rfl rfl rfl rfl rfl rfl rfl rfl rfl rfl [] rfl (.pair (.int .i64) (.int .i64)) [] ⟨rfl, rfl⟩ rfl rfl fun a7 => JO.toK ?_)
    refine JO.reg ttOk 1 [] [] [(6, .v (.slice a7 ([] : List (Int × Int)).length ([] : List (Int × Int)).length))] _ rfl ⟨⟨rfl, trivial⟩, rfl⟩ ?_
    refine JO.done rfl ?_
    refine JS.seq ?_
    refine JS.seq ?_
    refine JS.region ?_
    refine JO.reg ttOk 2 [] [] [(12, .v (.bool (decide (x1 < 128))))] _ rfl ⟨⟨rfl, trivial⟩, rfl⟩ ?_
    refine JO.done rfl ?_
    refine JS.cond rfl (fun ht74 => ?_) (fun ht74 => ?_)
    · have h := condT h ht74
      obtain ⟨j16, hj67, h⟩ := joinO_some h
      refine JS.seqJ (ι := (List (Int × Int)) × Option Addr × Nat) ⟨fun z => j16 z.1 = some r, fun z => [(1, .v (.int .i64 x1)), (4, .bp 2 0), (6, .v (.slice z.2.1 z.1.length z.2.2))], fun z => (.new 2 26 [.int .i64 0, .slice none 0 0] .nil), fun z => [], fun z => [⟨(.pair (.int .i64) (.int .i64)), ⟨z.2.1, z.1.length, z.2.2⟩, z.1⟩], fun z => 0⟩ ?_ ?_
      · refine JS.seq ?_
        refine JS.region ?_
        refine JO.reg ttOk 3 [] [] [(15, .v (.bool (decide (0 < (x0.length : Int)))))] _ rfl ⟨⟨rfl, trivial⟩, rfl⟩ ?_
        refine JO.done rfl ?_
        refine JS.cond rfl (fun ht65 => ?_) (fun ht65 => ?_)
        · have h := condT h ht65
          refine JS.region ?_
          obtain ⟨y8, hy9, h⟩ := bindO_some h
          refine JO.call rfl rfl rfl rfl (ok_s_l12One 16 _ hy9) rfl [] rfl rfl ?_
          rintro ⟨a10, c11⟩ -
          refine JO.reg ttOk 1 [] [] [(6, .v (.slice a10 y8.length c11))] _ rfl ⟨⟨rfl, trivial⟩, rfl⟩ ?_
          refine JO.done rfl ?_
          exact JS.endJ (y8, a10, c11) h ⟨rfl, rfl, rfl, trivial⟩ ⟨rfl, rfl, rfl, rfl, trivial⟩ [] rfl [0] rfl
        · have h := condF h ht65
          refine JS.skip ?_
          exact JS.endJ (([] : List (Int × Int)), a7, ([] : List (Int × Int)).length) h ⟨rfl, rfl, rfl, trivial⟩ ⟨rfl, rfl, rfl, rfl, trivial⟩ [] rfl [0] rfl
      · rintro ⟨x13, a14, c15⟩ h
        subst hj67
        refine JS.seq ?_
        refine JS.seq ?_
        refine JS.region ?_
        refine JO.reg ttOk 2 [] [] [(18, .v (.bool (decide (x1 = 27))))] _ rfl ⟨⟨rfl, trivial⟩, rfl⟩ ?_
        refine JO.done rfl ?_
        refine JS.cond rfl (fun ht66 => ?_) (fun ht66 => ?_)
        · have h := condT h ht66
          refine JS.seq ?_
          refine JS.region ?_
          refine JO.regB ttOk 4 [] [] [(5, .v (.slice a14 x13.length c15))] (.new 2 26 [.int .i64 1, .slice none 0 0] .nil) rfl ⟨⟨rfl, trivial⟩, ⟨rfl, rfl, rfl, rfl, trivial⟩⟩ ?_
          refine JO.done rfl ?_
          cases h
          refine JS.nilO .byte Sl.nil rfl rfl ?_
          exact JS.ret ttOk (none, 0, a14, c15) trivial rfl rfl [0, 0] rfl
        · have h := condF h ht66
          refine JS.skip ?_
          refine JS.seq ?_
          refine JS.region ?_
          refine JO.reg ttOk 3 [] [] [(21, .v (.agg #[.int .i64 0, .slice none 0 0])), (22, .v (.slice a14 x13.length c15)), (23, .v (.int .i64 x1))] _ rfl ⟨⟨rfl, rfl, rfl, trivial⟩, rfl⟩ ?_
          obtain ⟨y18, hy19, h⟩ := bindO_some h
          refine JO.call rfl rfl rfl rfl (ok_s_ByteKey x1 _ hy19) rfl [] rfl rfl ?_
          intro _ _
          refine JO.ofK rfl (JK.buildSlice ttOk rfl rfl rfl rfl rfl rfl rfl rfl rfl rfl rfl [] rfl (.pair (.int .i64) (.int .i64)) [y18] ⟨rfl, rfl⟩ rfl rfl fun a20 => JO.toK ?_)
          obtain ⟨g21, h⟩ := guardO_some h
          refine JO.appendR' ttOk rfl rfl rfl rfl ⟨rfl, rfl, rfl, rfl, trivial, rfl, rfl, rfl, rfl⟩ rfl rfl rfl [1] rfl 0 rfl g21 rfl ?_
          intro a22 c23
          refine JO.regB ttOk 2 [] [] [(5, .v (.slice a22 (x13 ++ ([y18] : List (Int × Int))).length c23))] (.new 2 26 [.int .i64 0, .slice none 0 0] .nil) rfl ⟨⟨rfl, trivial⟩, ⟨rfl, rfl, rfl, rfl, trivial⟩⟩ ?_
          refine JO.done rfl ?_
          cases h
          refine JS.nilO .byte Sl.nil rfl rfl ?_
          exact JS.ret ttOk (none, 0, a22, c23) trivial rfl rfl [0, 0] rfl
    · have h := condF h ht74
      refine JS.skip ?_
      refine JS.seq ?_
      refine JS.region ?_
      refine JO.ofK rfl (JK.buildSlice ttOk rfl rfl rfl rfl rfl rfl rfl rfl rfl rfl rfl [] rfl .byte [] ⟨rfl, rfl⟩ rfl rfl fun a26 => JO.toK ?_)
      refine JO.reg ttOk 1 [] [] [(28, .v (.slice a3 x0.length c4))] _ rfl ⟨⟨rfl, trivial⟩, rfl⟩ ?_
      obtain ⟨g27, h⟩ := guardO_some h
      refine JO.appendR' ttOk rfl rfl rfl rfl ⟨rfl, rfl, rfl, rfl, trivial, rfl, rfl, rfl, rfl⟩ rfl rfl rfl [0] rfl 0 rfl g27 rfl ?_
      intro a28 c29
      refine JO.reg ttOk 2 [((u8 (x1)).toNat : Int)] [] [(31, .v (.int .u8 ((u8 (x1)).toNat : Int)))] _ rfl ⟨⟨trivial, u8_wrap _⟩, ⟨rfl, trivial⟩, rfl⟩ ?_
      refine JO.ofK rfl (JK.buildSlice ttOk rfl rfl rfl rfl rfl rfl rfl rfl rfl rfl rfl [] rfl .byte [(u8 (x1))] ⟨rfl, rfl⟩ rfl rfl fun a30 => JO.toK ?_)
      obtain ⟨g31, h⟩ := guardO_some h
      refine JO.appendR' ttOk rfl rfl rfl rfl ⟨rfl, rfl, rfl, rfl, trivial, rfl, rfl, rfl, rfl⟩ rfl rfl rfl [1] rfl 1 rfl g31 rfl ?_
      intro a32 c33
      refine JO.reg ttOk 1 [] [] [(7, .v (.slice a32 ((([] : List UInt8) ++ x0) ++ ([(u8 (x1))] : List UInt8)).length c33))] _ rfl ⟨⟨rfl, trivial⟩, rfl⟩ ?_
      refine JO.done rfl ?_
      refine JS.seq ?_
      refine JS.region ?_
      refine JO.reg ttOk 1 [] [] [(35, .v (.slice a32 ((([] : List UInt8) ++ x0) ++ ([(u8 (x1))] : List UInt8)).length c33))] _ rfl ⟨⟨rfl, trivial⟩, rfl⟩ ?_
      obtain ⟨⟨y34, y35⟩, hy36, h⟩ := bindO_some h
      refine JO.call rfl rfl rfl rfl (ok_s_RuneRead ((([] : List UInt8) ++ x0) ++ ([(u8 (x1))] : List UInt8)) 0 a32 c33 (((([] : List UInt8) ++ x0) ++ ([(u8 (x1))] : List UInt8)).length) rfl _ hy36) rfl [1] rfl rfl ?_
      intro _ _
      refine JO.reg ttOk 5 [] [] [(8, .v (.int .i64 y34)), (9, .v (.int .i64 y35))] _ rfl ⟨⟨rfl, rfl, trivial⟩, rfl⟩ ?_
      refine JO.done rfl ?_
      refine JS.seq ?_
      refine JS.seq ?_
      refine JS.region ?_
      refine JO.reg ttOk 4 [] [] [(42, .v (.bool (decide (y35 = (((([] : List UInt8) ++ x0) ++ ([(u8 (x1))] : List UInt8)).length : Int)))))] _ rfl ⟨⟨rfl, trivial⟩, rfl⟩ ?_
      refine JO.done rfl ?_
      refine JS.cond rfl (fun ht73 => ?_) (fun ht73 => ?_)
      · have h := condT h ht73
        refine JS.seq ?_
        refine JS.seq ?_
        refine JS.region ?_
        refine JO.reg ttOk 1 [] [] [(43, .v (.int .i64 y34))] _ rfl ⟨⟨rfl, trivial⟩, rfl⟩ ?_
        obtain ⟨y37, hy38, h⟩ := bindO_some h
        refine JO.call rfl rfl rfl rfl (ok_s_Printable y34 _ hy38) rfl [] rfl rfl ?_
        intro _ _
        refine JO.done rfl ?_
        refine JS.cond rfl (fun ht68 => ?_) (fun ht68 => ?_)
        · have h := condT h ht68
          refine JS.seq ?_
          refine JS.region ?_
          refine JO.reg ttOk 3 [] [] [(45, .v (.agg #[.int .i64 0, .slice none 0 0])), (47, .v (.agg #[.int .i64 1, .int .i64 y34]))] _ rfl ⟨⟨rfl, rfl, trivial⟩, rfl⟩ ?_
          refine JO.ofK rfl (JK.buildSlice ttOk rfl rfl rfl rfl rfl rfl rfl rfl rfl rfl rfl [] rfl (.pair (.int .i64) (.int .i64)) [(1, y34)] ⟨rfl, rfl⟩ rfl rfl fun a39 => JO.toK ?_)
          refine JO.regB ttOk 2 [] [] [(5, .v (.slice a39 ([(1, y34)] : List (Int × Int)).length ([(1, y34)] : List (Int × Int)).length))] (.new 2 26 [.int .i64 0, .slice none 0 0] .nil) rfl ⟨⟨rfl, trivial⟩, ⟨rfl, rfl, rfl, rfl, trivial⟩⟩ ?_
          refine JO.done rfl ?_
          cases h
          refine JS.nilO .byte Sl.nil rfl rfl ?_
          exact JS.ret ttOk (none, 0, a39, ([(1, y34)] : List (Int × Int)).length) trivial rfl rfl [0, 0] rfl
        · have h := condF h ht68
          refine JS.skip ?_
          refine JS.seq ?_
          refine JS.region ?_
          refine JO.reg ttOk 1 [] [] [(49, .v (.agg #[.int .i64 0, .slice none 0 0]))] _ rfl ⟨⟨rfl, trivial⟩, rfl⟩ ?_
          obtain ⟨y40, hy41, h⟩ := bindO_some h
          refine JO.call rfl rfl rfl rfl (ok_s_l12One 16 _ hy41) rfl [] rfl rfl ?_
          rintro ⟨a42, c43⟩ -
          refine JO.regB ttOk 2 [] [] [(5, .v (.slice a42 y40.length c43))] (.new 2 26 [.int .i64 0, .slice none 0 0] .nil) rfl ⟨⟨rfl, trivial⟩, ⟨rfl, rfl, rfl, rfl, trivial⟩⟩ ?_
          refine JO.done rfl ?_
          cases h
          refine JS.nilO .byte Sl.nil rfl rfl ?_
          exact JS.ret ttOk (none, 0, a42, c43) trivial rfl rfl [0, 0] rfl
      · have h := condF h ht73
        refine JS.skip ?_
        refine JS.seq ?_
        refine JS.seq ?_
        refine JS.region ?_
        refine JO.reg ttOk 1 [] [] [(51, .v (.slice a32 ((([] : List UInt8) ++ x0) ++ ([(u8 (x1))] : List UInt8)).length c33))] _ rfl ⟨⟨rfl, trivial⟩, rfl⟩ ?_
        obtain ⟨y45, hy46, h⟩ := bindO_some h
        refine JO.call rfl rfl rfl rfl (ok_s_RuneBegin ((([] : List UInt8) ++ x0) ++ ([(u8 (x1))] : List UInt8)) a32 c33 (((([] : List UInt8) ++ x0) ++ ([(u8 (x1))] : List UInt8)).length) rfl _ hy46) rfl [1] rfl rfl ?_
        intro _ _
        refine JO.done rfl ?_
        refine JS.cond rfl (fun ht72 => ?_) (fun ht72 => ?_)
        · have h := condT h ht72
          refine JS.seq ?_
          refine JS.region ?_
          refine JO.regB ttOk 5 [] [] [(5, .v (.slice a7 ([] : List (Int × Int)).length ([] : List (Int × Int)).length))] (.new 2 26 [.int .i64 0, .slice a32 ((([] : List UInt8) ++ x0) ++ ([(u8 (x1))] : List UInt8)).length c33] .nil) rfl ⟨⟨rfl, trivial⟩, ⟨rfl, rfl, rfl, rfl, trivial⟩⟩ ?_
          refine JO.done rfl ?_
          cases h
          exact JS.ret ttOk (a32, c33, a7, ([] : List (Int × Int)).length) trivial rfl rfl [0, 1] rfl
        · have h := condF h ht72
          refine JS.skip ?_
          refine JS.seq ?_
          refine JS.seq ?_
          refine JS.region ?_
          refine JO.reg ttOk 6 [((u8 (x1)).toNat : Int)] [] [(59, .v (.bool (decide (0 < (x0.length : Int))))), (61, .cd [(59, true)] (.v (.int .u8 ((u8 (x1)).toNat : Int))))] _ rfl ⟨(fun q69 => ⟨trivial, u8_wrap _⟩), ⟨rfl, rfl, trivial⟩, rfl⟩ ?_
          refine JO.buildSliceG ttOk rfl rfl rfl rfl rfl rfl rfl rfl rfl rfl rfl rfl .byte [(u8 (x1))] ⟨rfl, rfl⟩ rfl (decide (0 < (x0.length : Int))) gwant_t rfl fun a48 => ?_
          obtain ⟨y49, hy50, -, h⟩ := callO_some h
          refine JO.callg rfl rfl rfl rfl (fun q70 => ok_s_RuneBegin (gl (decide (0 < (x0.length : Int))) ([(u8 (x1))] : List UInt8)) a48 ((gl (decide (0 < (x0.length : Int))) ([(u8 (x1))] : List UInt8)).length) ((gl (decide (0 < (x0.length : Int))) ([(u8 (x1))] : List UInt8)).length) rfl _ (hy50 q70)) rfl [1] rfl rfl ?_
          refine JO.reg ttOk 1 [] [] [(64, .v (.bool (bif (decide (0 < (x0.length : Int))) then y49 else false)))] _ rfl ⟨⟨rfl, trivial⟩, rfl⟩ ?_
          refine JO.done rfl ?_
          refine JS.cond rfl (fun ht71 => ?_) (fun ht71 => ?_)
          · have h := condT h ht71
            refine JS.seq ?_
            refine JS.region ?_
            refine JO.reg ttOk 2 [((u8 (x1)).toNat : Int)] [] [(66, .v (.int .u8 ((u8 (x1)).toNat : Int)))] _ rfl ⟨⟨trivial, u8_wrap _⟩, ⟨rfl, trivial⟩, rfl⟩ ?_
            refine JO.ofK rfl (JK.buildSlice ttOk rfl rfl rfl rfl rfl rfl rfl rfl rfl rfl rfl [] rfl .byte [(u8 (x1))] ⟨rfl, rfl⟩ rfl rfl fun a52 => JO.toK ?_)
            refine JO.reg ttOk 1 [] [] [(68, .v (.agg #[.int .i64 0, .slice a52 ([(u8 (x1))] : List UInt8).length ([(u8 (x1))] : List UInt8).length]))] _ rfl ⟨⟨rfl, trivial⟩, rfl⟩ ?_
            obtain ⟨y53, hy54, h⟩ := bindO_some h
            refine JO.call rfl rfl rfl rfl (ok_s_l12One 16 _ hy54) rfl [] rfl rfl ?_
            rintro ⟨a55, c56⟩ -
            refine JO.regB ttOk 2 [] [] [(5, .v (.slice a55 y53.length c56))] (.new 2 26 [.int .i64 0, .slice a52 ([(u8 (x1))] : List UInt8).length ([(u8 (x1))] : List UInt8).length] .nil) rfl ⟨⟨rfl, trivial⟩, ⟨rfl, rfl, rfl, rfl, trivial⟩⟩ ?_
            refine JO.done rfl ?_
            cases h
            exact JS.ret ttOk (a52, ([(u8 (x1))] : List UInt8).length, a55, c56) trivial rfl rfl [1, 0] rfl
          · have h := condF h ht71
            refine JS.skip ?_
            refine JS.seq ?_
            refine JS.region ?_
            refine JO.reg ttOk 1 [] [] [(70, .v (.agg #[.int .i64 0, .slice none 0 0]))] _ rfl ⟨⟨rfl, trivial⟩, rfl⟩ ?_
            obtain ⟨y57, hy58, h⟩ := bindO_some h
            refine JO.call rfl rfl rfl rfl (ok_s_l12One 16 _ hy58) rfl [] rfl rfl ?_
            rintro ⟨a59, c60⟩ -
            refine JO.regB ttOk 2 [] [] [(5, .v (.slice a59 y57.length c60))] (.new 2 26 [.int .i64 0, .slice none 0 0] .nil) rfl ⟨⟨rfl, trivial⟩, ⟨rfl, rfl, rfl, rfl, trivial⟩⟩ ?_
            refine JO.done rfl ?_
            cases h
            refine JS.nilO .byte Sl.nil rfl rfl ?_
            exact JS.ret ttOk (none, 0, a59, c60) trivial rfl rfl [0, 0] rfl

def M_s_l12Esc (x0 : Int) : Option ((Int × List UInt8) × List (Int × Int)) :=
  (bif (decide (x0 = 91)) then
  some ((2, []), [])
  else
  (bif (decide (x0 = 79)) then
  some ((3, []), [])
  else
  (bif (decide (x0 = 27)) then
  (bindO (M_s_l12One 7) fun (y2 : List (Int × Int)) =>
  some ((1, []), y2))
  else
  (bif (bif (decide (x0 = 8)) then true else (decide (x0 = 127))) then
  (bindO (M_s_l12One 15) fun (y6 : List (Int × Int)) =>
  some ((0, []), y6))
  else
  (bif (bif (decide (33 ≤ x0)) then (decide (x0 ≤ 126)) else false) then
  some ((0, []), ([(3, x0)] : List (Int × Int)))
  else
  (bindO (M_s_l12Plain ([] : List UInt8) x0) fun (y11, y12) =>
  (bindO (M_s_l12One 7) fun (y18 : List (Int × Int)) =>
  (guardO (y18.length + y12.length ≤ 536870912) <|
  some (y11, (y18 ++ y12))))))))))

theorem ok_s_l12Esc (x0 : Int) (r : (Int × List UInt8) × List (Int × Int)) (h : M_s_l12Esc x0 = some r) :
    FC Try.prog 49 [.int .i64 x0] [] (fun _ : Option Addr × Nat × Option Addr × Nat => True) (fun q => .tuple #[.agg #[.int .i64 r.1.1, .slice q.1 r.1.2.length q.2.1], .slice q.2.2.1 r.2.length q.2.2.2]) (fun q => [⟨.byte, ⟨q.1, r.1.2.length, q.2.1⟩, r.1.2⟩, ⟨(.pair (.int .i64) (.int .i64)), ⟨q.2.2.1, r.2.length, q.2.2.2⟩, r.2⟩]) :=
  by
    refine FC.of (T := TTx) Try.call49 Try.func49 rfl rfl fun w0 => ?_
    unfold M_s_l12Esc at h
    refine JS.seq ?_
    refine JS.region ?_
    refine JO.regB ttOk 2 [] [1] [(2, .bp 1 0)] (.new 1 26 [.int .i64 0, .slice none 0 0] .nil) rfl ⟨⟨rfl, trivial⟩, ⟨rfl, rfl, rfl, rfl, trivial⟩⟩ ?_
    refine JO.done rfl ?_
    refine JS.seq ?_
    refine JS.block ?_
    refine JS.seq ?_
    refine JS.region ?_
    refine JO.reg ttOk 3 [] [] [(6, .v (.bool (decide (x0 = 91))))] _ rfl ⟨⟨rfl, trivial⟩, rfl⟩ ?_
    refine JO.done rfl ?_
    refine JS.cond rfl (fun ht35 => ?_) (fun ht35 => ?_)
    · have h := condT h ht35
      refine JS.seq ?_
      refine JS.region ?_
      refine JO.regB ttOk 3 [] [] [(3, .v (.slice none 0 0))] (.new 1 26 [.int .i64 2, .slice none 0 0] .nil) rfl ⟨⟨rfl, trivial⟩, ⟨rfl, rfl, rfl, rfl, trivial⟩⟩ ?_
      refine JO.done rfl ?_
      cases h
      refine JS.nilO .byte Sl.nil rfl rfl ?_
      refine JS.nilO (.pair (.int .i64) (.int .i64)) Sl.nil rfl rfl ?_
      exact JS.ret ttOk (none, 0, none, 0) trivial rfl rfl [1, 0] rfl
    · have h := condF h ht35
      refine JS.seq ?_
      refine JS.region ?_
      refine JO.reg ttOk 3 [] [] [(10, .v (.bool (decide (x0 = 79))))] _ rfl ⟨⟨rfl, trivial⟩, rfl⟩ ?_
      refine JO.done rfl ?_
      refine JS.cond rfl (fun ht34 => ?_) (fun ht34 => ?_)
      · have h := condT h ht34
        refine JS.seq ?_
        refine JS.region ?_
        refine JO.regB ttOk 3 [] [] [(3, .v (.slice none 0 0))] (.new 1 26 [.int .i64 3, .slice none 0 0] .nil) rfl ⟨⟨rfl, trivial⟩, ⟨rfl, rfl, rfl, rfl, trivial⟩⟩ ?_
        refine JO.done rfl ?_
        cases h
        refine JS.nilO .byte Sl.nil rfl rfl ?_
        refine JS.nilO (.pair (.int .i64) (.int .i64)) Sl.nil rfl rfl ?_
        exact JS.ret ttOk (none, 0, none, 0) trivial rfl rfl [1, 0] rfl
      · have h := condF h ht34
        refine JS.seq ?_
        refine JS.region ?_
        refine JO.reg ttOk 3 [] [] [(14, .v (.bool (decide (x0 = 27))))] _ rfl ⟨⟨rfl, trivial⟩, rfl⟩ ?_
        refine JO.done rfl ?_
        refine JS.cond rfl (fun ht33 => ?_) (fun ht33 => ?_)
        · have h := condT h ht33
          refine JS.seq ?_
          refine JS.region ?_
          refine JO.reg ttOk 1 [] [] [(17, .v (.agg #[.int .i64 1, .slice none 0 0]))] _ rfl ⟨⟨rfl, trivial⟩, rfl⟩ ?_
          obtain ⟨y2, hy3, h⟩ := bindO_some h
          refine JO.call rfl rfl rfl rfl (ok_s_l12One 7 _ hy3) rfl [] rfl rfl ?_
          rintro ⟨a4, c5⟩ -
          refine JO.regB ttOk 2 [] [] [(3, .v (.slice a4 y2.length c5))] (.new 1 26 [.int .i64 1, .slice none 0 0] .nil) rfl ⟨⟨rfl, trivial⟩, ⟨rfl, rfl, rfl, rfl, trivial⟩⟩ ?_
          refine JO.done rfl ?_
          cases h
          refine JS.nilO .byte Sl.nil rfl rfl ?_
          exact JS.ret ttOk (none, 0, a4, c5) trivial rfl rfl [0, 0] rfl
        · have h := condF h ht33
          refine JS.seq ?_
          refine JS.region ?_
          refine JO.reg ttOk 7 [] [] [(19, .v (.bool (bif (decide (x0 = 8)) then true else (decide (x0 = 127)))))] _ rfl ⟨⟨rfl, trivial⟩, rfl⟩ ?_
          refine JO.done rfl ?_
          refine JS.cond rfl (fun ht32 => ?_) (fun ht32 => ?_)
          · have h := condT h ht32
            refine JS.seq ?_
            refine JS.region ?_
            refine JO.reg ttOk 1 [] [] [(26, .v (.agg #[.int .i64 0, .slice none 0 0]))] _ rfl ⟨⟨rfl, trivial⟩, rfl⟩ ?_
            obtain ⟨y6, hy7, h⟩ := bindO_some h
            refine JO.call rfl rfl rfl rfl (ok_s_l12One 15 _ hy7) rfl [] rfl rfl ?_
            rintro ⟨a8, c9⟩ -
            refine JO.regB ttOk 2 [] [] [(3, .v (.slice a8 y6.length c9))] (.new 1 26 [.int .i64 0, .slice none 0 0] .nil) rfl ⟨⟨rfl, trivial⟩, ⟨rfl, rfl, rfl, rfl, trivial⟩⟩ ?_
            refine JO.done rfl ?_
            cases h
            refine JS.nilO .byte Sl.nil rfl rfl ?_
            exact JS.ret ttOk (none, 0, a8, c9) trivial rfl rfl [0, 0] rfl
          · have h := condF h ht32
            refine JS.seq ?_
            refine JS.region ?_
            refine JO.reg ttOk 7 [] [] [(28, .v (.bool (bif (decide (33 ≤ x0)) then (decide (x0 ≤ 126)) else false)))] _ rfl ⟨⟨rfl, trivial⟩, rfl⟩ ?_
            refine JO.done rfl ?_
            refine JS.cond rfl (fun ht31 => ?_) (fun ht31 => ?_)
            · have h := condT h ht31
              refine JS.seq ?_
              refine JS.region ?_
              refine JO.reg ttOk 3 [] [] [(35, .v (.agg #[.int .i64 0, .slice none 0 0])), (37, .v (.agg #[.int .i64 3, .int .i64 x0]))] _ rfl ⟨⟨rfl, rfl, trivial⟩, rfl⟩ ?_
              refine JO.ofK rfl (JK.buildSlice ttOk rfl rfl rfl rfl rfl rfl rfl rfl rfl rfl rfl [] rfl (.pair (.int .i64) (.int .i64)) [(3, x0)] ⟨rfl, rfl⟩ rfl rfl fun a10 => JO.toK ?_)
              refine JO.regB ttOk 2 [] [] [(3, .v (.slice a10 ([(3, x0)] : List (Int × Int)).length ([(3, x0)] : List (Int × Int)).length))] (.new 1 26 [.int .i64 0, .slice none 0 0] .nil) rfl ⟨⟨rfl, trivial⟩, ⟨rfl, rfl, rfl, rfl, trivial⟩⟩ ?_
              refine JO.done rfl ?_
              cases h
              refine JS.nilO .byte Sl.nil rfl rfl ?_
              exact JS.ret ttOk (none, 0, a10, ([(3, x0)] : List (Int × Int)).length) trivial rfl rfl [0, 0] rfl
            · have h := condF h ht31
              refine JS.skip ?_
              refine JS.endB ?_
              refine JS.seq ?_
              refine JS.region ?_
              refine JO.reg ttOk 1 [] [] [(40, .v (.int .i64 x0))] _ rfl ⟨⟨rfl, trivial⟩, rfl⟩ ?_
              obtain ⟨⟨y11, y12⟩, hy13, h⟩ := bindO_some h
              refine JO.nilR .byte Sl.nil rfl rfl ?_
              refine JO.call rfl rfl rfl rfl (ok_s_l12Plain ([] : List UInt8) x0 none 0 (([] : List UInt8).length) rfl _ hy13) rfl [0] rfl rfl ?_
              rintro ⟨a14, c15, a16, c17⟩ -
              refine JO.regB ttOk 6 [] [24] [(4, .bp 24 0), (5, .v (.slice a16 y12.length c17))] (.new 1 26 [.int .i64 0, .slice none 0 0] (.new 24 26 [.int .i64 y11.1, .slice a14 y11.2.length c15] .nil)) rfl ⟨⟨rfl, rfl, trivial⟩, ⟨rfl, rfl, rfl, rfl, rfl, rfl, rfl, rfl, trivial⟩⟩ ?_
              refine JO.done rfl ?_
              refine JS.seq ?_
              obtain ⟨y18, hy19, h⟩ := bindO_some h
              obtain ⟨g22, h⟩ := guardO_some h
              refine JS.regionA rfl (.new 24 26 [.int .i64 y11.1, .slice a14 y11.2.length c15] .nil) [] [4, 5] ⟨rfl, rfl, rfl, rfl, trivial⟩ rfl (fun be25 => ?_)
              refine JA.reg ttOk panic_cx true 5 [0] rfl (by kernel_rfl) [] [(44, .v (.agg #[.int .i64 y11.1, .slice a14 y11.2.length c15]))] ⟨rfl, rfl, rfl, rfl, trivial⟩ [] rfl rfl ⟨rfl, trivial⟩ ?_
              refine JA.regL ttOk panic_cx 4 [2] rfl (by kernel_rfl) [] [(44, .v (.agg #[.int .i64 y11.1, .slice a14 y11.2.length c15])), (46, .v (.slice a16 y12.length c17))] rfl ⟨rfl, rfl, trivial⟩ ?_
              refine JA.one 1 (by kernel_rfl) ?_
              refine JK.call rfl rfl rfl rfl (ok_s_l12One 7 _ hy19) rfl [] rfl rfl ?_
              rintro ⟨a20, c21⟩ -
              refine JA.next ⟨rfl, rfl, rfl, rfl, trivial⟩ [] rfl ?_
              refine JA.one 3 (by kernel_rfl) ?_
              refine JK.appendR' ttOk rfl rfl rfl rfl ⟨rfl, rfl, rfl, rfl, trivial, rfl, rfl, rfl, rfl⟩ rfl rfl rfl [0] rfl 3 rfl g22 rfl ?_
              intro a23 c24
              refine JA.next ⟨rfl, rfl, rfl, rfl, trivial⟩ [] rfl ?_
              refine JA.one 4 (by kernel_rfl) ?_
              refine JK.stBox ttOk rfl rfl rfl rfl rfl rfl rfl rfl ?_
              refine JK.boxes (B' := (.new 1 26 [.int .i64 y11.1, .slice a14 y11.2.length c15] (.new 24 26 [.int .i64 y11.1, .slice a14 y11.2.length c15] .nil))) ⟨rfl, rfl, rfl, rfl, rfl, rfl, rfl, rfl, trivial⟩ ?_
              refine JA.nextL rfl ?_
              refine JA.regL ttOk panic_cx 0 [5] rfl (by kernel_rfl) [] [(3, .v (.slice a23 (y18 ++ y12).length c24)), (44, .v (.agg #[.int .i64 y11.1, .slice a14 y11.2.length c15])), (45, .v (.slice a20 y18.length c21)), (46, .v (.slice a16 y12.length c17)), (47, .v (.slice a23 (y18 ++ y12).length c24))] rfl ⟨rfl, rfl, rfl, rfl, rfl, trivial⟩ ?_
              refine JA.done (by kernel_rfl) ?_
              refine JS.boxes (B' := (.new 1 26 [.int .i64 y11.1, .slice a14 y11.2.length c15] .nil)) ⟨rfl, rfl, rfl, rfl, trivial⟩ ?_
              cases h
              exact JS.ret ttOk (a14, c15, a23, c24) trivial rfl rfl [1, 0] rfl

def M_s_DecByte (x0 : Int × List UInt8) (x1 : Int) : Option ((Int × List UInt8) × List (Int × Int)) :=
  (bindO (M_s_DecOk x0) fun (y7 : Bool) =>
  (bif (bif (bif (!y7) then true else (decide (x1 < 0))) then true else (decide (255 < x1))) then
  some ((0, []), [])
  else
  (bif (decide (x0.1 = 0)) then
  (bindO (M_s_l12Plain x0.2 x1) fun (y9, y10) =>
  some (y9, y10))
  else
  (bif (decide (x0.1 = 1)) then
  (bindO (M_s_l12Esc x1) fun (y16, y17) =>
  some (y16, y17))
  else
  (bif (decide (x0.1 = 2)) then
  (bindO (M_s_l12Csi x0.2 x1) fun (y23, y24) =>
  some (y23, y24))
  else
  (bif (decide (x0.1 = 3)) then
  (bif (decide (x1 = 27)) then
  (bindO (M_s_l12One 16) fun (y30 : List (Int × Int)) =>
  some ((1, []), y30))
  else
  (bindO (M_s_l12Arrow x1) fun (y34 : Int) =>
  (bindO (M_s_l12One y34) fun (y36 : List (Int × Int)) =>
  some ((0, []), y36))))
  else
  (bindO (M_s_l12Param x1) fun (y41 : Bool) =>
  (bif y41 then
  some ((4, []), [])
  else
  (bif (decide (x1 = 27)) then
  some ((1, []), [])
  else
  some ((0, []), []))))))))))

theorem ok_s_DecByte (x0 : Int × List UInt8) (x1 : Int) (a3 : Option Addr) (c4 : Nat) (l5 : Nat) (hl6 : x0.2.length = l5) (r : (Int × List UInt8) × List (Int × Int)) (h : M_s_DecByte x0 x1 = some r) :
    FC Try.prog 24 [.agg #[.int .i64 x0.1, .slice a3 l5 c4], .int .i64 x1] [⟨.byte, ⟨a3, l5, c4⟩, x0.2⟩] (fun _ : Option Addr × Nat × Option Addr × Nat => True) (fun q => .tuple #[.agg #[.int .i64 r.1.1, .slice q.1 r.1.2.length q.2.1], .slice q.2.2.1 r.2.length q.2.2.2]) (fun q => [⟨.byte, ⟨q.1, r.1.2.length, q.2.1⟩, r.1.2⟩, ⟨(.pair (.int .i64) (.int .i64)), ⟨q.2.2.1, r.2.length, q.2.2.2⟩, r.2⟩]) :=
  by
    subst hl6
    refine FC.of (T := TTx) Try.call24 Try.func24 rfl rfl fun w0 => ?_
    unfold M_s_DecByte at h
    refine JS.seq ?_
    refine JS.region ?_
    refine JO.regB ttOk 3 [] [2, 3] [(2, .bp 2 0), (4, .bp 3 0)] (.new 2 26 [.int .i64 x0.1, .slice a3 x0.2.length c4] (.new 3 26 [.int .i64 0, .slice none 0 0] .nil)) rfl ⟨⟨rfl, rfl, trivial⟩, ⟨rfl, rfl, rfl, rfl, rfl, rfl, rfl, rfl, trivial⟩⟩ ?_
    refine JO.done rfl ?_
    refine JS.seq ?_
    refine JS.seq ?_
    refine JS.region ?_
    refine JO.reg ttOk 1 [] [] [(6, .v (.agg #[.int .i64 x0.1, .slice a3 x0.2.length c4]))] _ rfl ⟨⟨rfl, trivial⟩, rfl⟩ ?_
    obtain ⟨y7, hy8, h⟩ := bindO_some h
    refine JO.call rfl rfl rfl rfl (ok_s_DecOk x0 a3 c4 x0.2.length rfl _ hy8) rfl [0] rfl rfl ?_
    intro _ _
    refine JO.reg ttOk 9 [] [] [(16, .v (.bool (bif (bif (!y7) then true else (decide (x1 < 0))) then true else (decide (255 < x1)))))] _ rfl ⟨⟨rfl, trivial⟩, rfl⟩ ?_
    refine JO.done rfl ?_
    refine JS.cond rfl (fun ht57 => ?_) (fun ht57 => ?_)
    · have h := condT h ht57
      refine JS.seq ?_
      refine JS.region ?_
      refine JO.regB ttOk 3 [] [] [(5, .v (.slice none 0 0))] (.new 3 26 [.int .i64 0, .slice none 0 0] .nil) rfl ⟨⟨rfl, trivial⟩, ⟨rfl, rfl, rfl, rfl, trivial⟩⟩ ?_
      refine JO.done rfl ?_
      cases h
      refine JS.nilO .byte Sl.nil rfl rfl ?_
      refine JS.nilO (.pair (.int .i64) (.int .i64)) Sl.nil rfl rfl ?_
      exact JS.ret ttOk (none, 0, none, 0) trivial rfl rfl [1, 0] rfl
    · have h := condF h ht57
      refine JS.skip ?_
      refine JS.seq ?_
      refine JS.seq ?_
      refine JS.region ?_
      refine JO.reg ttOk 2 [] [] [(19, .v (.int .i64 x0.1))] _ rfl ⟨⟨rfl, trivial⟩, rfl⟩ ?_
      refine JO.done rfl ?_
      refine JS.block ?_
      refine JS.seq ?_
      refine JS.region ?_
      refine JO.reg ttOk 2 [] [] [(20, .v (.bool (decide (x0.1 = 0))))] _ rfl ⟨⟨rfl, trivial⟩, rfl⟩ ?_
      refine JO.done rfl ?_
      refine JS.cond rfl (fun ht56 => ?_) (fun ht56 => ?_)
      · have h := condT h ht56
        refine JS.seq ?_
        refine JS.region ?_
        refine JO.reg ttOk 3 [] [] [(23, .v (.slice a3 x0.2.length c4)), (24, .v (.int .i64 x1))] _ rfl ⟨⟨rfl, rfl, trivial⟩, rfl⟩ ?_
        obtain ⟨⟨y9, y10⟩, hy11, h⟩ := bindO_some h
        refine JO.call rfl rfl rfl rfl (ok_s_l12Plain x0.2 x1 a3 c4 x0.2.length rfl _ hy11) rfl [0] rfl rfl ?_
        rintro ⟨a12, c13, a14, c15⟩ -
        refine JO.regB ttOk 4 [] [] [(5, .v (.slice a14 y10.length c15))] (.new 3 26 [.int .i64 y9.1, .slice a12 y9.2.length c13] .nil) rfl ⟨⟨rfl, trivial⟩, ⟨rfl, rfl, rfl, rfl, trivial⟩⟩ ?_
        refine JO.done rfl ?_
        cases h
        exact JS.ret ttOk (a12, c13, a14, c15) trivial rfl rfl [0, 0] rfl
      · have h := condF h ht56
        refine JS.seq ?_
        refine JS.region ?_
        refine JO.reg ttOk 2 [] [] [(28, .v (.bool (decide (x0.1 = 1))))] _ rfl ⟨⟨rfl, trivial⟩, rfl⟩ ?_
        refine JO.done rfl ?_
        refine JS.cond rfl (fun ht55 => ?_) (fun ht55 => ?_)
        · have h := condT h ht55
          refine JS.seq ?_
          refine JS.region ?_
          refine JO.reg ttOk 1 [] [] [(30, .v (.int .i64 x1))] _ rfl ⟨⟨rfl, trivial⟩, rfl⟩ ?_
          obtain ⟨⟨y16, y17⟩, hy18, h⟩ := bindO_some h
          refine JO.call rfl rfl rfl rfl (ok_s_l12Esc x1 _ hy18) rfl [] rfl rfl ?_
          rintro ⟨a19, c20, a21, c22⟩ -
          refine JO.regB ttOk 4 [] [] [(5, .v (.slice a21 y17.length c22))] (.new 3 26 [.int .i64 y16.1, .slice a19 y16.2.length c20] .nil) rfl ⟨⟨rfl, trivial⟩, ⟨rfl, rfl, rfl, rfl, trivial⟩⟩ ?_
          refine JO.done rfl ?_
          cases h
          exact JS.ret ttOk (a19, c20, a21, c22) trivial rfl rfl [0, 0] rfl
        · have h := condF h ht55
          refine JS.seq ?_
          refine JS.region ?_
          refine JO.reg ttOk 2 [] [] [(34, .v (.bool (decide (x0.1 = 2))))] _ rfl ⟨⟨rfl, trivial⟩, rfl⟩ ?_
          refine JO.done rfl ?_
          refine JS.cond rfl (fun ht54 => ?_) (fun ht54 => ?_)
          · have h := condT h ht54
            refine JS.seq ?_
            refine JS.region ?_
            refine JO.reg ttOk 3 [] [] [(37, .v (.slice a3 x0.2.length c4)), (38, .v (.int .i64 x1))] _ rfl ⟨⟨rfl, rfl, trivial⟩, rfl⟩ ?_
            obtain ⟨⟨y23, y24⟩, hy25, h⟩ := bindO_some h
            refine JO.call rfl rfl rfl rfl (ok_s_l12Csi x0.2 x1 a3 c4 x0.2.length rfl _ hy25) rfl [0] rfl rfl ?_
            rintro ⟨a26, c27, a28, c29⟩ -
            refine JO.regB ttOk 4 [] [] [(5, .v (.slice a28 y24.length c29))] (.new 3 26 [.int .i64 y23.1, .slice a26 y23.2.length c27] .nil) rfl ⟨⟨rfl, trivial⟩, ⟨rfl, rfl, rfl, rfl, trivial⟩⟩ ?_
            refine JO.done rfl ?_
            cases h
            exact JS.ret ttOk (a26, c27, a28, c29) trivial rfl rfl [0, 0] rfl
          · have h := condF h ht54
            refine JS.seq ?_
            refine JS.region ?_
            refine JO.reg ttOk 2 [] [] [(42, .v (.bool (decide (x0.1 = 3))))] _ rfl ⟨⟨rfl, trivial⟩, rfl⟩ ?_
            refine JO.done rfl ?_
            refine JS.cond rfl (fun ht53 => ?_) (fun ht53 => ?_)
            · have h := condT h ht53
              refine JS.seq ?_
              refine JS.seq ?_
              refine JS.region ?_
              refine JO.reg ttOk 2 [] [] [(45, .v (.bool (decide (x1 = 27))))] _ rfl ⟨⟨rfl, trivial⟩, rfl⟩ ?_
              refine JO.done rfl ?_
              refine JS.cond rfl (fun ht50 => ?_) (fun ht50 => ?_)
              · have h := condT h ht50
                refine JS.seq ?_
                refine JS.region ?_
                refine JO.reg ttOk 1 [] [] [(46, .v (.agg #[.int .i64 1, .slice none 0 0]))] _ rfl ⟨⟨rfl, trivial⟩, rfl⟩ ?_
                obtain ⟨y30, hy31, h⟩ := bindO_some h
                refine JO.call rfl rfl rfl rfl (ok_s_l12One 16 _ hy31) rfl [] rfl rfl ?_
                rintro ⟨a32, c33⟩ -
                refine JO.regB ttOk 2 [] [] [(5, .v (.slice a32 y30.length c33))] (.new 3 26 [.int .i64 1, .slice none 0 0] .nil) rfl ⟨⟨rfl, trivial⟩, ⟨rfl, rfl, rfl, rfl, trivial⟩⟩ ?_
                refine JO.done rfl ?_
                cases h
                refine JS.nilO .byte Sl.nil rfl rfl ?_
                exact JS.ret ttOk (none, 0, a32, c33) trivial rfl rfl [0, 0] rfl
              · have h := condF h ht50
                refine JS.skip ?_
                refine JS.seq ?_
                refine JS.region ?_
                refine JO.reg ttOk 2 [] [] [(48, .v (.agg #[.int .i64 0, .slice none 0 0])), (49, .v (.int .i64 x1))] _ rfl ⟨⟨rfl, rfl, trivial⟩, rfl⟩ ?_
                obtain ⟨y34, hy35, h⟩ := bindO_some h
                refine JO.call rfl rfl rfl rfl (ok_s_l12Arrow x1 _ hy35) rfl [] rfl rfl ?_
                intro _ _
                obtain ⟨y36, hy37, h⟩ := bindO_some h
                refine JO.call rfl rfl rfl rfl (ok_s_l12One y34 _ hy37) rfl [] rfl rfl ?_
                rintro ⟨a38, c39⟩ -
                refine JO.regB ttOk 2 [] [] [(5, .v (.slice a38 y36.length c39))] (.new 3 26 [.int .i64 0, .slice none 0 0] .nil) rfl ⟨⟨rfl, trivial⟩, ⟨rfl, rfl, rfl, rfl, trivial⟩⟩ ?_
                refine JO.done rfl ?_
                cases h
                refine JS.nilO .byte Sl.nil rfl rfl ?_
                exact JS.ret ttOk (none, 0, a38, c39) trivial rfl rfl [0, 0] rfl
            · have h := condF h ht53
              refine JS.skip ?_
              refine JS.endB ?_
              refine JS.seq ?_
              refine JS.seq ?_
              refine JS.region ?_
              refine JO.reg ttOk 1 [] [] [(52, .v (.int .i64 x1))] _ rfl ⟨⟨rfl, trivial⟩, rfl⟩ ?_
              obtain ⟨y41, hy42, h⟩ := bindO_some h
              refine JO.call rfl rfl rfl rfl (ok_s_l12Param x1 _ hy42) rfl [] rfl rfl ?_
              intro _ _
              refine JO.done rfl ?_
              refine JS.cond rfl (fun ht52 => ?_) (fun ht52 => ?_)
              · have h := condT h ht52
                refine JS.seq ?_
                refine JS.region ?_
                refine JO.regB ttOk 3 [] [] [(5, .v (.slice none 0 0))] (.new 3 26 [.int .i64 4, .slice none 0 0] .nil) rfl ⟨⟨rfl, trivial⟩, ⟨rfl, rfl, rfl, rfl, trivial⟩⟩ ?_
                refine JO.done rfl ?_
                cases h
                refine JS.nilO .byte Sl.nil rfl rfl ?_
                refine JS.nilO (.pair (.int .i64) (.int .i64)) Sl.nil rfl rfl ?_
                exact JS.ret ttOk (none, 0, none, 0) trivial rfl rfl [1, 0] rfl
              · have h := condF h ht52
                refine JS.skip ?_
                refine JS.seq ?_
                refine JS.seq ?_
                refine JS.region ?_
                refine JO.reg ttOk 2 [] [] [(56, .v (.bool (decide (x1 = 27))))] _ rfl ⟨⟨rfl, trivial⟩, rfl⟩ ?_
                refine JO.done rfl ?_
                refine JS.cond rfl (fun ht51 => ?_) (fun ht51 => ?_)
                · have h := condT h ht51
                  refine JS.seq ?_
                  refine JS.region ?_
                  refine JO.regB ttOk 3 [] [] [(5, .v (.slice none 0 0))] (.new 3 26 [.int .i64 1, .slice none 0 0] .nil) rfl ⟨⟨rfl, trivial⟩, ⟨rfl, rfl, rfl, rfl, trivial⟩⟩ ?_
                  refine JO.done rfl ?_
                  cases h
                  refine JS.nilO .byte Sl.nil rfl rfl ?_
                  refine JS.nilO (.pair (.int .i64) (.int .i64)) Sl.nil rfl rfl ?_
                  exact JS.ret ttOk (none, 0, none, 0) trivial rfl rfl [1, 0] rfl
                · have h := condF h ht51
                  refine JS.skip ?_
                  refine JS.seq ?_
                  refine JS.region ?_
                  refine JO.regB ttOk 3 [] [] [(5, .v (.slice none 0 0))] (.new 3 26 [.int .i64 0, .slice none 0 0] .nil) rfl ⟨⟨rfl, trivial⟩, ⟨rfl, rfl, rfl, rfl, trivial⟩⟩ ?_
                  refine JO.done rfl ?_
                  cases h
                  refine JS.nilO .byte Sl.nil rfl rfl ?_
                  refine JS.nilO (.pair (.int .i64) (.int .i64)) Sl.nil rfl rfl ?_
                  exact JS.ret ttOk (none, 0, none, 0) trivial rfl rfl [1, 0] rfl

def M_s_Decode_L1 (x1 : List UInt8) (j61 : ((List (Int × Int)) × Int × List UInt8) → Option ((Int × List UInt8) × List (Int × Int))) (k50 : ((List (Int × Int)) × Int × Int × List UInt8) → Option ((Int × List UInt8) × List (Int × Int))) : ((List (Int × Int)) × Int × Int × List UInt8) → Option ((Int × List UInt8) × List (Int × Int)) := fun (x23, x26, x31, x32) =>
  (bif (decide (x26 < (x1.length : Int))) then
  (guardO (0 ≤ x26 ∧ x26 < (x1.length : Int)) <|
  (bindO (M_s_DecByte (x31, x32) ((at' x1 x26).toNat : Int)) fun (y37, y38) =>
  (guardO (x23.length + y38.length ≤ 536870912) <|
  k50 ((x23 ++ y38), (W (x26 + 1)), y37.1, y37.2))))
  else
  j61 (x23, x31, x32))

def M_s_Decode (x0 : Int × List UInt8) (x1 : List UInt8) : Option ((Int × List UInt8) × List (Int × Int)) :=
  (bindO (M_s_DecOk x0) fun (y11 : Bool) =>
  (bif (!y11) then
  some ((0, []), [])
  else
  (joinO (fun (x18 : List UInt8) =>
  (joinO (fun ((x54, x57, x58) : (List (Int × Int)) × Int × List UInt8) =>
  some ((x57, x58), x54)) fun j61 =>
  (fixF (M_s_Decode_L1 x1 j61) FUEL (([] : List (Int × Int)), 0, x0.1, x18)))) fun j21 =>
  (guardO (([] : List UInt8).length + x0.2.length ≤ 536870912) <|
  j21 (([] : List UInt8) ++ x0.2)))))

theorem ok_s_Decode (x0 : Int × List UInt8) (x1 : List UInt8) (a3 : Option Addr) (c4 : Nat) (l5 : Nat) (hl6 : x0.2.length = l5) (a7 : Option Addr) (c8 : Nat) (l9 : Nat) (hl10 : x1.length = l9) (r : (Int × List UInt8) × List (Int × Int)) (h : M_s_Decode x0 x1 = some r) :
    FC Try.prog 26 [.agg #[.int .i64 x0.1, .slice a3 l5 c4], .slice a7 l9 c8] [⟨.byte, ⟨a3, l5, c4⟩, x0.2⟩, ⟨.byte, ⟨a7, l9, c8⟩, x1⟩] (fun _ : Option Addr × Nat × Option Addr × Nat => True) (fun q => .tuple #[.agg #[.int .i64 r.1.1, .slice q.1 r.1.2.length q.2.1], .slice q.2.2.1 r.2.length q.2.2.2]) (fun q => [⟨.byte, ⟨q.1, r.1.2.length, q.2.1⟩, r.1.2⟩, ⟨(.pair (.int .i64) (.int .i64)), ⟨q.2.2.1, r.2.length, q.2.2.2⟩, r.2⟩]) :=
  by
    subst hl6
    subst hl10
    refine FC.of (T := TTx) Try.call26 Try.func26 rfl rfl fun w0 => ?_
    unfold M_s_Decode at h
    refine JS.seq ?_
    refine JS.region ?_
    refine JO.regB ttOk 3 [] [3, 4] [(2, .bp 3 0), (4, .bp 4 0)] (.new 3 26 [.int .i64 x0.1, .slice a3 x0.2.length c4] (.new 4 26 [.int .i64 0, .slice none 0 0] .nil)) rfl ⟨⟨rfl, rfl, trivial⟩, ⟨rfl, rfl, rfl, rfl, rfl, rfl, rfl, rfl, trivial⟩⟩ ?_
    refine JO.done rfl ?_
    refine JS.seq ?_
    refine JS.seq ?_
    refine JS.region ?_
    refine JO.reg ttOk 1 [] [] [(12, .v (.agg #[.int .i64 x0.1, .slice a3 x0.2.length c4]))] _ rfl ⟨⟨rfl, trivial⟩, rfl⟩ ?_
    obtain ⟨y11, hy12, h⟩ := bindO_some h
    refine JO.call rfl rfl rfl rfl (ok_s_DecOk x0 a3 c4 x0.2.length rfl _ hy12) rfl [0] rfl rfl ?_
    intro _ _
    refine JO.reg ttOk 1 [] [] [(14, .v (.bool (!y11)))] _ rfl ⟨⟨rfl, trivial⟩, rfl⟩ ?_
    refine JO.done rfl ?_
    refine JS.cond rfl (fun ht71 => ?_) (fun ht71 => ?_)
    · have h := condT h ht71
      refine JS.seq ?_
      refine JS.region ?_
      refine JO.regB ttOk 3 [] [] [(5, .v (.slice none 0 0))] (.new 4 26 [.int .i64 0, .slice none 0 0] .nil) rfl ⟨⟨rfl, trivial⟩, ⟨rfl, rfl, rfl, rfl, trivial⟩⟩ ?_
      refine JO.done rfl ?_
      cases h
      refine JS.nilO .byte Sl.nil rfl rfl ?_
      refine JS.nilO (.pair (.int .i64) (.int .i64)) Sl.nil rfl rfl ?_
      exact JS.ret ttOk (none, 0, none, 0) trivial rfl rfl [1, 0] rfl
    · have h := condF h ht71
      refine JS.skip ?_
      refine JS.seq ?_
      obtain ⟨j21, hj70, h⟩ := joinO_some h
      refine JS.cutJ (ι := List UInt8 × Option Addr × Nat) ⟨fun z => j21 z.1 = some r, fun z => [(1, .v (.slice a7 x1.length c8)), (4, .bp 4 0), (6, .bp 13 0)], fun z => (.new 4 26 [.int .i64 0, .slice none 0 0] (.new 13 26 [.int .i64 x0.1, .slice z.2.1 z.1.length z.2.2] .nil)), fun z => [⟨.byte, ⟨a7, x1.length, c8⟩, x1⟩], fun z => [⟨.byte, ⟨z.2.1, z.1.length, z.2.2⟩, z.1⟩], fun z => 0⟩ ?_ ?_
      · obtain ⟨g14, h⟩ := guardO_some h
        refine JS.regionA rfl (.new 3 26 [.int .i64 x0.1, .slice a3 x0.2.length c4] .nil) [] [8] ⟨rfl, rfl, rfl, rfl, trivial⟩ rfl (fun be17 => ?_)
        refine JA.reg ttOk panic_cx true 5 [0, 1, 3, 4] rfl (by kernel_rfl) [] [(16, .bp 3 0), (17, .v (.int .i64 x0.1)), (19, .bp 3 1), (20, .v (.slice a3 x0.2.length c4))] ⟨rfl, rfl, rfl, rfl, trivial⟩ [] rfl rfl ⟨rfl, rfl, rfl, rfl, trivial⟩ ?_
        refine JA.all (rs := [2, 7]) (by kernel_rfl) rfl (List.forall_mem_cons.2 ⟨?_, List.forall_mem_cons.2 ⟨?_, (fun _ hx => absurd hx List.not_mem_nil)⟩⟩)
        · refine JK.buildSlice ttOk rfl rfl rfl rfl rfl rfl rfl rfl rfl rfl rfl [] rfl .byte [] ⟨rfl, rfl⟩ rfl rfl ?_
          intro a13
          refine JA.next ⟨rfl, rfl, rfl, rfl, trivial⟩ [] rfl ?_
          refine JA.all (rs := [5, 7]) (by kernel_rfl) rfl (List.forall_mem_cons.2 ⟨?_, List.forall_mem_cons.2 ⟨?_, (fun _ hx => absurd hx List.not_mem_nil)⟩⟩)
          · refine JK.appendR' ttOk rfl rfl rfl rfl ⟨rfl, rfl, rfl, rfl, trivial, rfl, rfl, rfl, rfl⟩ rfl rfl rfl [0] rfl 0 rfl g14 rfl ?_
            intro a15 c16
            refine JA.next ⟨rfl, rfl, rfl, rfl, trivial⟩ [] rfl ?_
            refine JA.reg ttOk panic_cx true 2 [6] rfl (by kernel_rfl) [] [(16, .bp 3 0), (17, .v (.int .i64 x0.1)), (18, .v (.slice a13 ([] : List UInt8).length ([] : List UInt8).length)), (19, .bp 3 1), (20, .v (.slice a3 x0.2.length c4)), (21, .v (.slice a15 (([] : List UInt8) ++ x0.2).length c16)), (22, .v (.agg #[.int .i64 x0.1, .slice a15 (([] : List UInt8) ++ x0.2).length c16]))] ⟨rfl, rfl, rfl, rfl, trivial⟩ [] rfl rfl ⟨rfl, rfl, rfl, rfl, rfl, rfl, rfl, trivial⟩ ?_
            refine JA.one 7 (by kernel_rfl) ?_
            refine JK.alloc ttOk rfl rfl rfl rfl rfl 13 rfl (sd_upd _ rfl) ?_
            refine JA.next ⟨rfl, rfl, rfl, rfl, trivial⟩ [] rfl ?_
            refine JA.one 8 (by kernel_rfl) ?_
            refine JK.stBox ttOk rfl rfl rfl rfl rfl rfl rfl rfl ?_
            refine JK.boxes (B' := (.new 3 26 [.int .i64 x0.1, .slice a3 x0.2.length c4] (.new 4 26 [.int .i64 0, .slice none 0 0] (.new 13 26 [.int .i64 x0.1, .slice a15 (([] : List UInt8) ++ x0.2).length c16] .nil)))) ⟨rfl, rfl, rfl, rfl, rfl, rfl, rfl, rfl, rfl, rfl, rfl, rfl, trivial⟩ ?_
            refine JA.nextL rfl ?_
            refine JA.done (by kernel_rfl) ?_
            refine JS.boxes (B' := (.new 4 26 [.int .i64 0, .slice none 0 0] (.new 13 26 [.int .i64 x0.1, .slice a15 (([] : List UInt8) ++ x0.2).length c16] .nil))) ⟨rfl, rfl, rfl, rfl, rfl, rfl, rfl, rfl, trivial⟩ ?_
            exact JS.endJ ((([] : List UInt8) ++ x0.2), a15, c16) h ⟨rfl, rfl, rfl, trivial⟩ ⟨rfl, rfl, rfl, rfl, rfl, rfl, rfl, rfl, trivial⟩ [1] rfl [0] rfl
          · refine JK.alloc ttOk rfl rfl rfl rfl rfl 13 rfl (sd_upd _ rfl) ?_
            refine JA.next ⟨rfl, rfl, rfl, rfl, trivial⟩ [] rfl ?_
            refine JA.one 5 (by kernel_rfl) ?_
            refine JK.appendR' ttOk rfl rfl rfl rfl ⟨rfl, rfl, rfl, rfl, trivial, rfl, rfl, rfl, rfl⟩ rfl rfl rfl [0] rfl 0 rfl g14 rfl ?_
            intro a15 c16
            refine JA.next ⟨rfl, rfl, rfl, rfl, trivial⟩ [] rfl ?_
            refine JA.reg ttOk panic_cx true 1 [6] rfl (by kernel_rfl) [] [(6, .bp 13 0), (16, .bp 3 0), (17, .v (.int .i64 x0.1)), (18, .v (.slice a13 ([] : List UInt8).length ([] : List UInt8).length)), (19, .bp 3 1), (20, .v (.slice a3 x0.2.length c4)), (21, .v (.slice a15 (([] : List UInt8) ++ x0.2).length c16)), (22, .v (.agg #[.int .i64 x0.1, .slice a15 (([] : List UInt8) ++ x0.2).length c16]))] ⟨rfl, rfl, rfl, rfl, trivial⟩ [] rfl rfl ⟨rfl, rfl, rfl, rfl, rfl, rfl, rfl, rfl, trivial⟩ ?_
            refine JA.one 8 (by kernel_rfl) ?_
            refine JK.stBox ttOk rfl rfl rfl rfl rfl rfl rfl rfl ?_
            refine JK.boxes (B' := (.new 3 26 [.int .i64 x0.1, .slice a3 x0.2.length c4] (.new 4 26 [.int .i64 0, .slice none 0 0] (.new 13 26 [.int .i64 x0.1, .slice a15 (([] : List UInt8) ++ x0.2).length c16] .nil)))) ⟨rfl, rfl, rfl, rfl, rfl, rfl, rfl, rfl, rfl, rfl, rfl, rfl, trivial⟩ ?_
            refine JA.nextL rfl ?_
            refine JA.done (by kernel_rfl) ?_
            refine JS.boxes (B' := (.new 4 26 [.int .i64 0, .slice none 0 0] (.new 13 26 [.int .i64 x0.1, .slice a15 (([] : List UInt8) ++ x0.2).length c16] .nil))) ⟨rfl, rfl, rfl, rfl, rfl, rfl, rfl, rfl, trivial⟩ ?_
            exact JS.endJ ((([] : List UInt8) ++ x0.2), a15, c16) h ⟨rfl, rfl, rfl, trivial⟩ ⟨rfl, rfl, rfl, rfl, rfl, rfl, rfl, rfl, trivial⟩ [1] rfl [0] rfl
        · refine JK.alloc ttOk rfl rfl rfl rfl rfl 13 rfl (sd_upd _ rfl) ?_
          refine JA.next ⟨rfl, rfl, rfl, rfl, trivial⟩ [] rfl ?_
          refine JA.one 2 (by kernel_rfl) ?_
          refine JK.buildSlice ttOk rfl rfl rfl rfl rfl rfl rfl rfl rfl rfl rfl [] rfl .byte [] ⟨rfl, rfl⟩ rfl rfl ?_
          intro a13
          refine JA.next ⟨rfl, rfl, rfl, rfl, trivial⟩ [] rfl ?_
          refine JA.one 5 (by kernel_rfl) ?_
          refine JK.appendR' ttOk rfl rfl rfl rfl ⟨rfl, rfl, rfl, rfl, trivial, rfl, rfl, rfl, rfl⟩ rfl rfl rfl [0] rfl 0 rfl g14 rfl ?_
          intro a15 c16
          refine JA.next ⟨rfl, rfl, rfl, rfl, trivial⟩ [] rfl ?_
          refine JA.reg ttOk panic_cx true 1 [6] rfl (by kernel_rfl) [] [(6, .bp 13 0), (16, .bp 3 0), (17, .v (.int .i64 x0.1)), (18, .v (.slice a13 ([] : List UInt8).length ([] : List UInt8).length)), (19, .bp 3 1), (20, .v (.slice a3 x0.2.length c4)), (21, .v (.slice a15 (([] : List UInt8) ++ x0.2).length c16)), (22, .v (.agg #[.int .i64 x0.1, .slice a15 (([] : List UInt8) ++ x0.2).length c16]))] ⟨rfl, rfl, rfl, rfl, trivial⟩ [] rfl rfl ⟨rfl, rfl, rfl, rfl, rfl, rfl, rfl, rfl, trivial⟩ ?_
          refine JA.one 8 (by kernel_rfl) ?_
          refine JK.stBox ttOk rfl rfl rfl rfl rfl rfl rfl rfl ?_
          refine JK.boxes (B' := (.new 3 26 [.int .i64 x0.1, .slice a3 x0.2.length c4] (.new 4 26 [.int .i64 0, .slice none 0 0] (.new 13 26 [.int .i64 x0.1, .slice a15 (([] : List UInt8) ++ x0.2).length c16] .nil)))) ⟨rfl, rfl, rfl, rfl, rfl, rfl, rfl, rfl, rfl, rfl, rfl, rfl, trivial⟩ ?_
          refine JA.nextL rfl ?_
          refine JA.done (by kernel_rfl) ?_
          refine JS.boxes (B' := (.new 4 26 [.int .i64 0, .slice none 0 0] (.new 13 26 [.int .i64 x0.1, .slice a15 (([] : List UInt8) ++ x0.2).length c16] .nil))) ⟨rfl, rfl, rfl, rfl, rfl, rfl, rfl, rfl, trivial⟩ ?_
          exact JS.endJ ((([] : List UInt8) ++ x0.2), a15, c16) h ⟨rfl, rfl, rfl, trivial⟩ ⟨rfl, rfl, rfl, rfl, rfl, rfl, rfl, rfl, trivial⟩ [1] rfl [0] rfl
      · rintro ⟨x18, a19, c20⟩ h
        subst hj70
        refine JS.seq ?_
        refine JS.region ?_
        refine JO.ofK rfl (JK.buildSlice ttOk rfl rfl rfl rfl rfl rfl rfl rfl rfl rfl rfl [] rfl (.pair (.int .i64) (.int .i64)) [] ⟨rfl, rfl⟩ rfl rfl fun a22 => JO.toK ?_)
        refine JO.reg ttOk 1 [] [] [(7, .v (.slice a22 ([] : List (Int × Int)).length ([] : List (Int × Int)).length))] _ rfl ⟨⟨rfl, trivial⟩, rfl⟩ ?_
        refine JO.done rfl ?_
        refine JS.seq ?_
        refine JS.seq ?_
        refine JS.region ?_
        refine JO.reg ttOk 3 [] [] [(24, .v (.slice a7 x1.length c8)), (25, .v (.int .i64 (x1.length : Int))), (26, .v (.int .i64 0))] _ rfl ⟨⟨rfl, rfl, rfl, trivial⟩, rfl⟩ ?_
        refine JO.done rfl ?_
        obtain ⟨j61, hj69, h⟩ := joinO_some h
        refine JS.blockJ (ι := (List (Int × Int)) × Int × List UInt8 × Option Addr × Nat × Option Addr × Nat) ⟨fun z => j61 (z.1, z.2.1, z.2.2.1) = some r, fun z => [(4, .bp 4 0), (6, .bp 13 0), (7, .v (.slice z.2.2.2.1 z.1.length z.2.2.2.2.1))], fun z => (.new 4 26 [.int .i64 0, .slice none 0 0] (.new 13 26 [.int .i64 z.2.1, .slice z.2.2.2.2.2.1 z.2.2.1.length z.2.2.2.2.2.2] .nil)), fun z => [], fun z => [⟨(.pair (.int .i64) (.int .i64)), ⟨z.2.2.2.1, z.1.length, z.2.2.2.2.1⟩, z.1⟩, ⟨.byte, ⟨z.2.2.2.2.2.1, z.2.2.1.length, z.2.2.2.2.2.2⟩, z.2.2.1⟩], fun z => 0⟩ ?_ ?_
        · refine JS.loop (ι := Nat × (List (Int × Int)) × Int × Int × List UInt8 × Option Addr × Nat × Option Addr × Nat) ⟨fun z => fixF (M_s_Decode_L1 x1 j61) z.1 (z.2.1, z.2.2.1, z.2.2.2.1, z.2.2.2.2.1) = some r, fun z => [(4, .bp 4 0), (6, .bp 13 0), (7, .v (.slice z.2.2.2.2.2.1 z.2.1.length z.2.2.2.2.2.2.1)), (24, .v (.slice a7 x1.length c8)), (25, .v (.int .i64 (x1.length : Int))), (26, .v (.int .i64 z.2.2.1))], fun z => (.new 4 26 [.int .i64 0, .slice none 0 0] (.new 13 26 [.int .i64 z.2.2.2.1, .slice z.2.2.2.2.2.2.2.1 z.2.2.2.2.1.length z.2.2.2.2.2.2.2.2] .nil)), fun z => [⟨.byte, ⟨a7, x1.length, c8⟩, x1⟩], fun z => [⟨(.pair (.int .i64) (.int .i64)), ⟨z.2.2.2.2.2.1, z.2.1.length, z.2.2.2.2.2.2.1⟩, z.2.1⟩, ⟨.byte, ⟨z.2.2.2.2.2.2.2.1, z.2.2.2.2.1.length, z.2.2.2.2.2.2.2.2⟩, z.2.2.2.2.1⟩], fun z => z.1⟩ (FUEL, ([] : List (Int × Int)), 0, x0.1, x18, a22, ([] : List (Int × Int)).length, a19, c20) h ⟨rfl, rfl, rfl, rfl, rfl, rfl, trivial⟩ ⟨rfl, rfl, rfl, rfl, rfl, rfl, rfl, rfl, trivial⟩ [0] rfl [0, 0] rfl ?_
          rintro ⟨n51, x23, x26, x31, x32, a24, c25, a33, c34⟩ h
          obtain ⟨n51, rfl, h⟩ := fixF_some h
          rw [M_s_Decode_L1] at h
          refine JS.seq ?_
          refine JS.region ?_
          refine JO.reg ttOk 1 [] [] [(27, .v (.bool (decide (x26 < (x1.length : Int)))))] _ rfl ⟨⟨rfl, trivial⟩, rfl⟩ ?_
          refine JO.done rfl ?_
          refine JS.seq ?_
          refine JS.cond rfl (fun ht68 => ?_) (fun ht68 => ?_)
          · have h := condT h ht68
            refine JS.skip ?_
            refine JS.seq ?_
            refine JS.block ?_
            refine JS.seq ?_
            refine JS.region ?_
            refine JO.know 0 rfl fun hs67 => ?_
            obtain ⟨g36, h⟩ := guardO_some h
            refine JO.reg ttOk 1 [] [] [(28, .ep ⟨a7, x1.length, c8⟩ (Int.toNat x26 * 1))] _ rfl ⟨hs67.ix g36, ⟨rfl, trivial⟩, rfl⟩ ?_
            refine JO.load ttOk rfl rfl rfl rfl rfl rfl rfl 0 rfl rfl (Int.toNat x26) 0 (at' x1 x26) ⟨at_some g36, rfl⟩ rfl rfl ?_
            refine JO.reg ttOk 1 [] [] [(9, .v (.int .u8 ((at' x1 x26).toNat : Int)))] _ rfl ⟨⟨rfl, trivial⟩, rfl⟩ ?_
            refine JO.done rfl ?_
            refine JS.seq ?_
            refine JS.region ?_
            refine JO.reg ttOk 3 [((at' x1 x26).toNat : Int)] [] [(31, .v (.agg #[.int .i64 x31, .slice a33 x32.length c34])), (33, .v (.int .i64 ((at' x1 x26).toNat : Int)))] _ rfl ⟨⟨trivial, W_byte _⟩, ⟨rfl, rfl, trivial⟩, rfl⟩ ?_
            obtain ⟨⟨y37, y38⟩, hy39, h⟩ := bindO_some h
            refine JO.call rfl rfl rfl rfl (ok_s_DecByte (x31, x32) ((at' x1 x26).toNat : Int) a33 c34 x32.length rfl _ hy39) rfl [2] rfl rfl ?_
            rintro ⟨a40, c41, a42, c43⟩ -
            refine JO.regB ttOk 6 [] [47] [(10, .bp 47 0), (11, .v (.slice a42 y38.length c43))] (.new 4 26 [.int .i64 0, .slice none 0 0] (.new 13 26 [.int .i64 x31, .slice a33 x32.length c34] (.new 47 26 [.int .i64 y37.1, .slice a40 y37.2.length c41] .nil))) rfl ⟨⟨rfl, rfl, trivial⟩, ⟨rfl, rfl, rfl, rfl, rfl, rfl, rfl, rfl, rfl, rfl, rfl, rfl, trivial⟩⟩ ?_
            refine JO.done rfl ?_
            refine JS.seq ?_
            refine JS.region ?_
            refine JO.regB ttOk 2 [] [] [] (.new 4 26 [.int .i64 0, .slice none 0 0] (.new 13 26 [.int .i64 y37.1, .slice a40 y37.2.length c41] .nil)) rfl ⟨trivial, ⟨rfl, rfl, rfl, rfl, rfl, rfl, rfl, rfl, trivial⟩⟩ ?_
            refine JO.done rfl ?_
            refine JS.region ?_
            refine JO.reg ttOk 2 [] [] [(38, .v (.slice a24 x23.length c25)), (39, .v (.slice a42 y38.length c43))] _ rfl ⟨⟨rfl, rfl, trivial⟩, rfl⟩ ?_
            obtain ⟨g44, h⟩ := guardO_some h
            refine JO.appendR' ttOk rfl rfl rfl rfl ⟨rfl, rfl, rfl, rfl, trivial, rfl, rfl, rfl, rfl⟩ rfl rfl rfl [2] rfl 2 rfl g44 rfl ?_
            intro a45 c46
            refine JO.reg ttOk 1 [] [] [(7, .v (.slice a45 (x23 ++ y38).length c46))] _ rfl ⟨⟨rfl, trivial⟩, rfl⟩ ?_
            refine JO.done rfl ?_
            refine JS.endB ?_
            refine JS.region ?_
            refine JO.reg ttOk 2 [(W (x26 + 1))] [] [(26, .v (.int .i64 (W (x26 + 1))))] _ rfl ⟨⟨trivial, rfl⟩, ⟨rfl, trivial⟩, rfl⟩ ?_
            refine JO.done rfl ?_
            exact JS.endL (n51, (x23 ++ y38), (W (x26 + 1)), y37.1, y37.2, a45, c46, a40, c41) h (Nat.lt_succ_self _) ⟨rfl, rfl, rfl, rfl, rfl, rfl, trivial⟩ ⟨rfl, rfl, rfl, rfl, rfl, rfl, rfl, rfl, trivial⟩ [0] rfl [0, 0] rfl
          · have h := condF h ht68
            refine JS.exit rfl ?_
            exact JS.endJ (x23, x31, x32, a24, c25, a33, c34) h ⟨rfl, rfl, rfl, trivial⟩ ⟨rfl, rfl, rfl, rfl, rfl, rfl, rfl, rfl, trivial⟩ [] rfl [0, 0] rfl
        · rintro ⟨x54, x57, x58, a55, c56, a59, c60⟩ h
          subst hj69
          refine JS.seq ?_
          refine JS.region ?_
          refine JO.regB ttOk 4 [] [] [(5, .v (.slice a55 x54.length c56))] (.new 4 26 [.int .i64 x57, .slice a59 x58.length c60] .nil) rfl ⟨⟨rfl, trivial⟩, ⟨rfl, rfl, rfl, rfl, trivial⟩⟩ ?_
          refine JO.done rfl ?_
          cases h
          exact JS.ret ttOk (a59, c60, a55, c56) trivial rfl rfl [1, 0] rfl

def M_i_in (x0 : Int) (x1 : Int) (x2 : Int) : Option Bool :=
  some (bif (decide (x1 ≤ x0)) then (decide (x0 ≤ x2)) else false)

theorem ok_i_in (x0 : Int) (x1 : Int) (x2 : Int) (r : Bool) (h : M_i_in x0 x1 x2 = some r) :
    FC Try.prog 44 [.int .i64 x0, .int .i64 x1, .int .i64 x2] [] (fun _ : Unit => True) (fun _ => .bool r) (fun _ => []) :=
  by
    refine FC.of (T := TTx) Try.call44 Try.func44 rfl rfl fun w0 => ?_
    unfold M_i_in at h
    refine JS.seq ?_
    refine JS.region ?_
    refine JO.reg ttOk 1 [] [] [] _ rfl ⟨trivial, rfl⟩ ?_
    refine JO.done rfl ?_
    refine JS.seq ?_
    refine JS.region ?_
    refine JO.reg ttOk 9 [] [] [(6, .v (.bool (bif (decide (x1 ≤ x0)) then (decide (x0 ≤ x2)) else false)))] _ rfl ⟨⟨rfl, trivial⟩, rfl⟩ ?_
    refine JO.done rfl ?_
    cases h
    exact JS.ret ttOk () trivial rfl rfl [] rfl

def M_i_isDigit (x0 : Int) : Option Bool :=
  (bindO (M_i_in x0 48 57) fun (y2 : Bool) =>
  some y2)

theorem ok_i_isDigit (x0 : Int) (r : Bool) (h : M_i_isDigit x0 = some r) :
    FC Try.prog 41 [.int .i64 x0] [] (fun _ : Unit => True) (fun _ => .bool r) (fun _ => []) :=
  by
    refine FC.of (T := TTx) Try.call41 Try.func41 rfl rfl fun w0 => ?_
    unfold M_i_isDigit at h
    refine JS.seq ?_
    refine JS.region ?_
    refine JO.reg ttOk 1 [] [] [] _ rfl ⟨trivial, rfl⟩ ?_
    refine JO.done rfl ?_
    refine JS.seq ?_
    refine JS.region ?_
    refine JO.reg ttOk 1 [] [] [(3, .v (.int .i64 x0))] _ rfl ⟨⟨rfl, trivial⟩, rfl⟩ ?_
    obtain ⟨y2, hy3, h⟩ := bindO_some h
    refine JO.call rfl rfl rfl rfl (ok_i_in x0 48 57 _ hy3) rfl [] rfl rfl ?_
    intro _ _
    refine JO.reg ttOk 1 [] [] [(2, .v (.bool y2))] _ rfl ⟨⟨rfl, trivial⟩, rfl⟩ ?_
    refine JO.done rfl ?_
    cases h
    exact JS.ret ttOk () trivial rfl rfl [] rfl

def M_i_RuneBegin_L1 (x0 : List UInt8) (x20 : Int) (j54 : (Int × Int) → Option Bool) (k45 : (Int × Int × Int) → Option Bool) : (Int × Int × Int) → Option Bool := fun (x26, x27, x28) =>
  (bif (decide (x28 < x20)) then
  (joinO (fun ((x37, x38) : Int × Int) =>
  k45 (x37, x38, (W (x28 + 1)))) fun j39 =>
  (bif (decide (x28 < (x0.length : Int))) then
  (guardO (0 ≤ x28 ∧ x28 < (x0.length : Int)) <|
  (bindO (M_i_in ((at' x0 x28).toNat : Int) 128 191) fun (y31 : Bool) =>
  (bif (!y31) then
  some false
  else
  (guardO (0 ≤ x28 ∧ x28 < (x0.length : Int)) <|
  (guardO (0 ≤ x28 ∧ x28 < (x0.length : Int)) <|
  j39 ((W ((W ((W (x26 * 64)) + ((at' x0 x28).toNat : Int))) - 128)), (W ((W ((W (x27 * 64)) + ((at' x0 x28).toNat : Int))) - 128))))))))
  else
  j39 ((W (x26 * 64)), (W ((W (x27 * 64)) + 63)))))
  else
  j54 (x26, x27))

def M_i_RuneBegin (x0 : List UInt8) : Option Bool :=
  (bindO (M_i_in (x0.length : Int) 1 3) fun (y6 : Bool) =>
  (bif (!y6) then
  some false
  else
  (guardO (0 ≤ (0 : Int) ∧ 0 < (x0.length : Int)) <|
  (joinO (fun ((x20, x21) : Int × Int) =>
  (bif (decide (x20 ≤ (x0.length : Int))) then
  some false
  else
  (joinO (fun ((x52, x53) : Int × Int) =>
  (guardO (0 ≤ x20 ∧ x20 < (([0, 0, 128, 2048, 65536] : List Int).length : Int)) <|
  some (bif (decide ((max x52 (at' ([0, 0, 128, 2048, 65536] : List Int) x20)) ≤ (min x53 1114111))) then (!(bif (decide (55296 ≤ (max x52 (at' ([0, 0, 128, 2048, 65536] : List Int) x20)))) then (decide ((min x53 1114111) ≤ 57343)) else false)) else false))) fun j54 =>
  (fixF (M_i_RuneBegin_L1 x0 x20 j54) FUEL (x21, x21, 1))))) fun j22 =>
  (bindO (M_i_in ((at' x0 0).toNat : Int) 192 223) fun (y11 : Bool) =>
  (bif y11 then
  j22 (2, (W (((at' x0 0).toNat : Int) - 192)))
  else
  (bindO (M_i_in ((at' x0 0).toNat : Int) 224 239) fun (y13 : Bool) =>
  (bif y13 then
  j22 (3, (W (((at' x0 0).toNat : Int) - 224)))
  else
  (bindO (M_i_in ((at' x0 0).toNat : Int) 240 247) fun (y15 : Bool) =>
  (bif y15 then
  j22 (4, (W (((at' x0 0).toNat : Int) - 240)))
  else
  j22 (0, ((at' x0 0).toNat : Int))))))))))))

theorem ok_i_RuneBegin (x0 : List UInt8) (a2 : Option Addr) (c3 : Nat) (l4 : Nat) (hl5 : x0.length = l4) (r : Bool) (h : M_i_RuneBegin x0 = some r) :
    FC Try.prog 40 [.slice a2 l4 c3] [⟨.byte, ⟨a2, l4, c3⟩, x0⟩] (fun _ : Unit => True) (fun _ => .bool r) (fun _ => []) :=
  by
    subst hl5
    refine FC.of (T := TTx) Try.call40 Try.func40 rfl rfl fun w0 => ?_
    unfold M_i_RuneBegin at h
    refine JS.seq ?_
    refine JS.region ?_
    refine JO.reg ttOk 1 [] [] [] _ rfl ⟨trivial, rfl⟩ ?_
    refine JO.done rfl ?_
    refine JS.seq ?_
    refine JS.seq ?_
    refine JS.region ?_
    refine JO.reg ttOk 2 [] [] [(10, .v (.int .i64 (x0.length : Int)))] _ rfl ⟨⟨rfl, trivial⟩, rfl⟩ ?_
    obtain ⟨y6, hy7, h⟩ := bindO_some h
    refine JO.call rfl rfl rfl rfl (ok_i_in (x0.length : Int) 1 3 _ hy7) rfl [] rfl rfl ?_
    intro _ _
    refine JO.reg ttOk 1 [] [] [(12, .v (.bool (!y6)))] _ rfl ⟨⟨rfl, trivial⟩, rfl⟩ ?_
    refine JO.done rfl ?_
    refine JS.cond rfl (fun ht81 => ?_) (fun ht81 => ?_)
    · have h := condT h ht81
      refine JS.seq ?_
      refine JS.region ?_
      refine JO.reg ttOk 1 [] [] [(2, .v (.bool false))] _ rfl ⟨⟨rfl, trivial⟩, rfl⟩ ?_
      refine JO.done rfl ?_
      cases h
      exact JS.ret ttOk () trivial rfl rfl [] rfl
    · have h := condF h ht81
      refine JS.skip ?_
      refine JS.seq ?_
      obtain ⟨g9, h⟩ := guardO_some h
      refine JS.know 0 rfl fun hs68 => ?_
      refine JS.regionQ rfl (by kernel_rfl) ?_
      refine JQ.reg ttOk 2 [] [(14, .ep ⟨a2, x0.length, c3⟩ (Int.toNat 0 * 1))] rfl ⟨hs68.ix g9, ⟨rfl, trivial⟩⟩ ?_
      refine JQ.load ttOk rfl rfl rfl rfl rfl rfl rfl 0 rfl rfl (Int.toNat 0) 0 (at' x0 0) ⟨at_some g9, rfl⟩ rfl rfl ?_
      refine JQ.reg ttOk 3 [((at' x0 0).toNat : Int)] [(3, .v (.int .i64 0)), (4, .v (.int .i64 ((at' x0 0).toNat : Int)))] rfl ⟨⟨trivial, W_byte _⟩, ⟨rfl, rfl, trivial⟩⟩ ?_
      refine JQ.done rfl ?_
      refine JS.seq ?_
      obtain ⟨j22, hj80, h⟩ := joinO_some h
      refine JS.blockJ (ι := Int × Int) ⟨fun z => j22 (z.1, z.2) = some r, fun z => [(0, .v (.slice a2 x0.length c3)), (3, .v (.int .i64 z.1)), (4, .v (.int .i64 z.2))], fun z => .nil, fun z => [⟨.byte, ⟨a2, x0.length, c3⟩, x0⟩], fun z => [], fun z => 0⟩ ?_ ?_
      · refine JS.seq ?_
        refine JS.region ?_
        refine JO.reg ttOk 1 [] [] [(18, .v (.int .i64 ((at' x0 0).toNat : Int)))] _ rfl ⟨⟨rfl, trivial⟩, rfl⟩ ?_
        obtain ⟨y11, hy12, h⟩ := bindO_some h
        refine JO.call rfl rfl rfl rfl (ok_i_in ((at' x0 0).toNat : Int) 192 223 _ hy12) rfl [] rfl rfl ?_
        intro _ _
        refine JO.reg ttOk 1 [] [] [(17, .v (.bool y11))] _ rfl ⟨⟨rfl, trivial⟩, rfl⟩ ?_
        refine JO.done rfl ?_
        refine JS.cond rfl (fun ht71 => ?_) (fun ht71 => ?_)
        · have h := condT h ht71
          refine JS.region ?_
          refine JO.reg ttOk 4 [(W (((at' x0 0).toNat : Int) - 192))] [] [(3, .v (.int .i64 2)), (4, .v (.int .i64 (W (((at' x0 0).toNat : Int) - 192))))] _ rfl ⟨⟨trivial, rfl⟩, ⟨rfl, rfl, trivial⟩, rfl⟩ ?_
          refine JO.done rfl ?_
          refine JS.endB ?_
          exact JS.endJ (2, (W (((at' x0 0).toNat : Int) - 192))) h ⟨rfl, rfl, rfl, trivial⟩ trivial [0] rfl [] rfl
        · have h := condF h ht71
          refine JS.seq ?_
          refine JS.region ?_
          refine JO.reg ttOk 1 [] [] [(23, .v (.int .i64 ((at' x0 0).toNat : Int)))] _ rfl ⟨⟨rfl, trivial⟩, rfl⟩ ?_
          obtain ⟨y13, hy14, h⟩ := bindO_some h
          refine JO.call rfl rfl rfl rfl (ok_i_in ((at' x0 0).toNat : Int) 224 239 _ hy14) rfl [] rfl rfl ?_
          intro _ _
          refine JO.reg ttOk 1 [] [] [(22, .v (.bool y13))] _ rfl ⟨⟨rfl, trivial⟩, rfl⟩ ?_
          refine JO.done rfl ?_
          refine JS.cond rfl (fun ht70 => ?_) (fun ht70 => ?_)
          · have h := condT h ht70
            refine JS.region ?_
            refine JO.reg ttOk 4 [(W (((at' x0 0).toNat : Int) - 224))] [] [(3, .v (.int .i64 3)), (4, .v (.int .i64 (W (((at' x0 0).toNat : Int) - 224))))] _ rfl ⟨⟨trivial, rfl⟩, ⟨rfl, rfl, trivial⟩, rfl⟩ ?_
            refine JO.done rfl ?_
            refine JS.endB ?_
            exact JS.endJ (3, (W (((at' x0 0).toNat : Int) - 224))) h ⟨rfl, rfl, rfl, trivial⟩ trivial [0] rfl [] rfl
          · have h := condF h ht70
            refine JS.seq ?_
            refine JS.region ?_
            refine JO.reg ttOk 1 [] [] [(28, .v (.int .i64 ((at' x0 0).toNat : Int)))] _ rfl ⟨⟨rfl, trivial⟩, rfl⟩ ?_
            obtain ⟨y15, hy16, h⟩ := bindO_some h
            refine JO.call rfl rfl rfl rfl (ok_i_in ((at' x0 0).toNat : Int) 240 247 _ hy16) rfl [] rfl rfl ?_
            intro _ _
            refine JO.reg ttOk 1 [] [] [(27, .v (.bool y15))] _ rfl ⟨⟨rfl, trivial⟩, rfl⟩ ?_
            refine JO.done rfl ?_
            refine JS.cond rfl (fun ht69 => ?_) (fun ht69 => ?_)
            · have h := condT h ht69
              refine JS.region ?_
              refine JO.reg ttOk 4 [(W (((at' x0 0).toNat : Int) - 240))] [] [(3, .v (.int .i64 4)), (4, .v (.int .i64 (W (((at' x0 0).toNat : Int) - 240))))] _ rfl ⟨⟨trivial, rfl⟩, ⟨rfl, rfl, trivial⟩, rfl⟩ ?_
              refine JO.done rfl ?_
              refine JS.endB ?_
              exact JS.endJ (4, (W (((at' x0 0).toNat : Int) - 240))) h ⟨rfl, rfl, rfl, trivial⟩ trivial [0] rfl [] rfl
            · have h := condF h ht69
              refine JS.skip ?_
              refine JS.endB ?_
              exact JS.endJ (0, ((at' x0 0).toNat : Int)) h ⟨rfl, rfl, rfl, trivial⟩ trivial [0] rfl [] rfl
      · rintro ⟨x20, x21⟩ h
        subst hj80
        refine JS.seq ?_
        refine JS.seq ?_
        refine JS.region ?_
        refine JO.reg ttOk 4 [] [] [(35, .v (.bool (decide (x20 ≤ (x0.length : Int)))))] _ rfl ⟨⟨rfl, trivial⟩, rfl⟩ ?_
        refine JO.done rfl ?_
        refine JS.cond rfl (fun ht79 => ?_) (fun ht79 => ?_)
        · have h := condT h ht79
          refine JS.seq ?_
          refine JS.region ?_
          refine JO.reg ttOk 1 [] [] [(2, .v (.bool false))] _ rfl ⟨⟨rfl, trivial⟩, rfl⟩ ?_
          refine JO.done rfl ?_
          cases h
          exact JS.ret ttOk () trivial rfl rfl [] rfl
        · have h := condF h ht79
          refine JS.skip ?_
          refine JS.seq ?_
          refine JS.region ?_
          refine JO.reg ttOk 4 [] [] [(5, .v (.int .i64 x21)), (6, .v (.int .i64 x21))] _ rfl ⟨⟨rfl, rfl, trivial⟩, rfl⟩ ?_
          refine JO.done rfl ?_
          refine JS.seq ?_
          refine JS.seq ?_
          refine JS.region ?_
          refine JO.reg ttOk 1 [] [] [(7, .v (.int .i64 1))] _ rfl ⟨⟨rfl, trivial⟩, rfl⟩ ?_
          refine JO.done rfl ?_
          obtain ⟨j54, hj78, h⟩ := joinO_some h
          refine JS.blockJ (ι := Int × Int) ⟨fun z => j54 (z.1, z.2) = some r, fun z => [(3, .v (.int .i64 x20)), (5, .v (.int .i64 z.1)), (6, .v (.int .i64 z.2))], fun z => .nil, fun z => [], fun z => [], fun z => 0⟩ ?_ ?_
          · refine JS.loop (ι := Nat × Int × Int × Int) ⟨fun z => fixF (M_i_RuneBegin_L1 x0 x20 j54) z.1 (z.2.1, z.2.2.1, z.2.2.2) = some r, fun z => [(0, .v (.slice a2 x0.length c3)), (3, .v (.int .i64 x20)), (5, .v (.int .i64 z.2.1)), (6, .v (.int .i64 z.2.2.1)), (7, .v (.int .i64 z.2.2.2))], fun z => .nil, fun z => [⟨.byte, ⟨a2, x0.length, c3⟩, x0⟩], fun z => [], fun z => z.1⟩ (FUEL, x21, x21, 1) h ⟨rfl, rfl, rfl, rfl, rfl, trivial⟩ trivial [0] rfl [] rfl ?_
            rintro ⟨n46, x26, x27, x28⟩ h
            obtain ⟨n46, rfl, h⟩ := fixF_some h
            rw [M_i_RuneBegin_L1] at h
            refine JS.seq ?_
            refine JS.seq ?_
            refine JS.region ?_
            refine JO.reg ttOk 3 [] [] [(40, .v (.bool (decide (x28 < x20))))] _ rfl ⟨⟨rfl, trivial⟩, rfl⟩ ?_
            refine JO.done rfl ?_
            refine JS.cond rfl (fun ht76 => ?_) (fun ht76 => ?_)
            · have h := condT h ht76
              refine JS.skip ?_
              refine JS.seq ?_
              obtain ⟨j39, hj75, h⟩ := joinO_some h
              refine JS.blockJ (ι := Int × Int) ⟨fun z => j39 (z.1, z.2) = some r, fun z => [(0, .v (.slice a2 x0.length c3)), (3, .v (.int .i64 x20)), (5, .v (.int .i64 z.1)), (6, .v (.int .i64 z.2)), (7, .v (.int .i64 x28))], fun z => .nil, fun z => [⟨.byte, ⟨a2, x0.length, c3⟩, x0⟩], fun z => [], fun z => 0⟩ ?_ ?_
              · refine JS.seq ?_
                refine JS.region ?_
                refine JO.reg ttOk 4 [] [] [(46, .v (.bool (decide (x28 < (x0.length : Int)))))] _ rfl ⟨⟨rfl, trivial⟩, rfl⟩ ?_
                refine JO.done rfl ?_
                refine JS.cond rfl (fun ht74 => ?_) (fun ht74 => ?_)
                · have h := condT h ht74
                  refine JS.seq ?_
                  refine JS.seq ?_
                  refine JS.region ?_
                  refine JO.know 0 rfl fun hs72 => ?_
                  obtain ⟨g30, h⟩ := guardO_some h
                  refine JO.reg ttOk 3 [] [] [(49, .ep ⟨a2, x0.length, c3⟩ (Int.toNat x28 * 1))] _ rfl ⟨hs72.ix g30, ⟨rfl, trivial⟩, rfl⟩ ?_
                  refine JO.load ttOk rfl rfl rfl rfl rfl rfl rfl 0 rfl rfl (Int.toNat x28) 0 (at' x0 x28) ⟨at_some g30, rfl⟩ rfl rfl ?_
                  refine JO.reg ttOk 1 [((at' x0 x28).toNat : Int)] [] [(51, .v (.int .i64 ((at' x0 x28).toNat : Int)))] _ rfl ⟨⟨trivial, W_byte _⟩, ⟨rfl, trivial⟩, rfl⟩ ?_
                  obtain ⟨y31, hy32, h⟩ := bindO_some h
                  refine JO.call rfl rfl rfl rfl (ok_i_in ((at' x0 x28).toNat : Int) 128 191 _ hy32) rfl [] rfl rfl ?_
                  intro _ _
                  refine JO.reg ttOk 1 [] [] [(53, .v (.bool (!y31)))] _ rfl ⟨⟨rfl, trivial⟩, rfl⟩ ?_
                  refine JO.done rfl ?_
                  refine JS.cond rfl (fun ht73 => ?_) (fun ht73 => ?_)
                  · have h := condT h ht73
                    refine JS.seq ?_
                    refine JS.region ?_
                    refine JO.reg ttOk 1 [] [] [(2, .v (.bool false))] _ rfl ⟨⟨rfl, trivial⟩, rfl⟩ ?_
                    refine JO.done rfl ?_
                    cases h
                    exact JS.ret ttOk () trivial rfl rfl [] rfl
                  · have h := condF h ht73
                    refine JS.skip ?_
                    obtain ⟨g33, h⟩ := guardO_some h
                    obtain ⟨g34, h⟩ := guardO_some h
                    refine JS.regionQ rfl (by kernel_rfl) ?_
                    refine JQ.reg ttOk 5 [(W (x26 * 64))] [(55, .v (.int .i64 (W (x26 * 64)))), (58, .ep ⟨a2, x0.length, c3⟩ (Int.toNat x28 * 1))] rfl ⟨⟨trivial, rfl⟩, hs72.ix g33, ⟨rfl, rfl, trivial⟩⟩ ?_
                    refine JQ.load ttOk rfl rfl rfl rfl rfl rfl rfl 0 rfl rfl (Int.toNat x28) 0 (at' x0 x28) ⟨at_some g33, rfl⟩ rfl rfl ?_
                    refine JQ.reg ttOk 8 [((at' x0 x28).toNat : Int), (W ((W (x26 * 64)) + ((at' x0 x28).toNat : Int))), (W ((W ((W (x26 * 64)) + ((at' x0 x28).toNat : Int))) - 128)), (W (x27 * 64))] [(62, .v (.int .i64 (W ((W ((W (x26 * 64)) + ((at' x0 x28).toNat : Int))) - 128)))), (64, .v (.int .i64 (W (x27 * 64)))), (67, .ep ⟨a2, x0.length, c3⟩ (Int.toNat x28 * 1))] rfl ⟨⟨trivial, W_byte _⟩, ⟨trivial, rfl⟩, ⟨trivial, rfl⟩, ⟨trivial, rfl⟩, hs72.ix g34, ⟨rfl, rfl, rfl, trivial⟩⟩ ?_
                    refine JQ.load ttOk rfl rfl rfl rfl rfl rfl rfl 0 rfl rfl (Int.toNat x28) 0 (at' x0 x28) ⟨at_some g34, rfl⟩ rfl rfl ?_
                    refine JQ.reg ttOk 5 [((at' x0 x28).toNat : Int), (W ((W (x27 * 64)) + ((at' x0 x28).toNat : Int))), (W ((W ((W (x27 * 64)) + ((at' x0 x28).toNat : Int))) - 128))] [(5, .v (.int .i64 (W ((W ((W (x26 * 64)) + ((at' x0 x28).toNat : Int))) - 128)))), (6, .v (.int .i64 (W ((W ((W (x27 * 64)) + ((at' x0 x28).toNat : Int))) - 128))))] rfl ⟨⟨trivial, W_byte _⟩, ⟨trivial, rfl⟩, ⟨trivial, rfl⟩, ⟨rfl, rfl, trivial⟩⟩ ?_
                    refine JQ.done rfl ?_
                    refine JS.endB ?_
                    exact JS.endJ ((W ((W ((W (x26 * 64)) + ((at' x0 x28).toNat : Int))) - 128)), (W ((W ((W (x27 * 64)) + ((at' x0 x28).toNat : Int))) - 128))) h ⟨rfl, rfl, rfl, rfl, rfl, trivial⟩ trivial [0] rfl [] rfl
                · have h := condF h ht74
                  refine JS.region ?_
                  refine JO.reg ttOk 7 [(W (x26 * 64)), (W (x27 * 64)), (W ((W (x27 * 64)) + 63))] [] [(5, .v (.int .i64 (W (x26 * 64)))), (6, .v (.int .i64 (W ((W (x27 * 64)) + 63))))] _ rfl ⟨⟨trivial, rfl⟩, ⟨trivial, rfl⟩, ⟨trivial, rfl⟩, ⟨rfl, rfl, trivial⟩, rfl⟩ ?_
                  refine JO.done rfl ?_
                  refine JS.endB ?_
                  exact JS.endJ ((W (x26 * 64)), (W ((W (x27 * 64)) + 63))) h ⟨rfl, rfl, rfl, rfl, rfl, trivial⟩ trivial [0] rfl [] rfl
              · rintro ⟨x37, x38⟩ h
                subst hj75
                refine JS.region ?_
                refine JO.reg ttOk 3 [(W (x28 + 1))] [] [(7, .v (.int .i64 (W (x28 + 1))))] _ rfl ⟨⟨trivial, rfl⟩, ⟨rfl, trivial⟩, rfl⟩ ?_
                refine JO.done rfl ?_
                exact JS.endL (n46, x37, x38, (W (x28 + 1))) h (Nat.lt_succ_self _) ⟨rfl, rfl, rfl, rfl, rfl, trivial⟩ trivial [0] rfl [] rfl
            · have h := condF h ht76
              refine JS.exit rfl ?_
              exact JS.endJ (x26, x27) h ⟨rfl, rfl, rfl, trivial⟩ trivial [] rfl [] rfl
          · rintro ⟨x52, x53⟩ h
            subst hj78
            refine JS.seq ?_
            refine JS.region ?_
            refine JO.ofK rfl (JK.buildSlice ttOk rfl rfl rfl rfl rfl rfl rfl rfl rfl rfl rfl [] rfl (.int .i64) [0, 0, 128, 2048, 65536] ⟨rfl, rfl⟩ rfl rfl fun a60 => JO.toK ?_)
            refine JO.know 0 rfl fun hs77 => ?_
            obtain ⟨g62, h⟩ := guardO_some h
            refine JO.reg ttOk 2 [] [] [(79, .ep ⟨a60, ([0, 0, 128, 2048, 65536] : List Int).length, ([0, 0, 128, 2048, 65536] : List Int).length⟩ (Int.toNat x20 * 1))] _ rfl ⟨hs77.ix g62, ⟨rfl, trivial⟩, rfl⟩ ?_
            refine JO.load ttOk rfl rfl rfl rfl rfl rfl rfl 0 rfl rfl (Int.toNat x20) 0 (at' ([0, 0, 128, 2048, 65536] : List Int) x20) ⟨at_some g62, rfl⟩ rfl rfl ?_
            refine JO.reg ttOk 1 [] [] [(8, .v (.int .i64 (at' ([0, 0, 128, 2048, 65536] : List Int) x20)))] _ rfl ⟨⟨rfl, trivial⟩, rfl⟩ ?_
            refine JO.done rfl ?_
            refine JS.seq ?_
            refine JS.region ?_
            refine JO.reg ttOk 7 [] [] [(5, .v (.int .i64 (max x52 (at' ([0, 0, 128, 2048, 65536] : List Int) x20)))), (6, .v (.int .i64 (min x53 1114111)))] _ rfl ⟨⟨rfl, rfl, trivial⟩, rfl⟩ ?_
            refine JO.done rfl ?_
            refine JS.seq ?_
            refine JS.region ?_
            refine JO.reg ttOk 13 [] [] [(2, .v (.bool (bif (decide ((max x52 (at' ([0, 0, 128, 2048, 65536] : List Int) x20)) ≤ (min x53 1114111))) then (!(bif (decide (55296 ≤ (max x52 (at' ([0, 0, 128, 2048, 65536] : List Int) x20)))) then (decide ((min x53 1114111) ≤ 57343)) else false)) else false)))] _ rfl ⟨⟨rfl, trivial⟩, rfl⟩ ?_
            refine JO.done rfl ?_
            cases h
            exact JS.ret ttOk () trivial rfl rfl [] rfl

def M_i_DecOk_L1 (x0 : Int × List UInt8) (j28 : Unit → Option Bool) (k23 : Int → Option Bool) : Int → Option Bool := fun x9 =>
  (bif (decide (x9 < (x0.2.length : Int))) then
  (guardO (0 ≤ x9 ∧ x9 < (x0.2.length : Int)) <|
  (bindO (M_i_isDigit ((at' x0.2 x9).toNat : Int)) fun (y16 : Bool) =>
  (bif (bif (!y16) then (!(decide (((at' x0.2 x9).toNat : Int) = (59 : Int)))) else false) then
  some false
  else
  k23 (W (x9 + 1)))))
  else
  j28 ())

def M_i_DecOk (x0 : Int × List UInt8) : Option Bool :=
  (joinO (fun (_ : Unit) =>
  some false) fun j43 =>
  (bif (decide (x0.1 = 0)) then
  (callO ((decide ((x0.2.length : Int) = 0)) = false) (M_i_RuneBegin x0.2) false fun (y6 : Bool) =>
  some (bif (decide ((x0.2.length : Int) = 0)) then true else y6))
  else
  (bif (decide (x0.1 = 2)) then
  (joinO (fun (_ : Unit) =>
  some (decide ((x0.2.length : Int) ≤ 8))) fun j28 =>
  (fixF (M_i_DecOk_L1 x0 j28) FUEL 0))
  else
  (joinO (fun (x35 : Bool) =>
  (bif x35 then
  some (decide ((x0.2.length : Int) = 0))
  else
  j43 ())) fun j36 =>
  (bif (decide (x0.1 = 1)) then
  j36 (decide (x0.1 = 1))
  else
  (bif (decide (x0.1 = 3)) then
  j36 (decide (x0.1 = 3))
  else
  j36 (decide (x0.1 = 4))))))))

theorem ok_i_DecOk (x0 : Int × List UInt8) (a2 : Option Addr) (c3 : Nat) (l4 : Nat) (hl5 : x0.2.length = l4) (r : Bool) (h : M_i_DecOk x0 = some r) :
    FC Try.prog 20 [.agg #[.int .i64 x0.1, .slice a2 l4 c3]] [⟨.byte, ⟨a2, l4, c3⟩, x0.2⟩] (fun _ : Unit => True) (fun _ => .bool r) (fun _ => []) :=
  by
    subst hl5
    refine FC.of (T := TTx) Try.call20 Try.func20 rfl rfl fun w0 => ?_
    unfold M_i_DecOk at h
    refine JS.seq ?_
    refine JS.region ?_
    refine JO.regB ttOk 2 [] [2] [(1, .bp 2 0)] (.new 2 26 [.int .i64 x0.1, .slice a2 x0.2.length c3] .nil) rfl ⟨⟨rfl, trivial⟩, ⟨rfl, rfl, rfl, rfl, trivial⟩⟩ ?_
    refine JO.done rfl ?_
    refine JS.seq ?_
    refine JS.seq ?_
    refine JS.region ?_
    refine JO.reg ttOk 2 [] [] [(6, .v (.int .i64 x0.1))] _ rfl ⟨⟨rfl, trivial⟩, rfl⟩ ?_
    refine JO.done rfl ?_
    obtain ⟨j43, hj67, h⟩ := joinO_some h
    refine JS.blockJ (ι := Unit) ⟨fun _ => j43 () = some r, fun _ => [], fun _ => .nil, fun _ => [], fun _ => [], fun _ => 0⟩ ?_ ?_
    · refine JS.seq ?_
      refine JS.region ?_
      refine JO.reg ttOk 2 [] [] [(7, .v (.bool (decide (x0.1 = 0))))] _ rfl ⟨⟨rfl, trivial⟩, rfl⟩ ?_
      refine JO.done rfl ?_
      refine JS.cond rfl (fun ht66 => ?_) (fun ht66 => ?_)
      · have h := condT h ht66
        refine JS.seq ?_
        refine JS.region ?_
        refine JO.reg ttOk 7 [] [] [(13, .v (.bool (decide ((x0.2.length : Int) = 0)))), (15, .cd [(13, false)] (.v (.slice a2 x0.2.length c3)))] _ rfl ⟨⟨rfl, rfl, trivial⟩, rfl⟩ ?_
        obtain ⟨y6, hy7, -, h⟩ := callO_some h
        refine JO.callg rfl rfl rfl rfl (fun q56 => ok_i_RuneBegin x0.2 a2 c3 x0.2.length rfl _ (hy7 q56)) rfl [0] rfl rfl ?_
        refine JO.reg ttOk 2 [] [] [(2, .v (.bool (bif (decide ((x0.2.length : Int) = 0)) then true else y6)))] _ rfl ⟨⟨rfl, trivial⟩, rfl⟩ ?_
        refine JO.done rfl ?_
        cases h
        exact JS.ret ttOk () trivial rfl rfl [] rfl
      · have h := condF h ht66
        refine JS.seq ?_
        refine JS.region ?_
        refine JO.reg ttOk 2 [] [] [(18, .v (.bool (decide (x0.1 = 2))))] _ rfl ⟨⟨rfl, trivial⟩, rfl⟩ ?_
        refine JO.done rfl ?_
        refine JS.cond rfl (fun ht65 => ?_) (fun ht65 => ?_)
        · have h := condT h ht65
          refine JS.seq ?_
          refine JS.seq ?_
          refine JS.region ?_
          refine JO.reg ttOk 4 [] [] [(21, .v (.slice a2 x0.2.length c3)), (22, .v (.int .i64 (x0.2.length : Int))), (23, .v (.int .i64 0))] _ rfl ⟨⟨rfl, rfl, rfl, trivial⟩, rfl⟩ ?_
          refine JO.done rfl ?_
          obtain ⟨j28, hj60, h⟩ := joinO_some h
          refine JS.blockJ (ι := Unit) ⟨fun _ => j28 () = some r, fun _ => [(1, .bp 2 0)], fun _ => (.new 2 26 [.int .i64 x0.1, .slice a2 x0.2.length c3] .nil), fun _ => [⟨.byte, ⟨a2, x0.2.length, c3⟩, x0.2⟩], fun _ => [], fun _ => 0⟩ ?_ ?_
          · refine JS.loop (ι := Nat × Int) ⟨fun z => fixF (M_i_DecOk_L1 x0 j28) z.1 z.2 = some r, fun z => [(1, .bp 2 0), (21, .v (.slice a2 x0.2.length c3)), (22, .v (.int .i64 (x0.2.length : Int))), (23, .v (.int .i64 z.2))], fun z => (.new 2 26 [.int .i64 x0.1, .slice a2 x0.2.length c3] .nil), fun z => [⟨.byte, ⟨a2, x0.2.length, c3⟩, x0.2⟩], fun z => [], fun z => z.1⟩ (FUEL, 0) h ⟨rfl, rfl, rfl, rfl, trivial⟩ ⟨rfl, rfl, rfl, rfl, trivial⟩ [0] rfl [] rfl ?_
            rintro ⟨n24, x9⟩ h
            obtain ⟨n24, rfl, h⟩ := fixF_some h
            rw [M_i_DecOk_L1] at h
            refine JS.seq ?_
            refine JS.region ?_
            refine JO.reg ttOk 1 [] [] [(24, .v (.bool (decide (x9 < (x0.2.length : Int)))))] _ rfl ⟨⟨rfl, trivial⟩, rfl⟩ ?_
            refine JO.done rfl ?_
            refine JS.seq ?_
            refine JS.cond rfl (fun ht59 => ?_) (fun ht59 => ?_)
            · have h := condT h ht59
              refine JS.skip ?_
              refine JS.seq ?_
              refine JS.block ?_
              refine JS.seq ?_
              refine JS.region ?_
              refine JO.know 0 rfl fun hs57 => ?_
              obtain ⟨g15, h⟩ := guardO_some h
              refine JO.reg ttOk 1 [] [] [(25, .ep ⟨a2, x0.2.length, c3⟩ (Int.toNat x9 * 1))] _ rfl ⟨hs57.ix g15, ⟨rfl, trivial⟩, rfl⟩ ?_
              refine JO.load ttOk rfl rfl rfl rfl rfl rfl rfl 0 rfl rfl (Int.toNat x9) 0 (at' x0.2 x9) ⟨at_some g15, rfl⟩ rfl rfl ?_
              refine JO.reg ttOk 1 [] [] [(4, .v (.int .u8 ((at' x0.2 x9).toNat : Int)))] _ rfl ⟨⟨rfl, trivial⟩, rfl⟩ ?_
              refine JO.done rfl ?_
              refine JS.seq ?_
              refine JS.region ?_
              refine JO.reg ttOk 2 [((at' x0.2 x9).toNat : Int)] [] [(28, .v (.int .i64 ((at' x0.2 x9).toNat : Int)))] _ rfl ⟨⟨trivial, W_byte _⟩, ⟨rfl, trivial⟩, rfl⟩ ?_
              obtain ⟨y16, hy17, h⟩ := bindO_some h
              refine JO.call rfl rfl rfl rfl (ok_i_isDigit ((at' x0.2 x9).toNat : Int) _ hy17) rfl [] rfl rfl ?_
              intro _ _
              refine JO.reg ttOk 5 [] [] [(34, .v (.bool (bif (!y16) then (!(decide (((at' x0.2 x9).toNat : Int) = (59 : Int)))) else false)))] _ rfl ⟨⟨rfl, trivial⟩, rfl⟩ ?_
              refine JO.done rfl ?_
              refine JS.cond rfl (fun ht58 => ?_) (fun ht58 => ?_)
              · have h := condT h ht58
                refine JS.seq ?_
                refine JS.region ?_
                refine JO.reg ttOk 1 [] [] [(2, .v (.bool false))] _ rfl ⟨⟨rfl, trivial⟩, rfl⟩ ?_
                refine JO.done rfl ?_
                cases h
                exact JS.ret ttOk () trivial rfl rfl [] rfl
              · have h := condF h ht58
                refine JS.skip ?_
                refine JS.endB ?_
                refine JS.region ?_
                refine JO.reg ttOk 2 [(W (x9 + 1))] [] [(23, .v (.int .i64 (W (x9 + 1))))] _ rfl ⟨⟨trivial, rfl⟩, ⟨rfl, trivial⟩, rfl⟩ ?_
                refine JO.done rfl ?_
                exact JS.endL (n24, (W (x9 + 1))) h (Nat.lt_succ_self _) ⟨rfl, rfl, rfl, rfl, trivial⟩ ⟨rfl, rfl, rfl, rfl, trivial⟩ [0] rfl [] rfl
            · have h := condF h ht59
              refine JS.exit rfl ?_
              exact JS.endJ () h ⟨rfl, trivial⟩ ⟨rfl, rfl, rfl, rfl, trivial⟩ [0] rfl [] rfl
          · rintro _ h
            subst hj60
            refine JS.seq ?_
            refine JS.region ?_
            refine JO.reg ttOk 5 [] [] [(2, .v (.bool (decide ((x0.2.length : Int) ≤ 8))))] _ rfl ⟨⟨rfl, trivial⟩, rfl⟩ ?_
            refine JO.done rfl ?_
            cases h
            exact JS.ret ttOk () trivial rfl rfl [] rfl
        · have h := condF h ht65
          obtain ⟨j36, hj64, h⟩ := joinO_some h
          refine JS.seqJ (ι := Bool) ⟨fun z => j36 z = some r, fun z => [(1, .bp 2 0), (40, .v (.bool z))], fun z => (.new 2 26 [.int .i64 x0.1, .slice a2 x0.2.length c3] .nil), fun z => [⟨.byte, ⟨a2, x0.2.length, c3⟩, x0.2⟩], fun z => [], fun z => 0⟩ ?_ ?_
          · refine JS.seq ?_
            refine JS.region ?_
            refine JO.reg ttOk 2 [] [] [(40, .v (.bool (decide (x0.1 = 1))))] _ rfl ⟨⟨rfl, trivial⟩, rfl⟩ ?_
            refine JO.done rfl ?_
            refine JS.cond rfl (fun ht62 => ?_) (fun ht62 => ?_)
            · have h := condT h ht62
              refine JS.skip ?_
              exact JS.endJ (decide (x0.1 = 1)) h ⟨rfl, rfl, trivial⟩ ⟨rfl, rfl, rfl, rfl, trivial⟩ [0] rfl [] rfl
            · have h := condF h ht62
              refine JS.seq ?_
              refine JS.region ?_
              refine JO.reg ttOk 2 [] [] [(40, .v (.bool (decide (x0.1 = 3))))] _ rfl ⟨⟨rfl, trivial⟩, rfl⟩ ?_
              refine JO.done rfl ?_
              refine JS.cond rfl (fun ht61 => ?_) (fun ht61 => ?_)
              · have h := condT h ht61
                refine JS.skip ?_
                exact JS.endJ (decide (x0.1 = 3)) h ⟨rfl, rfl, trivial⟩ ⟨rfl, rfl, rfl, rfl, trivial⟩ [0] rfl [] rfl
              · have h := condF h ht61
                refine JS.region ?_
                refine JO.reg ttOk 2 [] [] [(40, .v (.bool (decide (x0.1 = 4))))] _ rfl ⟨⟨rfl, trivial⟩, rfl⟩ ?_
                refine JO.done rfl ?_
                exact JS.endJ (decide (x0.1 = 4)) h ⟨rfl, rfl, trivial⟩ ⟨rfl, rfl, rfl, rfl, trivial⟩ [0] rfl [] rfl
          · rintro x35 h
            subst hj64
            refine JS.cond rfl (fun ht63 => ?_) (fun ht63 => ?_)
            · have h := condT h ht63
              refine JS.seq ?_
              refine JS.region ?_
              refine JO.reg ttOk 5 [] [] [(2, .v (.bool (decide ((x0.2.length : Int) = 0))))] _ rfl ⟨⟨rfl, trivial⟩, rfl⟩ ?_
              refine JO.done rfl ?_
              cases h
              exact JS.ret ttOk () trivial rfl rfl [] rfl
            · have h := condF h ht63
              refine JS.skip ?_
              refine JS.endB ?_
              exact JS.endJ () h trivial trivial [] rfl [] rfl
    · rintro _ h
      subst hj67
      refine JS.seq ?_
      refine JS.region ?_
      refine JO.reg ttOk 1 [] [] [(2, .v (.bool false))] _ rfl ⟨⟨rfl, trivial⟩, rfl⟩ ?_
      refine JO.done rfl ?_
      cases h
      exact JS.ret ttOk () trivial rfl rfl [] rfl

def M_i_copyBytes (x0 : List UInt8) : Option (List UInt8) :=
  (guardO (([] : List UInt8).length + x0.length ≤ 536870912) <|
  some (([] : List UInt8) ++ x0))

theorem ok_i_copyBytes (x0 : List UInt8) (a2 : Option Addr) (c3 : Nat) (l4 : Nat) (hl5 : x0.length = l4) (r : List UInt8) (h : M_i_copyBytes x0 = some r) :
    FC Try.prog 38 [.slice a2 l4 c3] [⟨.byte, ⟨a2, l4, c3⟩, x0⟩] (fun _ : Option Addr × Nat => True) (fun q => .slice q.1 r.length q.2) (fun q => [⟨.byte, ⟨q.1, r.length, q.2⟩, r⟩]) :=
  by
    subst hl5
    refine FC.of (T := TTx) Try.call38 Try.func38 rfl rfl fun w0 => ?_
    unfold M_i_copyBytes at h
    refine JS.seq ?_
    refine JS.region ?_
    refine JO.reg ttOk 1 [] [] [] _ rfl ⟨trivial, rfl⟩ ?_
    refine JO.done rfl ?_
    refine JS.seq ?_
    refine JS.region ?_
    refine JO.reg ttOk 1 [] [] [(3, .v (.slice a2 x0.length c3))] _ rfl ⟨⟨rfl, trivial⟩, rfl⟩ ?_
    obtain ⟨g6, h⟩ := guardO_some h
    refine JO.nilO .byte Sl.nil rfl rfl ?_
    refine JO.appendR' ttOk rfl rfl rfl rfl ⟨rfl, rfl, rfl, rfl, trivial, rfl, rfl, rfl, rfl⟩ rfl rfl rfl [0] rfl 0 rfl g6 rfl ?_
    intro a7 c8
    refine JO.reg ttOk 1 [] [] [(2, .v (.slice a7 (([] : List UInt8) ++ x0).length c8))] _ rfl ⟨⟨rfl, trivial⟩, rfl⟩ ?_
    refine JO.done rfl ?_
    cases h
    exact JS.ret ttOk (a7, c8) trivial rfl rfl [0] rfl

def M_i_bad : Option (Int × Int) :=
  some (16, 0)

theorem ok_i_bad (r : Int × Int) (h : M_i_bad = some r) :
    FC Try.prog 33 [] [] (fun _ : Unit => True) (fun _ => .agg #[.int .i64 r.1, .int .i64 r.2]) (fun _ => []) :=
  by
    refine FC.of (T := TTx) Try.call33 Try.func33 rfl rfl fun w0 => ?_
    unfold M_i_bad at h
    refine JS.seq ?_
    refine JS.region ?_
    refine JO.regB ttOk 1 [] [1] [(0, .bp 1 0)] (.new 1 40 [.int .i64 0, .int .i64 0] .nil) rfl ⟨⟨rfl, trivial⟩, ⟨rfl, rfl, rfl, rfl, trivial⟩⟩ ?_
    refine JO.done rfl ?_
    refine JS.seq ?_
    refine JS.region ?_
    refine JO.regB ttOk 2 [] [] [] (.new 1 40 [.int .i64 16, .int .i64 0] .nil) rfl ⟨trivial, ⟨rfl, rfl, rfl, rfl, trivial⟩⟩ ?_
    refine JO.done rfl ?_
    cases h
    exact JS.ret ttOk () trivial rfl rfl [] rfl

def M_i_arrow_L1 (x0 : Int) (j14 : Unit → Option (Int × Int)) (k10 : Int → Option (Int × Int)) : Int → Option (Int × Int) := fun x2 =>
  (bif (decide (x2 < 6)) then
  (guardO (0 ≤ x2 ∧ x2 < (([65, 66, 67, 68, 72, 70] : List UInt8).length : Int)) <|
  (bif (decide (((at' ([65, 66, 67, 68, 72, 70] : List UInt8) x2).toNat : Int) = x0)) then
  some ((W (8 + x2)), 0)
  else
  k10 (W (x2 + 1))))
  else
  j14 ())

def M_i_arrow (x0 : Int) : Option (Int × Int) :=
  (joinO (fun (_ : Unit) =>
  (bindO (M_i_bad ) fun (y17 : Int × Int) =>
  some y17)) fun j14 =>
  (fixF (M_i_arrow_L1 x0 j14) FUEL 0))

theorem ok_i_arrow (x0 : Int) (r : Int × Int) (h : M_i_arrow x0 = some r) :
    FC Try.prog 58 [.int .i64 x0] [] (fun _ : Unit => True) (fun _ => .agg #[.int .i64 r.1, .int .i64 r.2]) (fun _ => []) :=
  by
    refine FC.of (T := TTx) Try.call58 Try.func58 rfl rfl fun w0 => ?_
    unfold M_i_arrow at h
    refine JS.seq ?_
    refine JS.region ?_
    refine JO.regB ttOk 1 [] [1] [(2, .bp 1 0)] (.new 1 40 [.int .i64 0, .int .i64 0] .nil) rfl ⟨⟨rfl, trivial⟩, ⟨rfl, rfl, rfl, rfl, trivial⟩⟩ ?_
    refine JO.done rfl ?_
    refine JS.seq ?_
    refine JS.seq ?_
    refine JS.region ?_
    refine JO.reg ttOk 1 [] [] [(4, .v (.int .i64 0))] _ rfl ⟨⟨rfl, trivial⟩, rfl⟩ ?_
    refine JO.done rfl ?_
    obtain ⟨j14, hj22, h⟩ := joinO_some h
    refine JS.blockJ (ι := Unit) ⟨fun _ => j14 () = some r, fun _ => [(2, .bp 1 0)], fun _ => (.new 1 40 [.int .i64 0, .int .i64 0] .nil), fun _ => [], fun _ => [], fun _ => 0⟩ ?_ ?_
    · refine JS.loop (ι := Nat × Int) ⟨fun z => fixF (M_i_arrow_L1 x0 j14) z.1 z.2 = some r, fun z => [(0, .v (.int .i64 x0)), (2, .bp 1 0), (4, .v (.int .i64 z.2))], fun z => (.new 1 40 [.int .i64 0, .int .i64 0] .nil), fun z => [], fun z => [], fun z => z.1⟩ (FUEL, 0) h ⟨rfl, rfl, rfl, trivial⟩ ⟨rfl, rfl, rfl, rfl, trivial⟩ [] rfl [] rfl ?_
      rintro ⟨n11, x2⟩ h
      obtain ⟨n11, rfl, h⟩ := fixF_some h
      rw [M_i_arrow_L1] at h
      refine JS.seq ?_
      refine JS.region ?_
      refine JO.reg ttOk 1 [] [] [(5, .v (.bool (decide (x2 < 6))))] _ rfl ⟨⟨rfl, trivial⟩, rfl⟩ ?_
      refine JO.done rfl ?_
      refine JS.seq ?_
      refine JS.cond rfl (fun ht21 => ?_) (fun ht21 => ?_)
      · have h := condT h ht21
        refine JS.skip ?_
        refine JS.seq ?_
        refine JS.block ?_
        refine JS.seq ?_
        refine JS.region ?_
        refine JO.reg ttOk 2 [] [] [(3, .v (.int .i64 x2))] _ rfl ⟨⟨rfl, trivial⟩, rfl⟩ ?_
        refine JO.done rfl ?_
        refine JS.seq ?_
        refine JS.region ?_
        obtain ⟨g5, h⟩ := guardO_some h
        refine JO.reg ttOk 5 [((at' ([65, 66, 67, 68, 72, 70] : List UInt8) x2).toNat : Int)] [] [(11, .v (.bool (decide (((at' ([65, 66, 67, 68, 72, 70] : List UInt8) x2).toNat : Int) = x0))))] _ rfl ⟨g5, ⟨trivial, W_byte _⟩, ⟨rfl, trivial⟩, rfl⟩ ?_
        refine JO.done rfl ?_
        refine JS.cond rfl (fun ht20 => ?_) (fun ht20 => ?_)
        · have h := condT h ht20
          refine JS.seq ?_
          refine JS.region ?_
          refine JO.regB ttOk 4 [(W (8 + x2))] [] [] (.new 1 40 [.int .i64 (W (8 + x2)), .int .i64 0] .nil) rfl ⟨⟨trivial, rfl⟩, trivial, ⟨rfl, rfl, rfl, rfl, trivial⟩⟩ ?_
          refine JO.done rfl ?_
          cases h
          exact JS.ret ttOk () trivial rfl rfl [] rfl
        · have h := condF h ht20
          refine JS.skip ?_
          refine JS.endB ?_
          refine JS.region ?_
          refine JO.reg ttOk 2 [(W (x2 + 1))] [] [(4, .v (.int .i64 (W (x2 + 1))))] _ rfl ⟨⟨trivial, rfl⟩, ⟨rfl, trivial⟩, rfl⟩ ?_
          refine JO.done rfl ?_
          exact JS.endL (n11, (W (x2 + 1))) h (Nat.lt_succ_self _) ⟨rfl, rfl, rfl, trivial⟩ ⟨rfl, rfl, rfl, rfl, trivial⟩ [] rfl [] rfl
      · have h := condF h ht21
        refine JS.exit rfl ?_
        exact JS.endJ () h ⟨rfl, trivial⟩ ⟨rfl, rfl, rfl, rfl, trivial⟩ [] rfl [] rfl
    · rintro _ h
      subst hj22
      refine JS.seq ?_
      refine JS.region ?_
      obtain ⟨y17, hy18, h⟩ := bindO_some h
      refine JO.call rfl rfl rfl rfl (ok_i_bad  _ hy18) rfl [] rfl rfl ?_
      intro _ _
      refine JO.regB ttOk 1 [] [] [] (.new 1 40 [.int .i64 y17.1, .int .i64 y17.2] .nil) rfl ⟨trivial, ⟨rfl, rfl, rfl, rfl, trivial⟩⟩ ?_
      refine JO.done rfl ?_
      cases h
      exact JS.ret ttOk () trivial rfl rfl [] rfl

def M_i_decCsi (x0 : List UInt8) (x1 : Int) : Option ((Int × List UInt8) × List (Int × Int)) :=
  (bindO (M_i_isDigit x1) fun (y7 : Bool) =>
  (bif (bif y7 then true else (decide (x1 = 59))) then
  (bif (decide (8 ≤ (x0.length : Int))) then
  (bindO (M_i_bad ) fun (y9 : Int × Int) =>
  some ((4, []), ([y9] : List (Int × Int))))
  else
  (bindO (M_i_copyBytes x0) fun (y12 : List UInt8) =>
  (guardO (y12.length + ([(u8 (x1))] : List UInt8).length ≤ 536870912) <|
  some ((2, (y12 ++ ([(u8 (x1))] : List UInt8))), []))))
  else
  (bif (decide (x1 = 27)) then
  (bindO (M_i_bad ) fun (y21 : Int × Int) =>
  some ((1, []), ([y21] : List (Int × Int))))
  else
  (bif (decide ((x0.length : Int) = 0)) then
  (bindO (M_i_arrow x1) fun (y24 : Int × Int) =>
  some ((0, []), ([y24] : List (Int × Int))))
  else
  (joinO (fun (_ : Unit) =>
  (bindO (M_i_bad ) fun (y53 : Int × Int) =>
  some ((0, []), ([y53] : List (Int × Int))))) fun j44 =>
  (bif (decide (x1 = 126)) then
  (bif (decide (x0 = ([51] : List UInt8))) then
  some ((0, []), ([(14, 0)] : List (Int × Int)))
  else
  (joinO (fun (x29 : Bool) =>
  (bif x29 then
  some ((0, []), ([(12, 0)] : List (Int × Int)))
  else
  (joinO (fun (x34 : Bool) =>
  (bif x34 then
  some ((0, []), ([(13, 0)] : List (Int × Int)))
  else
  j44 ())) fun j35 =>
  (bif (decide (x0 = ([52] : List UInt8))) then
  j35 (decide (x0 = ([52] : List UInt8)))
  else
  j35 (decide (x0 = ([56] : List UInt8))))))) fun j30 =>
  (bif (decide (x0 = ([49] : List UInt8))) then
  j30 (decide (x0 = ([49] : List UInt8)))
  else
  j30 (decide (x0 = ([55] : List UInt8))))))
  else
  j44 ()))))))

theorem ok_i_decCsi (x0 : List UInt8) (x1 : Int) (a3 : Option Addr) (c4 : Nat) (l5 : Nat) (hl6 : x0.length = l5) (r : (Int × List UInt8) × List (Int × Int)) (h : M_i_decCsi x0 x1 = some r) :
    FC Try.prog 57 [.slice a3 l5 c4, .int .i64 x1] [⟨.byte, ⟨a3, l5, c4⟩, x0⟩] (fun _ : Option Addr × Nat × Option Addr × Nat => True) (fun q => .tuple #[.agg #[.int .i64 r.1.1, .slice q.1 r.1.2.length q.2.1], .slice q.2.2.1 r.2.length q.2.2.2]) (fun q => [⟨.byte, ⟨q.1, r.1.2.length, q.2.1⟩, r.1.2⟩, ⟨(.pair (.int .i64) (.int .i64)), ⟨q.2.2.1, r.2.length, q.2.2.2⟩, r.2⟩]) :=
  by
    subst hl6
    refine FC.of (T := TTx) Try.call57 Try.func57 rfl rfl fun w0 => ?_
    unfold M_i_decCsi at h
    refine JS.seq ?_
    refine JS.region ?_
    refine JO.regB ttOk 2 [] [2] [(4, .bp 2 0)] (.new 2 26 [.int .i64 0, .slice none 0 0] .nil) rfl ⟨⟨rfl, trivial⟩, ⟨rfl, rfl, rfl, rfl, trivial⟩⟩ ?_
    refine JO.done rfl ?_
    refine JS.seq ?_
    refine JS.block ?_
    refine JS.seq ?_
    refine JS.region ?_
    refine JO.reg ttOk 1 [] [] [(7, .v (.int .i64 x1))] _ rfl ⟨⟨rfl, trivial⟩, rfl⟩ ?_
    obtain ⟨y7, hy8, h⟩ := bindO_some h
    refine JO.call rfl rfl rfl rfl (ok_i_isDigit x1 _ hy8) rfl [] rfl rfl ?_
    intro _ _
    refine JO.reg ttOk 5 [] [] [(6, .v (.bool (bif y7 then true else (decide (x1 = 59)))))] _ rfl ⟨⟨rfl, trivial⟩, rfl⟩ ?_
    refine JO.done rfl ?_
    refine JS.cond rfl (fun ht72 => ?_) (fun ht72 => ?_)
    · have h := condT h ht72
      refine JS.seq ?_
      refine JS.seq ?_
      refine JS.region ?_
      refine JO.reg ttOk 3 [] [] [(15, .v (.bool (decide (8 ≤ (x0.length : Int)))))] _ rfl ⟨⟨rfl, trivial⟩, rfl⟩ ?_
      refine JO.done rfl ?_
      refine JS.cond rfl (fun ht60 => ?_) (fun ht60 => ?_)
      · have h := condT h ht60
        refine JS.seq ?_
        refine JS.region ?_
        refine JO.reg ttOk 1 [] [] [(16, .v (.agg #[.int .i64 4, .slice none 0 0]))] _ rfl ⟨⟨rfl, trivial⟩, rfl⟩ ?_
        obtain ⟨y9, hy10, h⟩ := bindO_some h
        refine JO.call rfl rfl rfl rfl (ok_i_bad  _ hy10) rfl [] rfl rfl ?_
        intro _ _
        refine JO.ofK rfl (JK.buildSlice ttOk rfl rfl rfl rfl rfl rfl rfl rfl rfl rfl rfl [] rfl (.pair (.int .i64) (.int .i64)) [y9] ⟨rfl, rfl⟩ rfl rfl fun a11 => JO.toK ?_)
        refine JO.regB ttOk 2 [] [] [(5, .v (.slice a11 ([y9] : List (Int × Int)).length ([y9] : List (Int × Int)).length))] (.new 2 26 [.int .i64 4, .slice none 0 0] .nil) rfl ⟨⟨rfl, trivial⟩, ⟨rfl, rfl, rfl, rfl, trivial⟩⟩ ?_
        refine JO.done rfl ?_
        cases h
        refine JS.nilO .byte Sl.nil rfl rfl ?_
        exact JS.ret ttOk (none, 0, a11, ([y9] : List (Int × Int)).length) trivial rfl rfl [0, 0] rfl
      · have h := condF h ht60
        refine JS.skip ?_
        refine JS.seq ?_
        refine JS.region ?_
        refine JO.reg ttOk 1 [] [] [(19, .v (.slice a3 x0.length c4))] _ rfl ⟨⟨rfl, trivial⟩, rfl⟩ ?_
        obtain ⟨y12, hy13, h⟩ := bindO_some h
        refine JO.call rfl rfl rfl rfl (ok_i_copyBytes x0 a3 c4 x0.length rfl _ hy13) rfl [0] rfl rfl ?_
        rintro ⟨a14, c15⟩ -
        refine JO.reg ttOk 2 [((u8 (x1)).toNat : Int)] [] [(22, .v (.int .u8 ((u8 (x1)).toNat : Int)))] _ rfl ⟨⟨trivial, u8_wrap _⟩, ⟨rfl, trivial⟩, rfl⟩ ?_
        refine JO.ofK rfl (JK.buildSlice ttOk rfl rfl rfl rfl rfl rfl rfl rfl rfl rfl rfl [] rfl .byte [(u8 (x1))] ⟨rfl, rfl⟩ rfl rfl fun a16 => JO.toK ?_)
        obtain ⟨g17, h⟩ := guardO_some h
        refine JO.appendR' ttOk rfl rfl rfl rfl ⟨rfl, rfl, rfl, rfl, trivial, rfl, rfl, rfl, rfl⟩ rfl rfl rfl [1] rfl 1 rfl g17 rfl ?_
        intro a18 c19
        refine JO.regB ttOk 3 [] [] [(5, .v (.slice none 0 0))] (.new 2 26 [.int .i64 2, .slice a18 (y12 ++ ([(u8 (x1))] : List UInt8)).length c19] .nil) rfl ⟨⟨rfl, trivial⟩, ⟨rfl, rfl, rfl, rfl, trivial⟩⟩ ?_
        refine JO.done rfl ?_
        cases h
        refine JS.nilO (.pair (.int .i64) (.int .i64)) Sl.nil rfl rfl ?_
        exact JS.ret ttOk (a18, c19, none, 0) trivial rfl rfl [1, 0] rfl
    · have h := condF h ht72
      refine JS.seq ?_
      refine JS.region ?_
      refine JO.reg ttOk 3 [] [] [(26, .v (.bool (decide (x1 = 27))))] _ rfl ⟨⟨rfl, trivial⟩, rfl⟩ ?_
      refine JO.done rfl ?_
      refine JS.cond rfl (fun ht71 => ?_) (fun ht71 => ?_)
      · have h := condT h ht71
        refine JS.seq ?_
        refine JS.region ?_
        refine JO.reg ttOk 1 [] [] [(29, .v (.agg #[.int .i64 1, .slice none 0 0]))] _ rfl ⟨⟨rfl, trivial⟩, rfl⟩ ?_
        obtain ⟨y21, hy22, h⟩ := bindO_some h
        refine JO.call rfl rfl rfl rfl (ok_i_bad  _ hy22) rfl [] rfl rfl ?_
        intro _ _
        refine JO.ofK rfl (JK.buildSlice ttOk rfl rfl rfl rfl rfl rfl rfl rfl rfl rfl rfl [] rfl (.pair (.int .i64) (.int .i64)) [y21] ⟨rfl, rfl⟩ rfl rfl fun a23 => JO.toK ?_)
        refine JO.regB ttOk 2 [] [] [(5, .v (.slice a23 ([y21] : List (Int × Int)).length ([y21] : List (Int × Int)).length))] (.new 2 26 [.int .i64 1, .slice none 0 0] .nil) rfl ⟨⟨rfl, trivial⟩, ⟨rfl, rfl, rfl, rfl, trivial⟩⟩ ?_
        refine JO.done rfl ?_
        cases h
        refine JS.nilO .byte Sl.nil rfl rfl ?_
        exact JS.ret ttOk (none, 0, a23, ([y21] : List (Int × Int)).length) trivial rfl rfl [0, 0] rfl
      · have h := condF h ht71
        refine JS.seq ?_
        refine JS.region ?_
        refine JO.reg ttOk 4 [] [] [(32, .v (.bool (decide ((x0.length : Int) = 0))))] _ rfl ⟨⟨rfl, trivial⟩, rfl⟩ ?_
        refine JO.done rfl ?_
        refine JS.cond rfl (fun ht70 => ?_) (fun ht70 => ?_)
        · have h := condT h ht70
          refine JS.seq ?_
          refine JS.region ?_
          refine JO.reg ttOk 2 [] [] [(36, .v (.agg #[.int .i64 0, .slice none 0 0])), (37, .v (.int .i64 x1))] _ rfl ⟨⟨rfl, rfl, trivial⟩, rfl⟩ ?_
          obtain ⟨y24, hy25, h⟩ := bindO_some h
          refine JO.call rfl rfl rfl rfl (ok_i_arrow x1 _ hy25) rfl [] rfl rfl ?_
          intro _ _
          refine JO.ofK rfl (JK.buildSlice ttOk rfl rfl rfl rfl rfl rfl rfl rfl rfl rfl rfl [] rfl (.pair (.int .i64) (.int .i64)) [y24] ⟨rfl, rfl⟩ rfl rfl fun a26 => JO.toK ?_)
          refine JO.regB ttOk 2 [] [] [(5, .v (.slice a26 ([y24] : List (Int × Int)).length ([y24] : List (Int × Int)).length))] (.new 2 26 [.int .i64 0, .slice none 0 0] .nil) rfl ⟨⟨rfl, trivial⟩, ⟨rfl, rfl, rfl, rfl, trivial⟩⟩ ?_
          refine JO.done rfl ?_
          cases h
          refine JS.nilO .byte Sl.nil rfl rfl ?_
          exact JS.ret ttOk (none, 0, a26, ([y24] : List (Int × Int)).length) trivial rfl rfl [0, 0] rfl
        · have h := condF h ht70
          refine JS.skip ?_
          refine JS.endB ?_
          obtain ⟨j44, hj69, h⟩ := joinO_some h
          refine JS.seqJ (ι := Unit) ⟨fun _ => j44 () = some r, fun _ => [(4, .bp 2 0)], fun _ => (.new 2 26 [.int .i64 0, .slice none 0 0] .nil), fun _ => [], fun _ => [], fun _ => 0⟩ ?_ ?_
          · refine JS.seq ?_
            refine JS.region ?_
            refine JO.reg ttOk 2 [] [] [(41, .v (.bool (decide (x1 = 126))))] _ rfl ⟨⟨rfl, trivial⟩, rfl⟩ ?_
            refine JO.done rfl ?_
            refine JS.cond rfl (fun ht68 => ?_) (fun ht68 => ?_)
            · have h := condT h ht68
              refine JS.seq ?_
              refine JS.region ?_
              refine JO.reg ttOk 1 [] [] [(42, .v (.slice a3 x0.length c4))] _ rfl ⟨⟨rfl, trivial⟩, rfl⟩ ?_
              refine JO.strOf ttOk rfl rfl rfl rfl rfl rfl rfl rfl 0 rfl rfl ?_
              refine JO.done rfl ?_
              refine JS.block ?_
              refine JS.seq ?_
              refine JS.region ?_
              refine JO.reg ttOk 2 [] [] [(44, .v (.bool (decide (x0 = ([51] : List UInt8)))))] _ rfl ⟨⟨rfl, trivial⟩, rfl⟩ ?_
              refine JO.done rfl ?_
              refine JS.cond rfl (fun ht67 => ?_) (fun ht67 => ?_)
              · have h := condT h ht67
                refine JS.seq ?_
                refine JS.region ?_
                refine JO.reg ttOk 2 [] [] [(46, .v (.agg #[.int .i64 0, .slice none 0 0])), (47, .v (.agg #[.int .i64 14, .int .i64 0]))] _ rfl ⟨⟨rfl, rfl, trivial⟩, rfl⟩ ?_
                refine JO.ofK rfl (JK.buildSlice ttOk rfl rfl rfl rfl rfl rfl rfl rfl rfl rfl rfl [] rfl (.pair (.int .i64) (.int .i64)) [(14, 0)] ⟨rfl, rfl⟩ rfl rfl fun a27 => JO.toK ?_)
                refine JO.regB ttOk 2 [] [] [(5, .v (.slice a27 ([(14, 0)] : List (Int × Int)).length ([(14, 0)] : List (Int × Int)).length))] (.new 2 26 [.int .i64 0, .slice none 0 0] .nil) rfl ⟨⟨rfl, trivial⟩, ⟨rfl, rfl, rfl, rfl, trivial⟩⟩ ?_
                refine JO.done rfl ?_
                cases h
                refine JS.nilO .byte Sl.nil rfl rfl ?_
                exact JS.ret ttOk (none, 0, a27, ([(14, 0)] : List (Int × Int)).length) trivial rfl rfl [0, 0] rfl
              · have h := condF h ht67
                obtain ⟨j30, hj66, h⟩ := joinO_some h
                refine JS.seqJ (ι := Bool) ⟨fun z => j30 z = some r, fun z => [(4, .bp 2 0), (43, .v (.string (bs x0))), (49, .v (.bool z))], fun z => (.new 2 26 [.int .i64 0, .slice none 0 0] .nil), fun z => [], fun z => [], fun z => 0⟩ ?_ ?_
                · refine JS.seq ?_
                  refine JS.region ?_
                  refine JO.reg ttOk 2 [] [] [(49, .v (.bool (decide (x0 = ([49] : List UInt8)))))] _ rfl ⟨⟨rfl, trivial⟩, rfl⟩ ?_
                  refine JO.done rfl ?_
                  refine JS.cond rfl (fun ht61 => ?_) (fun ht61 => ?_)
                  · have h := condT h ht61
                    refine JS.skip ?_
                    exact JS.endJ (decide (x0 = ([49] : List UInt8))) h ⟨rfl, rfl, rfl, trivial⟩ ⟨rfl, rfl, rfl, rfl, trivial⟩ [] rfl [] rfl
                  · have h := condF h ht61
                    refine JS.region ?_
                    refine JO.reg ttOk 2 [] [] [(49, .v (.bool (decide (x0 = ([55] : List UInt8)))))] _ rfl ⟨⟨rfl, trivial⟩, rfl⟩ ?_
                    refine JO.done rfl ?_
                    exact JS.endJ (decide (x0 = ([55] : List UInt8))) h ⟨rfl, rfl, rfl, trivial⟩ ⟨rfl, rfl, rfl, rfl, trivial⟩ [] rfl [] rfl
                · rintro x29 h
                  subst hj66
                  refine JS.cond rfl (fun ht65 => ?_) (fun ht65 => ?_)
                  · have h := condT h ht65
                    refine JS.seq ?_
                    refine JS.region ?_
                    refine JO.reg ttOk 2 [] [] [(52, .v (.agg #[.int .i64 0, .slice none 0 0])), (53, .v (.agg #[.int .i64 12, .int .i64 0]))] _ rfl ⟨⟨rfl, rfl, trivial⟩, rfl⟩ ?_
                    refine JO.ofK rfl (JK.buildSlice ttOk rfl rfl rfl rfl rfl rfl rfl rfl rfl rfl rfl [] rfl (.pair (.int .i64) (.int .i64)) [(12, 0)] ⟨rfl, rfl⟩ rfl rfl fun a32 => JO.toK ?_)
                    refine JO.regB ttOk 2 [] [] [(5, .v (.slice a32 ([(12, 0)] : List (Int × Int)).length ([(12, 0)] : List (Int × Int)).length))] (.new 2 26 [.int .i64 0, .slice none 0 0] .nil) rfl ⟨⟨rfl, trivial⟩, ⟨rfl, rfl, rfl, rfl, trivial⟩⟩ ?_
                    refine JO.done rfl ?_
                    cases h
                    refine JS.nilO .byte Sl.nil rfl rfl ?_
                    exact JS.ret ttOk (none, 0, a32, ([(12, 0)] : List (Int × Int)).length) trivial rfl rfl [0, 0] rfl
                  · have h := condF h ht65
                    obtain ⟨j35, hj64, h⟩ := joinO_some h
                    refine JS.seqJ (ι := Bool) ⟨fun z => j35 z = some r, fun z => [(4, .bp 2 0), (55, .v (.bool z))], fun z => (.new 2 26 [.int .i64 0, .slice none 0 0] .nil), fun z => [], fun z => [], fun z => 0⟩ ?_ ?_
                    · refine JS.seq ?_
                      refine JS.region ?_
                      refine JO.reg ttOk 2 [] [] [(55, .v (.bool (decide (x0 = ([52] : List UInt8)))))] _ rfl ⟨⟨rfl, trivial⟩, rfl⟩ ?_
                      refine JO.done rfl ?_
                      refine JS.cond rfl (fun ht62 => ?_) (fun ht62 => ?_)
                      · have h := condT h ht62
                        refine JS.skip ?_
                        exact JS.endJ (decide (x0 = ([52] : List UInt8))) h ⟨rfl, rfl, trivial⟩ ⟨rfl, rfl, rfl, rfl, trivial⟩ [] rfl [] rfl
                      · have h := condF h ht62
                        refine JS.region ?_
                        refine JO.reg ttOk 2 [] [] [(55, .v (.bool (decide (x0 = ([56] : List UInt8)))))] _ rfl ⟨⟨rfl, trivial⟩, rfl⟩ ?_
                        refine JO.done rfl ?_
                        exact JS.endJ (decide (x0 = ([56] : List UInt8))) h ⟨rfl, rfl, trivial⟩ ⟨rfl, rfl, rfl, rfl, trivial⟩ [] rfl [] rfl
                    · rintro x34 h
                      subst hj64
                      refine JS.cond rfl (fun ht63 => ?_) (fun ht63 => ?_)
                      · have h := condT h ht63
                        refine JS.seq ?_
                        refine JS.region ?_
                        refine JO.reg ttOk 2 [] [] [(58, .v (.agg #[.int .i64 0, .slice none 0 0])), (59, .v (.agg #[.int .i64 13, .int .i64 0]))] _ rfl ⟨⟨rfl, rfl, trivial⟩, rfl⟩ ?_
                        refine JO.ofK rfl (JK.buildSlice ttOk rfl rfl rfl rfl rfl rfl rfl rfl rfl rfl rfl [] rfl (.pair (.int .i64) (.int .i64)) [(13, 0)] ⟨rfl, rfl⟩ rfl rfl fun a37 => JO.toK ?_)
                        refine JO.regB ttOk 2 [] [] [(5, .v (.slice a37 ([(13, 0)] : List (Int × Int)).length ([(13, 0)] : List (Int × Int)).length))] (.new 2 26 [.int .i64 0, .slice none 0 0] .nil) rfl ⟨⟨rfl, trivial⟩, ⟨rfl, rfl, rfl, rfl, trivial⟩⟩ ?_
                        refine JO.done rfl ?_
                        cases h
                        refine JS.nilO .byte Sl.nil rfl rfl ?_
                        exact JS.ret ttOk (none, 0, a37, ([(13, 0)] : List (Int × Int)).length) trivial rfl rfl [0, 0] rfl
                      · have h := condF h ht63
                        refine JS.skip ?_
                        refine JS.endB ?_
                        exact JS.endJ () h ⟨rfl, trivial⟩ ⟨rfl, rfl, rfl, rfl, trivial⟩ [] rfl [] rfl
            · have h := condF h ht68
              refine JS.skip ?_
              exact JS.endJ () h ⟨rfl, trivial⟩ ⟨rfl, rfl, rfl, rfl, trivial⟩ [] rfl [] rfl
          · rintro _ h
            subst hj69
            refine JS.seq ?_
            refine JS.region ?_
            refine JO.reg ttOk 1 [] [] [(61, .v (.agg #[.int .i64 0, .slice none 0 0]))] _ rfl ⟨⟨rfl, trivial⟩, rfl⟩ ?_
            obtain ⟨y53, hy54, h⟩ := bindO_some h
            refine JO.call rfl rfl rfl rfl (ok_i_bad  _ hy54) rfl [] rfl rfl ?_
            intro _ _
            refine JO.ofK rfl (JK.buildSlice ttOk rfl rfl rfl rfl rfl rfl rfl rfl rfl rfl rfl [] rfl (.pair (.int .i64) (.int .i64)) [y53] ⟨rfl, rfl⟩ rfl rfl fun a55 => JO.toK ?_)
            refine JO.regB ttOk 2 [] [] [(5, .v (.slice a55 ([y53] : List (Int × Int)).length ([y53] : List (Int × Int)).length))] (.new 2 26 [.int .i64 0, .slice none 0 0] .nil) rfl ⟨⟨rfl, trivial⟩, ⟨rfl, rfl, rfl, rfl, trivial⟩⟩ ?_
            refine JO.done rfl ?_
            cases h
            refine JS.nilO .byte Sl.nil rfl rfl ?_
            exact JS.ret ttOk (none, 0, a55, ([y53] : List (Int × Int)).length) trivial rfl rfl [0, 0] rfl

def M_i_ByteKey (x0 : Int) : Option (Int × Int) :=
  (bindO (M_i_in x0 0 127) fun (y2 : Bool) =>
  (bif (!y2) then
  some (0, 0)
  else
  (bif (bif (decide (x0 = 8)) then true else (decide (x0 = 127))) then
  some (5, 0)
  else
  (bif (decide (x0 = 9)) then
  some (6, 0)
  else
  (bif (bif (decide (x0 = 10)) then true else (decide (x0 = 13))) then
  some (4, 0)
  else
  (bif (decide (x0 = 27)) then
  some (7, 0)
  else
  (bif (decide (x0 = 31)) then
  some (2, 95)
  else
  (bindO (M_i_in x0 1 26) fun (y4 : Bool) =>
  (bif y4 then
  some (2, (W (x0 + 96)))
  else
  (bif (decide (32 ≤ x0)) then
  some (1, x0)
  else
  some (16, 0)))))))))))

theorem ok_i_ByteKey (x0 : Int) (r : Int × Int) (h : M_i_ByteKey x0 = some r) :
    FC Try.prog 64 [.int .i64 x0] [] (fun _ : Unit => True) (fun _ => .agg #[.int .i64 r.1, .int .i64 r.2]) (fun _ => []) :=
  by
    refine FC.of (T := TTx) Try.call64 Try.func64 rfl rfl fun w0 => ?_
    unfold M_i_ByteKey at h
    refine JS.seq ?_
    refine JS.region ?_
    refine JO.regB ttOk 1 [] [1] [(2, .bp 1 0)] (.new 1 40 [.int .i64 0, .int .i64 0] .nil) rfl ⟨⟨rfl, trivial⟩, ⟨rfl, rfl, rfl, rfl, trivial⟩⟩ ?_
    refine JO.done rfl ?_
    refine JS.seq ?_
    refine JS.block ?_
    refine JS.seq ?_
    refine JS.region ?_
    refine JO.reg ttOk 1 [] [] [(4, .v (.int .i64 x0))] _ rfl ⟨⟨rfl, trivial⟩, rfl⟩ ?_
    obtain ⟨y2, hy3, h⟩ := bindO_some h
    refine JO.call rfl rfl rfl rfl (ok_i_in x0 0 127 _ hy3) rfl [] rfl rfl ?_
    intro _ _
    refine JO.reg ttOk 2 [] [] [(3, .v (.bool (!y2)))] _ rfl ⟨⟨rfl, trivial⟩, rfl⟩ ?_
    refine JO.done rfl ?_
    refine JS.cond rfl (fun ht21 => ?_) (fun ht21 => ?_)
    · have h := condT h ht21
      refine JS.seq ?_
      refine JS.region ?_
      refine JO.regB ttOk 2 [] [] [] (.new 1 40 [.int .i64 0, .int .i64 0] .nil) rfl ⟨trivial, ⟨rfl, rfl, rfl, rfl, trivial⟩⟩ ?_
      refine JO.done rfl ?_
      cases h
      exact JS.ret ttOk () trivial rfl rfl [] rfl
    · have h := condF h ht21
      refine JS.seq ?_
      refine JS.region ?_
      refine JO.reg ttOk 7 [] [] [(8, .v (.bool (bif (decide (x0 = 8)) then true else (decide (x0 = 127)))))] _ rfl ⟨⟨rfl, trivial⟩, rfl⟩ ?_
      refine JO.done rfl ?_
      refine JS.cond rfl (fun ht20 => ?_) (fun ht20 => ?_)
      · have h := condT h ht20
        refine JS.seq ?_
        refine JS.region ?_
        refine JO.regB ttOk 2 [] [] [] (.new 1 40 [.int .i64 5, .int .i64 0] .nil) rfl ⟨trivial, ⟨rfl, rfl, rfl, rfl, trivial⟩⟩ ?_
        refine JO.done rfl ?_
        cases h
        exact JS.ret ttOk () trivial rfl rfl [] rfl
      · have h := condF h ht20
        refine JS.seq ?_
        refine JS.region ?_
        refine JO.reg ttOk 3 [] [] [(16, .v (.bool (decide (x0 = 9))))] _ rfl ⟨⟨rfl, trivial⟩, rfl⟩ ?_
        refine JO.done rfl ?_
        refine JS.cond rfl (fun ht19 => ?_) (fun ht19 => ?_)
        · have h := condT h ht19
          refine JS.seq ?_
          refine JS.region ?_
          refine JO.regB ttOk 2 [] [] [] (.new 1 40 [.int .i64 6, .int .i64 0] .nil) rfl ⟨trivial, ⟨rfl, rfl, rfl, rfl, trivial⟩⟩ ?_
          refine JO.done rfl ?_
          cases h
          exact JS.ret ttOk () trivial rfl rfl [] rfl
        · have h := condF h ht19
          refine JS.seq ?_
          refine JS.region ?_
          refine JO.reg ttOk 7 [] [] [(20, .v (.bool (bif (decide (x0 = 10)) then true else (decide (x0 = 13)))))] _ rfl ⟨⟨rfl, trivial⟩, rfl⟩ ?_
          refine JO.done rfl ?_
          refine JS.cond rfl (fun ht18 => ?_) (fun ht18 => ?_)
          · have h := condT h ht18
            refine JS.seq ?_
            refine JS.region ?_
            refine JO.regB ttOk 2 [] [] [] (.new 1 40 [.int .i64 4, .int .i64 0] .nil) rfl ⟨trivial, ⟨rfl, rfl, rfl, rfl, trivial⟩⟩ ?_
            refine JO.done rfl ?_
            cases h
            exact JS.ret ttOk () trivial rfl rfl [] rfl
          · have h := condF h ht18
            refine JS.seq ?_
            refine JS.region ?_
            refine JO.reg ttOk 3 [] [] [(28, .v (.bool (decide (x0 = 27))))] _ rfl ⟨⟨rfl, trivial⟩, rfl⟩ ?_
            refine JO.done rfl ?_
            refine JS.cond rfl (fun ht17 => ?_) (fun ht17 => ?_)
            · have h := condT h ht17
              refine JS.seq ?_
              refine JS.region ?_
              refine JO.regB ttOk 2 [] [] [] (.new 1 40 [.int .i64 7, .int .i64 0] .nil) rfl ⟨trivial, ⟨rfl, rfl, rfl, rfl, trivial⟩⟩ ?_
              refine JO.done rfl ?_
              cases h
              exact JS.ret ttOk () trivial rfl rfl [] rfl
            · have h := condF h ht17
              refine JS.seq ?_
              refine JS.region ?_
              refine JO.reg ttOk 3 [] [] [(32, .v (.bool (decide (x0 = 31))))] _ rfl ⟨⟨rfl, trivial⟩, rfl⟩ ?_
              refine JO.done rfl ?_
              refine JS.cond rfl (fun ht16 => ?_) (fun ht16 => ?_)
              · have h := condT h ht16
                refine JS.seq ?_
                refine JS.region ?_
                refine JO.regB ttOk 2 [] [] [] (.new 1 40 [.int .i64 2, .int .i64 95] .nil) rfl ⟨trivial, ⟨rfl, rfl, rfl, rfl, trivial⟩⟩ ?_
                refine JO.done rfl ?_
                cases h
                exact JS.ret ttOk () trivial rfl rfl [] rfl
              · have h := condF h ht16
                refine JS.seq ?_
                refine JS.region ?_
                refine JO.reg ttOk 1 [] [] [(37, .v (.int .i64 x0))] _ rfl ⟨⟨rfl, trivial⟩, rfl⟩ ?_
                obtain ⟨y4, hy5, h⟩ := bindO_some h
                refine JO.call rfl rfl rfl rfl (ok_i_in x0 1 26 _ hy5) rfl [] rfl rfl ?_
                intro _ _
                refine JO.reg ttOk 1 [] [] [(36, .v (.bool y4))] _ rfl ⟨⟨rfl, trivial⟩, rfl⟩ ?_
                refine JO.done rfl ?_
                refine JS.cond rfl (fun ht15 => ?_) (fun ht15 => ?_)
                · have h := condT h ht15
                  refine JS.seq ?_
                  refine JS.region ?_
                  refine JO.regB ttOk 4 [(W (x0 + 96))] [] [] (.new 1 40 [.int .i64 2, .int .i64 (W (x0 + 96))] .nil) rfl ⟨⟨trivial, rfl⟩, trivial, ⟨rfl, rfl, rfl, rfl, trivial⟩⟩ ?_
                  refine JO.done rfl ?_
                  cases h
                  exact JS.ret ttOk () trivial rfl rfl [] rfl
                · have h := condF h ht15
                  refine JS.seq ?_
                  refine JS.region ?_
                  refine JO.reg ttOk 3 [] [] [(42, .v (.bool (decide (32 ≤ x0))))] _ rfl ⟨⟨rfl, trivial⟩, rfl⟩ ?_
                  refine JO.done rfl ?_
                  refine JS.cond rfl (fun ht14 => ?_) (fun ht14 => ?_)
                  · have h := condT h ht14
                    refine JS.seq ?_
                    refine JS.region ?_
                    refine JO.regB ttOk 3 [] [] [] (.new 1 40 [.int .i64 1, .int .i64 x0] .nil) rfl ⟨trivial, ⟨rfl, rfl, rfl, rfl, trivial⟩⟩ ?_
                    refine JO.done rfl ?_
                    cases h
                    exact JS.ret ttOk () trivial rfl rfl [] rfl
                  · have h := condF h ht14
                    refine JS.skip ?_
                    refine JS.endB ?_
                    refine JS.seq ?_
                    refine JS.region ?_
                    refine JO.regB ttOk 2 [] [] [] (.new 1 40 [.int .i64 16, .int .i64 0] .nil) rfl ⟨trivial, ⟨rfl, rfl, rfl, rfl, trivial⟩⟩ ?_
                    refine JO.done rfl ?_
                    cases h
                    exact JS.ret ttOk () trivial rfl rfl [] rfl

def M_i_RuneOk (x0 : Int) : Option Bool :=
  (bindO (M_i_in x0 0 1114111) fun (y2 : Bool) =>
  (callO (y2 = true) (M_i_in x0 55296 57343) false fun (y4 : Bool) =>
  some (bif y2 then (!y4) else false)))

theorem ok_i_RuneOk (x0 : Int) (r : Bool) (h : M_i_RuneOk x0 = some r) :
    FC Try.prog 59 [.int .i64 x0] [] (fun _ : Unit => True) (fun _ => .bool r) (fun _ => []) :=
  by
    refine FC.of (T := TTx) Try.call59 Try.func59 rfl rfl fun w0 => ?_
    unfold M_i_RuneOk at h
    refine JS.seq ?_
    refine JS.region ?_
    refine JO.reg ttOk 1 [] [] [] _ rfl ⟨trivial, rfl⟩ ?_
    refine JO.done rfl ?_
    refine JS.seq ?_
    refine JS.region ?_
    refine JO.reg ttOk 1 [] [] [(3, .v (.int .i64 x0))] _ rfl ⟨⟨rfl, trivial⟩, rfl⟩ ?_
    obtain ⟨y2, hy3, h⟩ := bindO_some h
    refine JO.call rfl rfl rfl rfl (ok_i_in x0 0 1114111 _ hy3) rfl [] rfl rfl ?_
    intro _ _
    refine JO.reg ttOk 2 [] [] [(5, .v (.bool y2)), (6, .cd [(5, true)] (.v (.int .i64 x0)))] _ rfl ⟨⟨rfl, rfl, trivial⟩, rfl⟩ ?_
    obtain ⟨y4, hy5, -, h⟩ := callO_some h
    refine JO.callg rfl rfl rfl rfl (fun q7 => ok_i_in x0 55296 57343 _ (hy5 q7)) rfl [] rfl rfl ?_
    refine JO.reg ttOk 3 [] [] [(2, .v (.bool (bif y2 then (!y4) else false)))] _ rfl ⟨⟨rfl, trivial⟩, rfl⟩ ?_
    refine JO.done rfl ?_
    cases h
    exact JS.ret ttOk () trivial rfl rfl [] rfl

def M_i_RuneBytes (x0 : Int) : Option (List UInt8) :=
  (bindO (M_i_RuneOk x0) fun (y2 : Bool) =>
  (bif (!y2) then
  some ([])
  else
  (bif (decide (x0 < 128)) then
  some ([(u8 (x0))] : List UInt8)
  else
  (bif (decide (x0 < 2048)) then
  some ([(u8 ((W (192 + (W (Int.tdiv x0 64)))))), (u8 ((W (128 + (Int.tmod x0 64)))))] : List UInt8)
  else
  (bif (decide (x0 < 65536)) then
  some ([(u8 ((W (224 + (W (Int.tdiv x0 4096)))))), (u8 ((W (128 + (Int.tmod (W (Int.tdiv x0 64)) 64))))), (u8 ((W (128 + (Int.tmod x0 64)))))] : List UInt8)
  else
  some ([(u8 ((W (240 + (W (Int.tdiv x0 262144)))))), (u8 ((W (128 + (Int.tmod (W (Int.tdiv x0 4096)) 64))))), (u8 ((W (128 + (Int.tmod (W (Int.tdiv x0 64)) 64))))), (u8 ((W (128 + (Int.tmod x0 64)))))] : List UInt8))))))

theorem ok_i_RuneBytes (x0 : Int) (r : List UInt8) (h : M_i_RuneBytes x0 = some r) :
    FC Try.prog 47 [.int .i64 x0] [] (fun _ : Option Addr × Nat => True) (fun q => .slice q.1 r.length q.2) (fun q => [⟨.byte, ⟨q.1, r.length, q.2⟩, r⟩]) :=
  by
    refine FC.of (T := TTx) Try.call47 Try.func47 rfl rfl fun w0 => ?_
    unfold M_i_RuneBytes at h
    refine JS.seq ?_
    refine JS.region ?_
    refine JO.reg ttOk 1 [] [] [] _ rfl ⟨trivial, rfl⟩ ?_
    refine JO.done rfl ?_
    refine JS.seq ?_
    refine JS.block ?_
    refine JS.seq ?_
    refine JS.region ?_
    refine JO.reg ttOk 1 [] [] [(4, .v (.int .i64 x0))] _ rfl ⟨⟨rfl, trivial⟩, rfl⟩ ?_
    obtain ⟨y2, hy3, h⟩ := bindO_some h
    refine JO.call rfl rfl rfl rfl (ok_i_RuneOk x0 _ hy3) rfl [] rfl rfl ?_
    intro _ _
    refine JO.reg ttOk 2 [] [] [(3, .v (.bool (!y2)))] _ rfl ⟨⟨rfl, trivial⟩, rfl⟩ ?_
    refine JO.done rfl ?_
    refine JS.cond rfl (fun ht27 => ?_) (fun ht27 => ?_)
    · have h := condT h ht27
      refine JS.seq ?_
      refine JS.region ?_
      refine JO.reg ttOk 1 [] [] [(2, .v (.slice none 0 0))] _ rfl ⟨⟨rfl, trivial⟩, rfl⟩ ?_
      refine JO.done rfl ?_
      cases h
      refine JS.nilO .byte Sl.nil rfl rfl ?_
      exact JS.ret ttOk (none, 0) trivial rfl rfl [0] rfl
    · have h := condF h ht27
      refine JS.seq ?_
      refine JS.region ?_
      refine JO.reg ttOk 3 [] [] [(7, .v (.bool (decide (x0 < 128))))] _ rfl ⟨⟨rfl, trivial⟩, rfl⟩ ?_
      refine JO.done rfl ?_
      refine JS.cond rfl (fun ht26 => ?_) (fun ht26 => ?_)
      · have h := condT h ht26
        refine JS.seq ?_
        refine JS.region ?_
        refine JO.reg ttOk 2 [((u8 (x0)).toNat : Int)] [] [(11, .v (.int .u8 ((u8 (x0)).toNat : Int)))] _ rfl ⟨⟨trivial, u8_wrap _⟩, ⟨rfl, trivial⟩, rfl⟩ ?_
        refine JO.ofK rfl (JK.buildSlice ttOk rfl rfl rfl rfl rfl rfl rfl rfl rfl rfl rfl [] rfl .byte [(u8 (x0))] ⟨rfl, rfl⟩ rfl rfl fun a4 => JO.toK ?_)
        refine JO.reg ttOk 1 [] [] [(2, .v (.slice a4 ([(u8 (x0))] : List UInt8).length ([(u8 (x0))] : List UInt8).length))] _ rfl ⟨⟨rfl, trivial⟩, rfl⟩ ?_
        refine JO.done rfl ?_
        cases h
        exact JS.ret ttOk (a4, ([(u8 (x0))] : List UInt8).length) trivial rfl rfl [0] rfl
      · have h := condF h ht26
        refine JS.seq ?_
        refine JS.region ?_
        refine JO.reg ttOk 3 [] [] [(13, .v (.bool (decide (x0 < 2048))))] _ rfl ⟨⟨rfl, trivial⟩, rfl⟩ ?_
        refine JO.done rfl ?_
        refine JS.cond rfl (fun ht25 => ?_) (fun ht25 => ?_)
        · have h := condT h ht25
          refine JS.seq ?_
          refine JS.region ?_
          have g5 : (64 : Int) ≠ 0 := by decide
          have g6 : (64 : Int) ≠ 0 := by decide
          refine JO.reg ttOk 8 [(W (Int.tdiv x0 64)), (W (192 + (W (Int.tdiv x0 64)))), ((u8 ((W (192 + (W (Int.tdiv x0 64)))))).toNat : Int), (W (128 + (Int.tmod x0 64))), ((u8 ((W (128 + (Int.tmod x0 64))))).toNat : Int)] [] [(19, .v (.int .u8 ((u8 ((W (192 + (W (Int.tdiv x0 64)))))).toNat : Int))), (23, .v (.int .u8 ((u8 ((W (128 + (Int.tmod x0 64))))).toNat : Int)))] _ rfl ⟨⟨g5, rfl⟩, ⟨trivial, rfl⟩, ⟨trivial, u8_wrap _⟩, g6, ⟨trivial, rfl⟩, ⟨trivial, u8_wrap _⟩, ⟨rfl, rfl, trivial⟩, rfl⟩ ?_
          refine JO.ofK rfl (JK.buildSlice ttOk rfl rfl rfl rfl rfl rfl rfl rfl rfl rfl rfl [] rfl .byte [(u8 ((W (192 + (W (Int.tdiv x0 64)))))), (u8 ((W (128 + (Int.tmod x0 64)))))] ⟨rfl, rfl⟩ rfl rfl fun a7 => JO.toK ?_)
          refine JO.reg ttOk 1 [] [] [(2, .v (.slice a7 ([(u8 ((W (192 + (W (Int.tdiv x0 64)))))), (u8 ((W (128 + (Int.tmod x0 64)))))] : List UInt8).length ([(u8 ((W (192 + (W (Int.tdiv x0 64)))))), (u8 ((W (128 + (Int.tmod x0 64)))))] : List UInt8).length))] _ rfl ⟨⟨rfl, trivial⟩, rfl⟩ ?_
          refine JO.done rfl ?_
          cases h
          exact JS.ret ttOk (a7, ([(u8 ((W (192 + (W (Int.tdiv x0 64)))))), (u8 ((W (128 + (Int.tmod x0 64)))))] : List UInt8).length) trivial rfl rfl [0] rfl
        · have h := condF h ht25
          refine JS.seq ?_
          refine JS.region ?_
          refine JO.reg ttOk 3 [] [] [(25, .v (.bool (decide (x0 < 65536))))] _ rfl ⟨⟨rfl, trivial⟩, rfl⟩ ?_
          refine JO.done rfl ?_
          refine JS.cond rfl (fun ht24 => ?_) (fun ht24 => ?_)
          · have h := condT h ht24
            refine JS.seq ?_
            refine JS.region ?_
            have g8 : (4096 : Int) ≠ 0 := by decide
            have g9 : (64 : Int) ≠ 0 := by decide
            have g10 : (64 : Int) ≠ 0 := by decide
            have g11 : (64 : Int) ≠ 0 := by decide
            refine JO.reg ttOk 13 [(W (Int.tdiv x0 4096)), (W (224 + (W (Int.tdiv x0 4096)))), ((u8 ((W (224 + (W (Int.tdiv x0 4096)))))).toNat : Int), (W (Int.tdiv x0 64)), (W (128 + (Int.tmod (W (Int.tdiv x0 64)) 64))), ((u8 ((W (128 + (Int.tmod (W (Int.tdiv x0 64)) 64))))).toNat : Int), (W (128 + (Int.tmod x0 64))), ((u8 ((W (128 + (Int.tmod x0 64))))).toNat : Int)] [] [(31, .v (.int .u8 ((u8 ((W (224 + (W (Int.tdiv x0 4096)))))).toNat : Int))), (36, .v (.int .u8 ((u8 ((W (128 + (Int.tmod (W (Int.tdiv x0 64)) 64))))).toNat : Int))), (40, .v (.int .u8 ((u8 ((W (128 + (Int.tmod x0 64))))).toNat : Int)))] _ rfl ⟨⟨g8, rfl⟩, ⟨trivial, rfl⟩, ⟨trivial, u8_wrap _⟩, ⟨g9, rfl⟩, g10, ⟨trivial, rfl⟩, ⟨trivial, u8_wrap _⟩, g11, ⟨trivial, rfl⟩, ⟨trivial, u8_wrap _⟩, ⟨rfl, rfl, rfl, trivial⟩, rfl⟩ ?_
            refine JO.ofK rfl (JK.buildSlice ttOk rfl rfl rfl rfl rfl rfl rfl rfl rfl rfl rfl [] rfl .byte [(u8 ((W (224 + (W (Int.tdiv x0 4096)))))), (u8 ((W (128 + (Int.tmod (W (Int.tdiv x0 64)) 64))))), (u8 ((W (128 + (Int.tmod x0 64)))))] ⟨rfl, rfl⟩ rfl rfl fun a12 => JO.toK ?_)
            refine JO.reg ttOk 1 [] [] [(2, .v (.slice a12 ([(u8 ((W (224 + (W (Int.tdiv x0 4096)))))), (u8 ((W (128 + (Int.tmod (W (Int.tdiv x0 64)) 64))))), (u8 ((W (128 + (Int.tmod x0 64)))))] : List UInt8).length ([(u8 ((W (224 + (W (Int.tdiv x0 4096)))))), (u8 ((W (128 + (Int.tmod (W (Int.tdiv x0 64)) 64))))), (u8 ((W (128 + (Int.tmod x0 64)))))] : List UInt8).length))] _ rfl ⟨⟨rfl, trivial⟩, rfl⟩ ?_
            refine JO.done rfl ?_
            cases h
            exact JS.ret ttOk (a12, ([(u8 ((W (224 + (W (Int.tdiv x0 4096)))))), (u8 ((W (128 + (Int.tmod (W (Int.tdiv x0 64)) 64))))), (u8 ((W (128 + (Int.tmod x0 64)))))] : List UInt8).length) trivial rfl rfl [0] rfl
          · have h := condF h ht24
            refine JS.skip ?_
            refine JS.endB ?_
            refine JS.seq ?_
            refine JS.region ?_
            have g13 : (262144 : Int) ≠ 0 := by decide
            have g14 : (4096 : Int) ≠ 0 := by decide
            have g15 : (64 : Int) ≠ 0 := by decide
            have g16 : (64 : Int) ≠ 0 := by decide
            have g17 : (64 : Int) ≠ 0 := by decide
            have g18 : (64 : Int) ≠ 0 := by decide
            refine JO.reg ttOk 18 [(W (Int.tdiv x0 262144)), (W (240 + (W (Int.tdiv x0 262144)))), ((u8 ((W (240 + (W (Int.tdiv x0 262144)))))).toNat : Int), (W (Int.tdiv x0 4096)), (W (128 + (Int.tmod (W (Int.tdiv x0 4096)) 64))), ((u8 ((W (128 + (Int.tmod (W (Int.tdiv x0 4096)) 64))))).toNat : Int), (W (Int.tdiv x0 64)), (W (128 + (Int.tmod (W (Int.tdiv x0 64)) 64))), ((u8 ((W (128 + (Int.tmod (W (Int.tdiv x0 64)) 64))))).toNat : Int), (W (128 + (Int.tmod x0 64))), ((u8 ((W (128 + (Int.tmod x0 64))))).toNat : Int)] [] [(45, .v (.int .u8 ((u8 ((W (240 + (W (Int.tdiv x0 262144)))))).toNat : Int))), (50, .v (.int .u8 ((u8 ((W (128 + (Int.tmod (W (Int.tdiv x0 4096)) 64))))).toNat : Int))), (55, .v (.int .u8 ((u8 ((W (128 + (Int.tmod (W (Int.tdiv x0 64)) 64))))).toNat : Int))), (59, .v (.int .u8 ((u8 ((W (128 + (Int.tmod x0 64))))).toNat : Int)))] _ rfl ⟨⟨g13, rfl⟩, ⟨trivial, rfl⟩, ⟨trivial, u8_wrap _⟩, ⟨g14, rfl⟩, g15, ⟨trivial, rfl⟩, ⟨trivial, u8_wrap _⟩, ⟨g16, rfl⟩, g17, ⟨trivial, rfl⟩, ⟨trivial, u8_wrap _⟩, g18, ⟨trivial, rfl⟩, ⟨trivial, u8_wrap _⟩, ⟨rfl, rfl, rfl, rfl, trivial⟩, rfl⟩ ?_
            refine JO.ofK rfl (JK.buildSlice ttOk rfl rfl rfl rfl rfl rfl rfl rfl rfl rfl rfl [] rfl .byte [(u8 ((W (240 + (W (Int.tdiv x0 262144)))))), (u8 ((W (128 + (Int.tmod (W (Int.tdiv x0 4096)) 64))))), (u8 ((W (128 + (Int.tmod (W (Int.tdiv x0 64)) 64))))), (u8 ((W (128 + (Int.tmod x0 64)))))] ⟨rfl, rfl⟩ rfl rfl fun a19 => JO.toK ?_)
            refine JO.reg ttOk 1 [] [] [(2, .v (.slice a19 ([(u8 ((W (240 + (W (Int.tdiv x0 262144)))))), (u8 ((W (128 + (Int.tmod (W (Int.tdiv x0 4096)) 64))))), (u8 ((W (128 + (Int.tmod (W (Int.tdiv x0 64)) 64))))), (u8 ((W (128 + (Int.tmod x0 64)))))] : List UInt8).length ([(u8 ((W (240 + (W (Int.tdiv x0 262144)))))), (u8 ((W (128 + (Int.tmod (W (Int.tdiv x0 4096)) 64))))), (u8 ((W (128 + (Int.tmod (W (Int.tdiv x0 64)) 64))))), (u8 ((W (128 + (Int.tmod x0 64)))))] : List UInt8).length))] _ rfl ⟨⟨rfl, trivial⟩, rfl⟩ ?_
            refine JO.done rfl ?_
            cases h
            exact JS.ret ttOk (a19, ([(u8 ((W (240 + (W (Int.tdiv x0 262144)))))), (u8 ((W (128 + (Int.tmod (W (Int.tdiv x0 4096)) 64))))), (u8 ((W (128 + (Int.tmod (W (Int.tdiv x0 64)) 64))))), (u8 ((W (128 + (Int.tmod x0 64)))))] : List UInt8).length) trivial rfl rfl [0] rfl

def M_i_RuneRead_L1 (x0 : List UInt8) (x1 : Int) (x19 : Int) (j39 : Int → Option (Int × Int)) (k34 : (Int × Int) → Option (Int × Int)) : (Int × Int) → Option (Int × Int) := fun (x29, x30) =>
  (bif (decide (x30 < ((sub' x0 (W (x1 + 1)) (W (x1 + x19))).length : Int))) then
  (guardO (0 ≤ x30 ∧ x30 < ((sub' x0 (W (x1 + 1)) (W (x1 + x19))).length : Int)) <|
  k34 ((W ((W ((W (x29 * 64)) + ((at' (sub' x0 (W (x1 + 1)) (W (x1 + x19))) x30).toNat : Int))) - 128)), (W (x30 + 1))))
  else
  j39 x29)

def M_i_RuneRead (x0 : List UInt8) (x1 : Int) : Option (Int × Int) :=
  (bif (bif (decide (x1 < 0)) then true else (decide ((x0.length : Int) ≤ x1))) then
  some (0, 0)
  else
  (guardO (0 ≤ x1 ∧ x1 < (x0.length : Int)) <|
  (joinO (fun ((x19, x20) : Int × Int) =>
  (bif (decide ((W ((x0.length : Int) - x19)) < x1)) then
  some (0, 0)
  else
  (guardO (0 ≤ (W (x1 + 1)) ∧ (W (x1 + 1)) ≤ (W (x1 + x19)) ∧ (W (x1 + x19)) ≤ (x0.length : Int)) <|
  (joinO (fun (x38 : Int) =>
  (bindO (M_i_RuneBytes x38) fun (y42 : List UInt8) =>
  (guardO (0 ≤ x1 ∧ x1 ≤ (W (x1 + x19)) ∧ (W (x1 + x19)) ≤ (x0.length : Int)) <|
  (bif (!(decide (y42 = (sub' x0 x1 (W (x1 + x19)))))) then
  some (0, 0)
  else
  some (x38, x19))))) fun j39 =>
  (fixF (M_i_RuneRead_L1 x0 x1 x19 j39) FUEL (x20, 0)))))) fun j21 =>
  (bif (decide (((at' x0 x1).toNat : Int) < 128)) then
  some (((at' x0 x1).toNat : Int), 1)
  else
  (bindO (M_i_in ((at' x0 x1).toNat : Int) 192 223) fun (y9 : Bool) =>
  (bif y9 then
  j21 (2, (W (((at' x0 x1).toNat : Int) - 192)))
  else
  (bindO (M_i_in ((at' x0 x1).toNat : Int) 224 239) fun (y11 : Bool) =>
  (bif y11 then
  j21 (3, (W (((at' x0 x1).toNat : Int) - 224)))
  else
  (bindO (M_i_in ((at' x0 x1).toNat : Int) 240 247) fun (y13 : Bool) =>
  (bif y13 then
  j21 (4, (W (((at' x0 x1).toNat : Int) - 240)))
  else
  some (0, 0)))))))))))

theorem ok_i_RuneRead (x0 : List UInt8) (x1 : Int) (a3 : Option Addr) (c4 : Nat) (l5 : Nat) (hl6 : x0.length = l5) (r : Int × Int) (h : M_i_RuneRead x0 x1 = some r) :
    FC Try.prog 65 [.slice a3 l5 c4, .int .i64 x1] [⟨.byte, ⟨a3, l5, c4⟩, x0⟩] (fun _ : Unit => True) (fun _ => .tuple #[.int .i64 r.1, .int .i64 r.2]) (fun _ => []) :=
  by
    subst hl6
    refine FC.of (T := TTx) Try.call65 Try.func65 rfl rfl fun w0 => ?_
    unfold M_i_RuneRead at h
    refine JS.seq ?_
    refine JS.region ?_
    refine JO.reg ttOk 2 [] [] [] _ rfl ⟨trivial, rfl⟩ ?_
    refine JO.done rfl ?_
    refine JS.seq ?_
    refine JS.seq ?_
    refine JS.region ?_
    refine JO.reg ttOk 8 [] [] [(18, .v (.bool (bif (decide (x1 < 0)) then true else (decide ((x0.length : Int) ≤ x1)))))] _ rfl ⟨⟨rfl, trivial⟩, rfl⟩ ?_
    refine JO.done rfl ?_
    refine JS.cond rfl (fun ht73 => ?_) (fun ht73 => ?_)
    · have h := condT h ht73
      refine JS.seq ?_
      refine JS.region ?_
      refine JO.reg ttOk 2 [] [] [(4, .v (.int .i64 0)), (5, .v (.int .i64 0))] _ rfl ⟨⟨rfl, rfl, trivial⟩, rfl⟩ ?_
      refine JO.done rfl ?_
      cases h
      exact JS.ret ttOk () trivial rfl rfl [] rfl
    · have h := condF h ht73
      refine JS.skip ?_
      refine JS.seq ?_
      refine JS.region ?_
      refine JO.know 0 rfl fun hs59 => ?_
      obtain ⟨g8, h⟩ := guardO_some h
      refine JO.reg ttOk 3 [] [] [(21, .ep ⟨a3, x0.length, c4⟩ (Int.toNat x1 * 1))] _ rfl ⟨hs59.ix g8, ⟨rfl, trivial⟩, rfl⟩ ?_
      refine JO.load ttOk rfl rfl rfl rfl rfl rfl rfl 0 rfl rfl (Int.toNat x1) 0 (at' x0 x1) ⟨at_some g8, rfl⟩ rfl rfl ?_
      refine JO.reg ttOk 2 [((at' x0 x1).toNat : Int)] [] [(6, .v (.int .i64 ((at' x0 x1).toNat : Int)))] _ rfl ⟨⟨trivial, W_byte _⟩, ⟨rfl, trivial⟩, rfl⟩ ?_
      refine JO.done rfl ?_
      refine JS.seq ?_
      refine JS.region ?_
      refine JO.reg ttOk 2 [] [] [] _ rfl ⟨trivial, rfl⟩ ?_
      refine JO.done rfl ?_
      refine JS.seq ?_
      obtain ⟨j21, hj72, h⟩ := joinO_some h
      refine JS.blockJ (ι := Int × Int) ⟨fun z => j21 (z.1, z.2) = some r, fun z => [(0, .v (.slice a3 x0.length c4)), (1, .v (.int .i64 x1)), (7, .v (.int .i64 z.1)), (8, .v (.int .i64 z.2))], fun z => .nil, fun z => [⟨.byte, ⟨a3, x0.length, c4⟩, x0⟩], fun z => [], fun z => 0⟩ ?_ ?_
      · refine JS.seq ?_
        refine JS.region ?_
        refine JO.reg ttOk 3 [] [] [(24, .v (.bool (decide (((at' x0 x1).toNat : Int) < 128))))] _ rfl ⟨⟨rfl, trivial⟩, rfl⟩ ?_
        refine JO.done rfl ?_
        refine JS.cond rfl (fun ht63 => ?_) (fun ht63 => ?_)
        · have h := condT h ht63
          refine JS.seq ?_
          refine JS.region ?_
          refine JO.reg ttOk 3 [] [] [(4, .v (.int .i64 ((at' x0 x1).toNat : Int))), (5, .v (.int .i64 1))] _ rfl ⟨⟨rfl, rfl, trivial⟩, rfl⟩ ?_
          refine JO.done rfl ?_
          cases h
          exact JS.ret ttOk () trivial rfl rfl [] rfl
        · have h := condF h ht63
          refine JS.seq ?_
          refine JS.region ?_
          refine JO.reg ttOk 1 [] [] [(29, .v (.int .i64 ((at' x0 x1).toNat : Int)))] _ rfl ⟨⟨rfl, trivial⟩, rfl⟩ ?_
          obtain ⟨y9, hy10, h⟩ := bindO_some h
          refine JO.call rfl rfl rfl rfl (ok_i_in ((at' x0 x1).toNat : Int) 192 223 _ hy10) rfl [] rfl rfl ?_
          intro _ _
          refine JO.reg ttOk 1 [] [] [(28, .v (.bool y9))] _ rfl ⟨⟨rfl, trivial⟩, rfl⟩ ?_
          refine JO.done rfl ?_
          refine JS.cond rfl (fun ht62 => ?_) (fun ht62 => ?_)
          · have h := condT h ht62
            refine JS.region ?_
            refine JO.reg ttOk 4 [(W (((at' x0 x1).toNat : Int) - 192))] [] [(7, .v (.int .i64 2)), (8, .v (.int .i64 (W (((at' x0 x1).toNat : Int) - 192))))] _ rfl ⟨⟨trivial, rfl⟩, ⟨rfl, rfl, trivial⟩, rfl⟩ ?_
            refine JO.done rfl ?_
            refine JS.endB ?_
            exact JS.endJ (2, (W (((at' x0 x1).toNat : Int) - 192))) h ⟨rfl, rfl, rfl, rfl, trivial⟩ trivial [0] rfl [] rfl
          · have h := condF h ht62
            refine JS.seq ?_
            refine JS.region ?_
            refine JO.reg ttOk 1 [] [] [(34, .v (.int .i64 ((at' x0 x1).toNat : Int)))] _ rfl ⟨⟨rfl, trivial⟩, rfl⟩ ?_
            obtain ⟨y11, hy12, h⟩ := bindO_some h
            refine JO.call rfl rfl rfl rfl (ok_i_in ((at' x0 x1).toNat : Int) 224 239 _ hy12) rfl [] rfl rfl ?_
            intro _ _
            refine JO.reg ttOk 1 [] [] [(33, .v (.bool y11))] _ rfl ⟨⟨rfl, trivial⟩, rfl⟩ ?_
            refine JO.done rfl ?_
            refine JS.cond rfl (fun ht61 => ?_) (fun ht61 => ?_)
            · have h := condT h ht61
              refine JS.region ?_
              refine JO.reg ttOk 4 [(W (((at' x0 x1).toNat : Int) - 224))] [] [(7, .v (.int .i64 3)), (8, .v (.int .i64 (W (((at' x0 x1).toNat : Int) - 224))))] _ rfl ⟨⟨trivial, rfl⟩, ⟨rfl, rfl, trivial⟩, rfl⟩ ?_
              refine JO.done rfl ?_
              refine JS.endB ?_
              exact JS.endJ (3, (W (((at' x0 x1).toNat : Int) - 224))) h ⟨rfl, rfl, rfl, rfl, trivial⟩ trivial [0] rfl [] rfl
            · have h := condF h ht61
              refine JS.seq ?_
              refine JS.region ?_
              refine JO.reg ttOk 1 [] [] [(39, .v (.int .i64 ((at' x0 x1).toNat : Int)))] _ rfl ⟨⟨rfl, trivial⟩, rfl⟩ ?_
              obtain ⟨y13, hy14, h⟩ := bindO_some h
              refine JO.call rfl rfl rfl rfl (ok_i_in ((at' x0 x1).toNat : Int) 240 247 _ hy14) rfl [] rfl rfl ?_
              intro _ _
              refine JO.reg ttOk 1 [] [] [(38, .v (.bool y13))] _ rfl ⟨⟨rfl, trivial⟩, rfl⟩ ?_
              refine JO.done rfl ?_
              refine JS.cond rfl (fun ht60 => ?_) (fun ht60 => ?_)
              · have h := condT h ht60
                refine JS.region ?_
                refine JO.reg ttOk 4 [(W (((at' x0 x1).toNat : Int) - 240))] [] [(7, .v (.int .i64 4)), (8, .v (.int .i64 (W (((at' x0 x1).toNat : Int) - 240))))] _ rfl ⟨⟨trivial, rfl⟩, ⟨rfl, rfl, trivial⟩, rfl⟩ ?_
                refine JO.done rfl ?_
                refine JS.endB ?_
                exact JS.endJ (4, (W (((at' x0 x1).toNat : Int) - 240))) h ⟨rfl, rfl, rfl, rfl, trivial⟩ trivial [0] rfl [] rfl
              · have h := condF h ht60
                refine JS.seq ?_
                refine JS.region ?_
                refine JO.reg ttOk 2 [] [] [(4, .v (.int .i64 0)), (5, .v (.int .i64 0))] _ rfl ⟨⟨rfl, rfl, trivial⟩, rfl⟩ ?_
                refine JO.done rfl ?_
                cases h
                exact JS.ret ttOk () trivial rfl rfl [] rfl
      · rintro ⟨x19, x20⟩ h
        subst hj72
        refine JS.seq ?_
        refine JS.seq ?_
        refine JS.region ?_
        refine JO.reg ttOk 6 [(W ((x0.length : Int) - x19))] [] [(48, .v (.bool (decide ((W ((x0.length : Int) - x19)) < x1))))] _ rfl ⟨⟨trivial, rfl⟩, ⟨rfl, trivial⟩, rfl⟩ ?_
        refine JO.done rfl ?_
        refine JS.cond rfl (fun ht71 => ?_) (fun ht71 => ?_)
        · have h := condT h ht71
          refine JS.seq ?_
          refine JS.region ?_
          refine JO.reg ttOk 2 [] [] [(4, .v (.int .i64 0)), (5, .v (.int .i64 0))] _ rfl ⟨⟨rfl, rfl, trivial⟩, rfl⟩ ?_
          refine JO.done rfl ?_
          cases h
          exact JS.ret ttOk () trivial rfl rfl [] rfl
        · have h := condF h ht71
          refine JS.skip ?_
          refine JS.seq ?_
          refine JS.seq ?_
          refine JS.region ?_
          refine JO.reg ttOk 6 [(W (x1 + 1)), (W (x1 + x19))] [] [(49, .v (.slice a3 x0.length c4)), (51, .v (.int .i64 (W (x1 + 1)))), (54, .v (.int .i64 (W (x1 + x19))))] _ rfl ⟨⟨trivial, rfl⟩, ⟨trivial, rfl⟩, ⟨rfl, rfl, rfl, trivial⟩, rfl⟩ ?_
          obtain ⟨g26, h⟩ := guardO_some h
          refine JO.sliceR' ttOk rfl rfl rfl rfl rfl rfl rfl rfl 0 rfl (W (x1 + 1)) (W (x1 + x19)) rfl rfl g26 rfl ?_
          intro a27 c28
          refine JO.reg ttOk 2 [] [] [(56, .v (.int .i64 ((sub' x0 (W (x1 + 1)) (W (x1 + x19))).length : Int))), (57, .v (.int .i64 0))] _ rfl ⟨⟨rfl, rfl, trivial⟩, rfl⟩ ?_
          refine JO.done rfl ?_
          obtain ⟨j39, hj70, h⟩ := joinO_some h
          refine JS.blockJ (ι := Int) ⟨fun z => j39 z = some r, fun z => [(0, .v (.slice a3 x0.length c4)), (1, .v (.int .i64 x1)), (7, .v (.int .i64 x19)), (8, .v (.int .i64 z))], fun z => .nil, fun z => [⟨.byte, ⟨a3, x0.length, c4⟩, x0⟩], fun z => [], fun z => 0⟩ ?_ ?_
          · refine JS.loop (ι := Nat × Int × Int) ⟨fun z => fixF (M_i_RuneRead_L1 x0 x1 x19 j39) z.1 (z.2.1, z.2.2) = some r, fun z => [(0, .v (.slice a3 x0.length c4)), (1, .v (.int .i64 x1)), (7, .v (.int .i64 x19)), (8, .v (.int .i64 z.2.1)), (55, .v (.slice a27 (sub' x0 (W (x1 + 1)) (W (x1 + x19))).length c28)), (56, .v (.int .i64 ((sub' x0 (W (x1 + 1)) (W (x1 + x19))).length : Int))), (57, .v (.int .i64 z.2.2))], fun z => .nil, fun z => [⟨.byte, ⟨a3, x0.length, c4⟩, x0⟩, ⟨.byte, ⟨a27, (sub' x0 (W (x1 + 1)) (W (x1 + x19))).length, c28⟩, (sub' x0 (W (x1 + 1)) (W (x1 + x19)))⟩], fun z => [], fun z => z.1⟩ (FUEL, x20, 0) h ⟨rfl, rfl, rfl, rfl, rfl, rfl, rfl, trivial⟩ trivial [1, 0] rfl [] rfl ?_
            rintro ⟨n35, x29, x30⟩ h
            obtain ⟨n35, rfl, h⟩ := fixF_some h
            rw [M_i_RuneRead_L1] at h
            refine JS.seq ?_
            refine JS.region ?_
            refine JO.reg ttOk 1 [] [] [(58, .v (.bool (decide (x30 < ((sub' x0 (W (x1 + 1)) (W (x1 + x19))).length : Int)))))] _ rfl ⟨⟨rfl, trivial⟩, rfl⟩ ?_
            refine JO.done rfl ?_
            refine JS.seq ?_
            refine JS.cond rfl (fun ht65 => ?_) (fun ht65 => ?_)
            · have h := condT h ht65
              refine JS.skip ?_
              refine JS.seq ?_
              refine JS.block ?_
              refine JS.seq ?_
              refine JS.region ?_
              refine JO.know 1 rfl fun hs64 => ?_
              obtain ⟨g32, h⟩ := guardO_some h
              refine JO.reg ttOk 1 [] [] [(59, .ep ⟨a27, (sub' x0 (W (x1 + 1)) (W (x1 + x19))).length, c28⟩ (Int.toNat x30 * 1))] _ rfl ⟨hs64.ix g32, ⟨rfl, trivial⟩, rfl⟩ ?_
              refine JO.load ttOk rfl rfl rfl rfl rfl rfl rfl 1 rfl rfl (Int.toNat x30) 0 (at' (sub' x0 (W (x1 + 1)) (W (x1 + x19))) x30) ⟨at_some g32, rfl⟩ rfl rfl ?_
              refine JO.reg ttOk 1 [] [] [(10, .v (.int .u8 ((at' (sub' x0 (W (x1 + 1)) (W (x1 + x19))) x30).toNat : Int)))] _ rfl ⟨⟨rfl, trivial⟩, rfl⟩ ?_
              refine JO.done rfl ?_
              refine JS.region ?_
              refine JO.reg ttOk 7 [(W (x29 * 64)), ((at' (sub' x0 (W (x1 + 1)) (W (x1 + x19))) x30).toNat : Int), (W ((W (x29 * 64)) + ((at' (sub' x0 (W (x1 + 1)) (W (x1 + x19))) x30).toNat : Int))), (W ((W ((W (x29 * 64)) + ((at' (sub' x0 (W (x1 + 1)) (W (x1 + x19))) x30).toNat : Int))) - 128))] [] [(8, .v (.int .i64 (W ((W ((W (x29 * 64)) + ((at' (sub' x0 (W (x1 + 1)) (W (x1 + x19))) x30).toNat : Int))) - 128))))] _ rfl ⟨⟨trivial, rfl⟩, ⟨trivial, W_byte _⟩, ⟨trivial, rfl⟩, ⟨trivial, rfl⟩, ⟨rfl, trivial⟩, rfl⟩ ?_
              refine JO.done rfl ?_
              refine JS.endB ?_
              refine JS.region ?_
              refine JO.reg ttOk 2 [(W (x30 + 1))] [] [(57, .v (.int .i64 (W (x30 + 1))))] _ rfl ⟨⟨trivial, rfl⟩, ⟨rfl, trivial⟩, rfl⟩ ?_
              refine JO.done rfl ?_
              exact JS.endL (n35, (W ((W ((W (x29 * 64)) + ((at' (sub' x0 (W (x1 + 1)) (W (x1 + x19))) x30).toNat : Int))) - 128)), (W (x30 + 1))) h (Nat.lt_succ_self _) ⟨rfl, rfl, rfl, rfl, rfl, rfl, rfl, trivial⟩ trivial [0, 1] rfl [] rfl
            · have h := condF h ht65
              refine JS.exit rfl ?_
              exact JS.endJ x29 h ⟨rfl, rfl, rfl, rfl, trivial⟩ trivial [0] rfl [] rfl
          · rintro x38 h
            subst hj70
            refine JS.seq ?_
            refine JS.seq ?_
            obtain ⟨y42, hy43, h⟩ := bindO_some h
            obtain ⟨g46, h⟩ := guardO_some h
            refine JS.subR 0 rfl x1 (W (x1 + x19)) ?_
            intro a47 c48 hu49
            refine JS.know 1 rfl fun hs68 => ?_
            refine JS.regionA rfl .nil [0] [10] trivial rfl (fun be53 => ?_)
            refine JA.regL ttOk panic_cx 5 [0, 3, 4, 5, 6, 7] rfl (by kernel_rfl) [(W (x1 + x19))] [(68, .v (.int .i64 x38)), (71, .v (.slice a3 x0.length c4)), (72, .v (.int .i64 x1)), (73, .v (.int .i64 x1)), (74, .v (.int .i64 x19)), (75, .v (.int .i64 (W (x1 + x19))))] rfl ⟨⟨trivial, rfl⟩, ⟨rfl, rfl, rfl, rfl, rfl, rfl, trivial⟩⟩ ?_
            refine JA.sliceP ttOk panic_cx 8 rfl (by kernel_rfl) rfl rfl rfl rfl rfl rfl x1 (W (x1 + x19)) rfl rfl ⟨g46.1, g46.2.1, g46.2.2, hs68.cap, hu49 g46⟩ rfl ?_
            refine JA.strOf ttOk panic_cx 9 rfl (by kernel_rfl) rfl rfl rfl rfl rfl rfl rfl 0 rfl rfl trivial [0] rfl ?_
            refine JA.one 1 (by kernel_rfl) ?_
            refine JK.call rfl rfl rfl rfl (ok_i_RuneBytes x38 _ hy43) rfl [] rfl rfl ?_
            rintro ⟨a44, c45⟩ -
            refine JA.next trivial [0] rfl ?_
            refine JA.one 2 (by kernel_rfl) ?_
            refine JK.strOf ttOk rfl rfl rfl rfl rfl rfl rfl rfl 2 rfl rfl ?_
            refine JA.next trivial [0] rfl ?_
            refine JA.regL ttOk panic_cx 0 [10] rfl (by kernel_rfl) [] [(68, .v (.int .i64 x38)), (69, .v (.slice a44 y42.length c45)), (70, .v (.string (bs y42))), (71, .v (.slice a3 x0.length c4)), (72, .v (.int .i64 x1)), (73, .v (.int .i64 x1)), (74, .v (.int .i64 x19)), (75, .v (.int .i64 (W (x1 + x19)))), (76, .v (.slice a47 (sub' x0 x1 (W (x1 + x19))).length c48)), (77, .v (.string (bs (sub' x0 x1 (W (x1 + x19)))))), (78, .v (.bool (!(decide (y42 = (sub' x0 x1 (W (x1 + x19))))))))] rfl ⟨rfl, rfl, rfl, rfl, rfl, rfl, rfl, rfl, rfl, rfl, rfl, trivial⟩ ?_
            refine JA.done (by kernel_rfl) ?_
            refine JS.boxes (B' := .nil) trivial ?_
            refine JS.cond rfl (fun ht69 => ?_) (fun ht69 => ?_)
            · have h := condT h ht69
              refine JS.seq ?_
              refine JS.region ?_
              refine JO.reg ttOk 2 [] [] [(4, .v (.int .i64 0)), (5, .v (.int .i64 0))] _ rfl ⟨⟨rfl, rfl, trivial⟩, rfl⟩ ?_
              refine JO.done rfl ?_
              cases h
              exact JS.ret ttOk () trivial rfl rfl [] rfl
            · have h := condF h ht69
              refine JS.skip ?_
              refine JS.seq ?_
              refine JS.region ?_
              refine JO.reg ttOk 4 [] [] [(4, .v (.int .i64 x38)), (5, .v (.int .i64 x19))] _ rfl ⟨⟨rfl, rfl, trivial⟩, rfl⟩ ?_
              refine JO.done rfl ?_
              cases h
              exact JS.ret ttOk () trivial rfl rfl [] rfl

def M_i_Printable (x0 : Int) : Option Bool :=
  (bindO (M_i_RuneOk x0) fun (y2 : Bool) =>
  (callO ((bif y2 then (decide (32 ≤ x0)) else false) = true) (M_i_in x0 127 159) false fun (y4 : Bool) =>
  some (bif (bif y2 then (decide (32 ≤ x0)) else false) then (!y4) else false)))

theorem ok_i_Printable (x0 : Int) (r : Bool) (h : M_i_Printable x0 = some r) :
    FC Try.prog 42 [.int .i64 x0] [] (fun _ : Unit => True) (fun _ => .bool r) (fun _ => []) :=
  by
    refine FC.of (T := TTx) Try.call42 Try.func42 rfl rfl fun w0 => ?_
    unfold M_i_Printable at h
    refine JS.seq ?_
    refine JS.region ?_
    refine JO.reg ttOk 1 [] [] [] _ rfl ⟨trivial, rfl⟩ ?_
    refine JO.done rfl ?_
    refine JS.seq ?_
    refine JS.region ?_
    refine JO.reg ttOk 1 [] [] [(3, .v (.int .i64 x0))] _ rfl ⟨⟨rfl, trivial⟩, rfl⟩ ?_
    obtain ⟨y2, hy3, h⟩ := bindO_some h
    refine JO.call rfl rfl rfl rfl (ok_i_RuneOk x0 _ hy3) rfl [] rfl rfl ?_
    intro _ _
    refine JO.reg ttOk 6 [] [] [(9, .v (.bool (bif y2 then (decide (32 ≤ x0)) else false))), (10, .cd [(9, true)] (.v (.int .i64 x0)))] _ rfl ⟨⟨rfl, rfl, trivial⟩, rfl⟩ ?_
    obtain ⟨y4, hy5, -, h⟩ := callO_some h
    refine JO.callg rfl rfl rfl rfl (fun q7 => ok_i_in x0 127 159 _ (hy5 q7)) rfl [] rfl rfl ?_
    refine JO.reg ttOk 3 [] [] [(2, .v (.bool (bif (bif y2 then (decide (32 ≤ x0)) else false) then (!y4) else false)))] _ rfl ⟨⟨rfl, trivial⟩, rfl⟩ ?_
    refine JO.done rfl ?_
    cases h
    exact JS.ret ttOk () trivial rfl rfl [] rfl

def M_i_decPlain (x0 : List UInt8) (x1 : Int) : Option ((Int × List UInt8) × List (Int × Int)) :=
  (bif (decide (x1 < 128)) then
  (joinO (fun (x14 : List (Int × Int)) =>
  (bif (decide (x1 = 27)) then
  some ((1, []), x14)
  else
  (bindO (M_i_ByteKey x1) fun (y19 : Int × Int) =>
  (guardO (x14.length + ([y19] : List (Int × Int)).length ≤ 536870912) <|
  some ((0, []), (x14 ++ ([y19] : List (Int × Int)))))))) fun j17 =>
  (bif (decide (0 < (x0.length : Int))) then
  (bindO (M_i_bad ) fun (y7 : Int × Int) =>
  (guardO (([] : List (Int × Int)).length + ([y7] : List (Int × Int)).length ≤ 536870912) <|
  j17 (([] : List (Int × Int)) ++ ([y7] : List (Int × Int)))))
  else
  j17 ([] : List (Int × Int))))
  else
  (bindO (M_i_copyBytes x0) fun (y27 : List UInt8) =>
  (guardO (y27.length + ([(u8 (x1))] : List UInt8).length ≤ 536870912) <|
  (bindO (M_i_RuneRead (y27 ++ ([(u8 (x1))] : List UInt8)) 0) fun (y35, y36) =>
  (bif (decide (y36 = ((y27 ++ ([(u8 (x1))] : List UInt8)).length : Int))) then
  (bindO (M_i_Printable y35) fun (y38 : Bool) =>
  (bif y38 then
  some ((0, []), ([(1, y35)] : List (Int × Int)))
  else
  (bindO (M_i_bad ) fun (y41 : Int × Int) =>
  some ((0, []), ([y41] : List (Int × Int))))))
  else
  (bindO (M_i_RuneBegin (y27 ++ ([(u8 (x1))] : List UInt8))) fun (y45 : Bool) =>
  (bif y45 then
  some ((0, (y27 ++ ([(u8 (x1))] : List UInt8))), [])
  else
  (callO ((decide (0 < (x0.length : Int))) = true) (M_i_RuneBegin ([(u8 (x1))] : List UInt8)) false fun (y48 : Bool) =>
  (bif (bif (decide (0 < (x0.length : Int))) then y48 else false) then
  (bindO (M_i_bad ) fun (y51 : Int × Int) =>
  some ((0, ([(u8 (x1))] : List UInt8)), ([y51] : List (Int × Int))))
  else
  (bindO (M_i_bad ) fun (y54 : Int × Int) =>
  some ((0, []), ([y54] : List (Int × Int)))))))))))))

theorem ok_i_decPlain (x0 : List UInt8) (x1 : Int) (a3 : Option Addr) (c4 : Nat) (l5 : Nat) (hl6 : x0.length = l5) (r : (Int × List UInt8) × List (Int × Int)) (h : M_i_decPlain x0 x1 = some r) :
    FC Try.prog 55 [.slice a3 l5 c4, .int .i64 x1] [⟨.byte, ⟨a3, l5, c4⟩, x0⟩] (fun _ : Option Addr × Nat × Option Addr × Nat => True) (fun q => .tuple #[.agg #[.int .i64 r.1.1, .slice q.1 r.1.2.length q.2.1], .slice q.2.2.1 r.2.length q.2.2.2]) (fun q => [⟨.byte, ⟨q.1, r.1.2.length, q.2.1⟩, r.1.2⟩, ⟨(.pair (.int .i64) (.int .i64)), ⟨q.2.2.1, r.2.length, q.2.2.2⟩, r.2⟩]) :=
  by
    subst hl6
    refine FC.of (T := TTx) Try.call55 Try.func55 rfl rfl fun w0 => ?_
    unfold M_i_decPlain at h
    refine JS.seq ?_
    refine JS.region ?_
    refine JO.regB ttOk 2 [] [2] [(4, .bp 2 0)] (.new 2 26 [.int .i64 0, .slice none 0 0] .nil) rfl ⟨⟨rfl, trivial⟩, ⟨rfl, rfl, rfl, rfl, trivial⟩⟩ ?_
    refine JO.done rfl ?_
    refine JS.seq ?_
    refine JS.seq ?_
    refine JS.region ?_
    refine JO.reg ttOk 2 [] [] [(12, .v (.bool (decide (x1 < 128))))] _ rfl ⟨⟨rfl, trivial⟩, rfl⟩ ?_
    refine JO.done rfl ?_
    refine JS.cond rfl (fun ht69 => ?_) (fun ht69 => ?_)
    · have h := condT h ht69
      refine JS.seq ?_
      refine JS.region ?_
      refine JO.reg ttOk 1 [] [] [(6, .v (.slice none 0 0))] _ rfl ⟨⟨rfl, trivial⟩, rfl⟩ ?_
      refine JO.done rfl ?_
      obtain ⟨j17, hj63, h⟩ := joinO_some h
      refine JS.seqJ (ι := (List (Int × Int)) × Option Addr × Nat) ⟨fun z => j17 z.1 = some r, fun z => [(1, .v (.int .i64 x1)), (4, .bp 2 0), (6, .v (.slice z.2.1 z.1.length z.2.2))], fun z => (.new 2 26 [.int .i64 0, .slice none 0 0] .nil), fun z => [], fun z => [⟨(.pair (.int .i64) (.int .i64)), ⟨z.2.1, z.1.length, z.2.2⟩, z.1⟩], fun z => 0⟩ ?_ ?_
      · refine JS.seq ?_
        refine JS.region ?_
        refine JO.reg ttOk 3 [] [] [(15, .v (.bool (decide (0 < (x0.length : Int)))))] _ rfl ⟨⟨rfl, trivial⟩, rfl⟩ ?_
        refine JO.done rfl ?_
        refine JS.cond rfl (fun ht61 => ?_) (fun ht61 => ?_)
        · have h := condT h ht61
          refine JS.region ?_
          refine JO.reg ttOk 1 [] [] [(16, .v (.slice none 0 0))] _ rfl ⟨⟨rfl, trivial⟩, rfl⟩ ?_
          obtain ⟨y7, hy8, h⟩ := bindO_some h
          refine JO.call rfl rfl rfl rfl (ok_i_bad  _ hy8) rfl [] rfl rfl ?_
          intro _ _
          refine JO.ofK rfl (JK.buildSlice ttOk rfl rfl rfl rfl rfl rfl rfl rfl rfl rfl rfl [] rfl (.pair (.int .i64) (.int .i64)) [y7] ⟨rfl, rfl⟩ rfl rfl fun a9 => JO.toK ?_)
          obtain ⟨g10, h⟩ := guardO_some h
          refine JO.nilO (.pair (.int .i64) (.int .i64)) Sl.nil rfl rfl ?_
          refine JO.appendR' ttOk rfl rfl rfl rfl ⟨rfl, rfl, rfl, rfl, trivial, rfl, rfl, rfl, rfl⟩ rfl rfl rfl [0] rfl 2 rfl g10 rfl ?_
          intro a11 c12
          refine JO.reg ttOk 1 [] [] [(6, .v (.slice a11 (([] : List (Int × Int)) ++ ([y7] : List (Int × Int))).length c12))] _ rfl ⟨⟨rfl, trivial⟩, rfl⟩ ?_
          refine JO.done rfl ?_
          exact JS.endJ ((([] : List (Int × Int)) ++ ([y7] : List (Int × Int))), a11, c12) h ⟨rfl, rfl, rfl, trivial⟩ ⟨rfl, rfl, rfl, rfl, trivial⟩ [] rfl [0] rfl
        · have h := condF h ht61
          refine JS.skip ?_
          refine JS.nilO (.pair (.int .i64) (.int .i64)) Sl.nil rfl rfl ?_
          exact JS.endJ (([] : List (Int × Int)), none, 0) h ⟨rfl, rfl, rfl, trivial⟩ ⟨rfl, rfl, rfl, rfl, trivial⟩ [] rfl [0] rfl
      · rintro ⟨x14, a15, c16⟩ h
        subst hj63
        refine JS.seq ?_
        refine JS.seq ?_
        refine JS.region ?_
        refine JO.reg ttOk 2 [] [] [(21, .v (.bool (decide (x1 = 27))))] _ rfl ⟨⟨rfl, trivial⟩, rfl⟩ ?_
        refine JO.done rfl ?_
        refine JS.cond rfl (fun ht62 => ?_) (fun ht62 => ?_)
        · have h := condT h ht62
          refine JS.seq ?_
          refine JS.region ?_
          refine JO.regB ttOk 4 [] [] [(5, .v (.slice a15 x14.length c16))] (.new 2 26 [.int .i64 1, .slice none 0 0] .nil) rfl ⟨⟨rfl, trivial⟩, ⟨rfl, rfl, rfl, rfl, trivial⟩⟩ ?_
          refine JO.done rfl ?_
          cases h
          refine JS.nilO .byte Sl.nil rfl rfl ?_
          exact JS.ret ttOk (none, 0, a15, c16) trivial rfl rfl [0, 0] rfl
        · have h := condF h ht62
          refine JS.skip ?_
          refine JS.seq ?_
          refine JS.region ?_
          refine JO.reg ttOk 3 [] [] [(24, .v (.agg #[.int .i64 0, .slice none 0 0])), (25, .v (.slice a15 x14.length c16)), (26, .v (.int .i64 x1))] _ rfl ⟨⟨rfl, rfl, rfl, trivial⟩, rfl⟩ ?_
          obtain ⟨y19, hy20, h⟩ := bindO_some h
          refine JO.call rfl rfl rfl rfl (ok_i_ByteKey x1 _ hy20) rfl [] rfl rfl ?_
          intro _ _
          refine JO.ofK rfl (JK.buildSlice ttOk rfl rfl rfl rfl rfl rfl rfl rfl rfl rfl rfl [] rfl (.pair (.int .i64) (.int .i64)) [y19] ⟨rfl, rfl⟩ rfl rfl fun a21 => JO.toK ?_)
          obtain ⟨g22, h⟩ := guardO_some h
          refine JO.appendR' ttOk rfl rfl rfl rfl ⟨rfl, rfl, rfl, rfl, trivial, rfl, rfl, rfl, rfl⟩ rfl rfl rfl [1] rfl 0 rfl g22 rfl ?_
          intro a23 c24
          refine JO.regB ttOk 2 [] [] [(5, .v (.slice a23 (x14 ++ ([y19] : List (Int × Int))).length c24))] (.new 2 26 [.int .i64 0, .slice none 0 0] .nil) rfl ⟨⟨rfl, trivial⟩, ⟨rfl, rfl, rfl, rfl, trivial⟩⟩ ?_
          refine JO.done rfl ?_
          cases h
          refine JS.nilO .byte Sl.nil rfl rfl ?_
          exact JS.ret ttOk (none, 0, a23, c24) trivial rfl rfl [0, 0] rfl
    · have h := condF h ht69
      refine JS.skip ?_
      refine JS.seq ?_
      refine JS.region ?_
      refine JO.reg ttOk 1 [] [] [(30, .v (.slice a3 x0.length c4))] _ rfl ⟨⟨rfl, trivial⟩, rfl⟩ ?_
      obtain ⟨y27, hy28, h⟩ := bindO_some h
      refine JO.call rfl rfl rfl rfl (ok_i_copyBytes x0 a3 c4 x0.length rfl _ hy28) rfl [0] rfl rfl ?_
      rintro ⟨a29, c30⟩ -
      refine JO.reg ttOk 2 [((u8 (x1)).toNat : Int)] [] [(33, .v (.int .u8 ((u8 (x1)).toNat : Int)))] _ rfl ⟨⟨trivial, u8_wrap _⟩, ⟨rfl, trivial⟩, rfl⟩ ?_
      refine JO.ofK rfl (JK.buildSlice ttOk rfl rfl rfl rfl rfl rfl rfl rfl rfl rfl rfl [] rfl .byte [(u8 (x1))] ⟨rfl, rfl⟩ rfl rfl fun a31 => JO.toK ?_)
      obtain ⟨g32, h⟩ := guardO_some h
      refine JO.appendR' ttOk rfl rfl rfl rfl ⟨rfl, rfl, rfl, rfl, trivial, rfl, rfl, rfl, rfl⟩ rfl rfl rfl [1] rfl 1 rfl g32 rfl ?_
      intro a33 c34
      refine JO.reg ttOk 1 [] [] [(7, .v (.slice a33 (y27 ++ ([(u8 (x1))] : List UInt8)).length c34))] _ rfl ⟨⟨rfl, trivial⟩, rfl⟩ ?_
      refine JO.done rfl ?_
      refine JS.seq ?_
      refine JS.seq ?_
      refine JS.region ?_
      refine JO.reg ttOk 1 [] [] [(37, .v (.slice a33 (y27 ++ ([(u8 (x1))] : List UInt8)).length c34))] _ rfl ⟨⟨rfl, trivial⟩, rfl⟩ ?_
      obtain ⟨⟨y35, y36⟩, hy37, h⟩ := bindO_some h
      refine JO.call rfl rfl rfl rfl (ok_i_RuneRead (y27 ++ ([(u8 (x1))] : List UInt8)) 0 a33 c34 ((y27 ++ ([(u8 (x1))] : List UInt8)).length) rfl _ hy37) rfl [1] rfl rfl ?_
      intro _ _
      refine JO.reg ttOk 5 [] [] [(8, .v (.int .i64 y35)), (9, .v (.int .i64 y36))] _ rfl ⟨⟨rfl, rfl, trivial⟩, rfl⟩ ?_
      refine JO.done rfl ?_
      refine JS.seq ?_
      refine JS.region ?_
      refine JO.reg ttOk 4 [] [] [(44, .v (.bool (decide (y36 = ((y27 ++ ([(u8 (x1))] : List UInt8)).length : Int)))))] _ rfl ⟨⟨rfl, trivial⟩, rfl⟩ ?_
      refine JO.done rfl ?_
      refine JS.cond rfl (fun ht68 => ?_) (fun ht68 => ?_)
      · have h := condT h ht68
        refine JS.seq ?_
        refine JS.seq ?_
        refine JS.region ?_
        refine JO.reg ttOk 1 [] [] [(45, .v (.int .i64 y35))] _ rfl ⟨⟨rfl, trivial⟩, rfl⟩ ?_
        obtain ⟨y38, hy39, h⟩ := bindO_some h
        refine JO.call rfl rfl rfl rfl (ok_i_Printable y35 _ hy39) rfl [] rfl rfl ?_
        intro _ _
        refine JO.done rfl ?_
        refine JS.cond rfl (fun ht64 => ?_) (fun ht64 => ?_)
        · have h := condT h ht64
          refine JS.seq ?_
          refine JS.region ?_
          refine JO.reg ttOk 3 [] [] [(47, .v (.agg #[.int .i64 0, .slice none 0 0])), (49, .v (.agg #[.int .i64 1, .int .i64 y35]))] _ rfl ⟨⟨rfl, rfl, trivial⟩, rfl⟩ ?_
          refine JO.ofK rfl (JK.buildSlice ttOk rfl rfl rfl rfl rfl rfl rfl rfl rfl rfl rfl [] rfl (.pair (.int .i64) (.int .i64)) [(1, y35)] ⟨rfl, rfl⟩ rfl rfl fun a40 => JO.toK ?_)
          refine JO.regB ttOk 2 [] [] [(5, .v (.slice a40 ([(1, y35)] : List (Int × Int)).length ([(1, y35)] : List (Int × Int)).length))] (.new 2 26 [.int .i64 0, .slice none 0 0] .nil) rfl ⟨⟨rfl, trivial⟩, ⟨rfl, rfl, rfl, rfl, trivial⟩⟩ ?_
          refine JO.done rfl ?_
          cases h
          refine JS.nilO .byte Sl.nil rfl rfl ?_
          exact JS.ret ttOk (none, 0, a40, ([(1, y35)] : List (Int × Int)).length) trivial rfl rfl [0, 0] rfl
        · have h := condF h ht64
          refine JS.skip ?_
          refine JS.seq ?_
          refine JS.region ?_
          refine JO.reg ttOk 1 [] [] [(51, .v (.agg #[.int .i64 0, .slice none 0 0]))] _ rfl ⟨⟨rfl, trivial⟩, rfl⟩ ?_
          obtain ⟨y41, hy42, h⟩ := bindO_some h
          refine JO.call rfl rfl rfl rfl (ok_i_bad  _ hy42) rfl [] rfl rfl ?_
          intro _ _
          refine JO.ofK rfl (JK.buildSlice ttOk rfl rfl rfl rfl rfl rfl rfl rfl rfl rfl rfl [] rfl (.pair (.int .i64) (.int .i64)) [y41] ⟨rfl, rfl⟩ rfl rfl fun a43 => JO.toK ?_)
          refine JO.regB ttOk 2 [] [] [(5, .v (.slice a43 ([y41] : List (Int × Int)).length ([y41] : List (Int × Int)).length))] (.new 2 26 [.int .i64 0, .slice none 0 0] .nil) rfl ⟨⟨rfl, trivial⟩, ⟨rfl, rfl, rfl, rfl, trivial⟩⟩ ?_
          refine JO.done rfl ?_
          cases h
          refine JS.nilO .byte Sl.nil rfl rfl ?_
          exact JS.ret ttOk (none, 0, a43, ([y41] : List (Int × Int)).length) trivial rfl rfl [0, 0] rfl
      · have h := condF h ht68
        refine JS.skip ?_
        refine JS.seq ?_
        refine JS.seq ?_
        refine JS.region ?_
        refine JO.reg ttOk 1 [] [] [(54, .v (.slice a33 (y27 ++ ([(u8 (x1))] : List UInt8)).length c34))] _ rfl ⟨⟨rfl, trivial⟩, rfl⟩ ?_
        obtain ⟨y45, hy46, h⟩ := bindO_some h
        refine JO.call rfl rfl rfl rfl (ok_i_RuneBegin (y27 ++ ([(u8 (x1))] : List UInt8)) a33 c34 ((y27 ++ ([(u8 (x1))] : List UInt8)).length) rfl _ hy46) rfl [1] rfl rfl ?_
        intro _ _
        refine JO.done rfl ?_
        refine JS.cond rfl (fun ht67 => ?_) (fun ht67 => ?_)
        · have h := condT h ht67
          refine JS.seq ?_
          refine JS.region ?_
          refine JO.regB ttOk 4 [] [] [(5, .v (.slice none 0 0))] (.new 2 26 [.int .i64 0, .slice a33 (y27 ++ ([(u8 (x1))] : List UInt8)).length c34] .nil) rfl ⟨⟨rfl, trivial⟩, ⟨rfl, rfl, rfl, rfl, trivial⟩⟩ ?_
          refine JO.done rfl ?_
          cases h
          refine JS.nilO (.pair (.int .i64) (.int .i64)) Sl.nil rfl rfl ?_
          exact JS.ret ttOk (a33, c34, none, 0) trivial rfl rfl [1, 0] rfl
        · have h := condF h ht67
          refine JS.skip ?_
          refine JS.seq ?_
          refine JS.seq ?_
          refine JS.region ?_
          refine JO.reg ttOk 2 [((u8 (x1)).toNat : Int)] [] [(59, .v (.int .u8 ((u8 (x1)).toNat : Int)))] _ rfl ⟨⟨trivial, u8_wrap _⟩, ⟨rfl, trivial⟩, rfl⟩ ?_
          refine JO.ofK rfl (JK.buildSlice ttOk rfl rfl rfl rfl rfl rfl rfl rfl rfl rfl rfl [] rfl .byte [(u8 (x1))] ⟨rfl, rfl⟩ rfl rfl fun a47 => JO.toK ?_)
          refine JO.reg ttOk 1 [] [] [(10, .v (.slice a47 ([(u8 (x1))] : List UInt8).length ([(u8 (x1))] : List UInt8).length))] _ rfl ⟨⟨rfl, trivial⟩, rfl⟩ ?_
          refine JO.done rfl ?_
          refine JS.seq ?_
          refine JS.region ?_
          refine JO.reg ttOk 5 [] [] [(64, .v (.bool (decide (0 < (x0.length : Int))))), (65, .cd [(64, true)] (.v (.slice a47 ([(u8 (x1))] : List UInt8).length ([(u8 (x1))] : List UInt8).length)))] _ rfl ⟨⟨rfl, rfl, trivial⟩, rfl⟩ ?_
          obtain ⟨y48, hy49, -, h⟩ := callO_some h
          refine JO.callg rfl rfl rfl rfl (fun q65 => ok_i_RuneBegin ([(u8 (x1))] : List UInt8) a47 (([(u8 (x1))] : List UInt8).length) (([(u8 (x1))] : List UInt8).length) rfl _ (hy49 q65)) rfl [1] rfl rfl ?_
          refine JO.reg ttOk 1 [] [] [(67, .v (.bool (bif (decide (0 < (x0.length : Int))) then y48 else false)))] _ rfl ⟨⟨rfl, trivial⟩, rfl⟩ ?_
          refine JO.done rfl ?_
          refine JS.cond rfl (fun ht66 => ?_) (fun ht66 => ?_)
          · have h := condT h ht66
            refine JS.seq ?_
            refine JS.region ?_
            refine JO.reg ttOk 2 [] [] [(69, .v (.agg #[.int .i64 0, .slice a47 ([(u8 (x1))] : List UInt8).length ([(u8 (x1))] : List UInt8).length]))] _ rfl ⟨⟨rfl, trivial⟩, rfl⟩ ?_
            obtain ⟨y51, hy52, h⟩ := bindO_some h
            refine JO.call rfl rfl rfl rfl (ok_i_bad  _ hy52) rfl [] rfl rfl ?_
            intro _ _
            refine JO.ofK rfl (JK.buildSlice ttOk rfl rfl rfl rfl rfl rfl rfl rfl rfl rfl rfl [] rfl (.pair (.int .i64) (.int .i64)) [y51] ⟨rfl, rfl⟩ rfl rfl fun a53 => JO.toK ?_)
            refine JO.regB ttOk 2 [] [] [(5, .v (.slice a53 ([y51] : List (Int × Int)).length ([y51] : List (Int × Int)).length))] (.new 2 26 [.int .i64 0, .slice a47 ([(u8 (x1))] : List UInt8).length ([(u8 (x1))] : List UInt8).length] .nil) rfl ⟨⟨rfl, trivial⟩, ⟨rfl, rfl, rfl, rfl, trivial⟩⟩ ?_
            refine JO.done rfl ?_
            cases h
            exact JS.ret ttOk (a47, ([(u8 (x1))] : List UInt8).length, a53, ([y51] : List (Int × Int)).length) trivial rfl rfl [1, 0] rfl
          · have h := condF h ht66
            refine JS.skip ?_
            refine JS.seq ?_
            refine JS.region ?_
            refine JO.reg ttOk 1 [] [] [(72, .v (.agg #[.int .i64 0, .slice none 0 0]))] _ rfl ⟨⟨rfl, trivial⟩, rfl⟩ ?_
            obtain ⟨y54, hy55, h⟩ := bindO_some h
            refine JO.call rfl rfl rfl rfl (ok_i_bad  _ hy55) rfl [] rfl rfl ?_
            intro _ _
            refine JO.ofK rfl (JK.buildSlice ttOk rfl rfl rfl rfl rfl rfl rfl rfl rfl rfl rfl [] rfl (.pair (.int .i64) (.int .i64)) [y54] ⟨rfl, rfl⟩ rfl rfl fun a56 => JO.toK ?_)
            refine JO.regB ttOk 2 [] [] [(5, .v (.slice a56 ([y54] : List (Int × Int)).length ([y54] : List (Int × Int)).length))] (.new 2 26 [.int .i64 0, .slice none 0 0] .nil) rfl ⟨⟨rfl, trivial⟩, ⟨rfl, rfl, rfl, rfl, trivial⟩⟩ ?_
            refine JO.done rfl ?_
            cases h
            refine JS.nilO .byte Sl.nil rfl rfl ?_
            exact JS.ret ttOk (none, 0, a56, ([y54] : List (Int × Int)).length) trivial rfl rfl [0, 0] rfl

def M_i_decEsc (x0 : Int) : Option ((Int × List UInt8) × List (Int × Int)) :=
  (bif (decide (x0 = 91)) then
  some ((2, []), [])
  else
  (bif (decide (x0 = 79)) then
  some ((3, []), [])
  else
  (bif (decide (x0 = 27)) then
  some ((1, []), ([(7, 0)] : List (Int × Int)))
  else
  (bif (bif (decide (x0 = 8)) then true else (decide (x0 = 127))) then
  some ((0, []), ([(15, 0)] : List (Int × Int)))
  else
  (bindO (M_i_in x0 33 126) fun (y4 : Bool) =>
  (bif y4 then
  some ((0, []), ([(3, x0)] : List (Int × Int)))
  else
  (bindO (M_i_decPlain ([] : List UInt8) x0) fun (y7, y8) =>
  (guardO (([(7, 0)] : List (Int × Int)).length + y8.length ≤ 536870912) <|
  some (y7, (([(7, 0)] : List (Int × Int)) ++ y8))))))))))

theorem ok_i_decEsc (x0 : Int) (r : (Int × List UInt8) × List (Int × Int)) (h : M_i_decEsc x0 = some r) :
    FC Try.prog 56 [.int .i64 x0] [] (fun _ : Option Addr × Nat × Option Addr × Nat => True) (fun q => .tuple #[.agg #[.int .i64 r.1.1, .slice q.1 r.1.2.length q.2.1], .slice q.2.2.1 r.2.length q.2.2.2]) (fun q => [⟨.byte, ⟨q.1, r.1.2.length, q.2.1⟩, r.1.2⟩, ⟨(.pair (.int .i64) (.int .i64)), ⟨q.2.2.1, r.2.length, q.2.2.2⟩, r.2⟩]) :=
  by
    refine FC.of (T := TTx) Try.call56 Try.func56 rfl rfl fun w0 => ?_
    unfold M_i_decEsc at h
    refine JS.seq ?_
    refine JS.region ?_
    refine JO.regB ttOk 2 [] [1] [(2, .bp 1 0)] (.new 1 26 [.int .i64 0, .slice none 0 0] .nil) rfl ⟨⟨rfl, trivial⟩, ⟨rfl, rfl, rfl, rfl, trivial⟩⟩ ?_
    refine JO.done rfl ?_
    refine JS.seq ?_
    refine JS.block ?_
    refine JS.seq ?_
    refine JS.region ?_
    refine JO.reg ttOk 3 [] [] [(6, .v (.bool (decide (x0 = 91))))] _ rfl ⟨⟨rfl, trivial⟩, rfl⟩ ?_
    refine JO.done rfl ?_
    refine JS.cond rfl (fun ht28 => ?_) (fun ht28 => ?_)
    · have h := condT h ht28
      refine JS.seq ?_
      refine JS.region ?_
      refine JO.regB ttOk 3 [] [] [(3, .v (.slice none 0 0))] (.new 1 26 [.int .i64 2, .slice none 0 0] .nil) rfl ⟨⟨rfl, trivial⟩, ⟨rfl, rfl, rfl, rfl, trivial⟩⟩ ?_
      refine JO.done rfl ?_
      cases h
      refine JS.nilO .byte Sl.nil rfl rfl ?_
      refine JS.nilO (.pair (.int .i64) (.int .i64)) Sl.nil rfl rfl ?_
      exact JS.ret ttOk (none, 0, none, 0) trivial rfl rfl [1, 0] rfl
    · have h := condF h ht28
      refine JS.seq ?_
      refine JS.region ?_
      refine JO.reg ttOk 3 [] [] [(10, .v (.bool (decide (x0 = 79))))] _ rfl ⟨⟨rfl, trivial⟩, rfl⟩ ?_
      refine JO.done rfl ?_
      refine JS.cond rfl (fun ht27 => ?_) (fun ht27 => ?_)
      · have h := condT h ht27
        refine JS.seq ?_
        refine JS.region ?_
        refine JO.regB ttOk 3 [] [] [(3, .v (.slice none 0 0))] (.new 1 26 [.int .i64 3, .slice none 0 0] .nil) rfl ⟨⟨rfl, trivial⟩, ⟨rfl, rfl, rfl, rfl, trivial⟩⟩ ?_
        refine JO.done rfl ?_
        cases h
        refine JS.nilO .byte Sl.nil rfl rfl ?_
        refine JS.nilO (.pair (.int .i64) (.int .i64)) Sl.nil rfl rfl ?_
        exact JS.ret ttOk (none, 0, none, 0) trivial rfl rfl [1, 0] rfl
      · have h := condF h ht27
        refine JS.seq ?_
        refine JS.region ?_
        refine JO.reg ttOk 3 [] [] [(14, .v (.bool (decide (x0 = 27))))] _ rfl ⟨⟨rfl, trivial⟩, rfl⟩ ?_
        refine JO.done rfl ?_
        refine JS.cond rfl (fun ht26 => ?_) (fun ht26 => ?_)
        · have h := condT h ht26
          refine JS.seq ?_
          refine JS.region ?_
          refine JO.reg ttOk 2 [] [] [(17, .v (.agg #[.int .i64 1, .slice none 0 0])), (18, .v (.agg #[.int .i64 7, .int .i64 0]))] _ rfl ⟨⟨rfl, rfl, trivial⟩, rfl⟩ ?_
          refine JO.ofK rfl (JK.buildSlice ttOk rfl rfl rfl rfl rfl rfl rfl rfl rfl rfl rfl [] rfl (.pair (.int .i64) (.int .i64)) [(7, 0)] ⟨rfl, rfl⟩ rfl rfl fun a2 => JO.toK ?_)
          refine JO.regB ttOk 2 [] [] [(3, .v (.slice a2 ([(7, 0)] : List (Int × Int)).length ([(7, 0)] : List (Int × Int)).length))] (.new 1 26 [.int .i64 1, .slice none 0 0] .nil) rfl ⟨⟨rfl, trivial⟩, ⟨rfl, rfl, rfl, rfl, trivial⟩⟩ ?_
          refine JO.done rfl ?_
          cases h
          refine JS.nilO .byte Sl.nil rfl rfl ?_
          exact JS.ret ttOk (none, 0, a2, ([(7, 0)] : List (Int × Int)).length) trivial rfl rfl [0, 0] rfl
        · have h := condF h ht26
          refine JS.seq ?_
          refine JS.region ?_
          refine JO.reg ttOk 7 [] [] [(20, .v (.bool (bif (decide (x0 = 8)) then true else (decide (x0 = 127)))))] _ rfl ⟨⟨rfl, trivial⟩, rfl⟩ ?_
          refine JO.done rfl ?_
          refine JS.cond rfl (fun ht25 => ?_) (fun ht25 => ?_)
          · have h := condT h ht25
            refine JS.seq ?_
            refine JS.region ?_
            refine JO.reg ttOk 2 [] [] [(27, .v (.agg #[.int .i64 0, .slice none 0 0])), (28, .v (.agg #[.int .i64 15, .int .i64 0]))] _ rfl ⟨⟨rfl, rfl, trivial⟩, rfl⟩ ?_
            refine JO.ofK rfl (JK.buildSlice ttOk rfl rfl rfl rfl rfl rfl rfl rfl rfl rfl rfl [] rfl (.pair (.int .i64) (.int .i64)) [(15, 0)] ⟨rfl, rfl⟩ rfl rfl fun a3 => JO.toK ?_)
            refine JO.regB ttOk 2 [] [] [(3, .v (.slice a3 ([(15, 0)] : List (Int × Int)).length ([(15, 0)] : List (Int × Int)).length))] (.new 1 26 [.int .i64 0, .slice none 0 0] .nil) rfl ⟨⟨rfl, trivial⟩, ⟨rfl, rfl, rfl, rfl, trivial⟩⟩ ?_
            refine JO.done rfl ?_
            cases h
            refine JS.nilO .byte Sl.nil rfl rfl ?_
            exact JS.ret ttOk (none, 0, a3, ([(15, 0)] : List (Int × Int)).length) trivial rfl rfl [0, 0] rfl
          · have h := condF h ht25
            refine JS.seq ?_
            refine JS.region ?_
            refine JO.reg ttOk 1 [] [] [(31, .v (.int .i64 x0))] _ rfl ⟨⟨rfl, trivial⟩, rfl⟩ ?_
            obtain ⟨y4, hy5, h⟩ := bindO_some h
            refine JO.call rfl rfl rfl rfl (ok_i_in x0 33 126 _ hy5) rfl [] rfl rfl ?_
            intro _ _
            refine JO.reg ttOk 1 [] [] [(30, .v (.bool y4))] _ rfl ⟨⟨rfl, trivial⟩, rfl⟩ ?_
            refine JO.done rfl ?_
            refine JS.cond rfl (fun ht24 => ?_) (fun ht24 => ?_)
            · have h := condT h ht24
              refine JS.seq ?_
              refine JS.region ?_
              refine JO.reg ttOk 3 [] [] [(33, .v (.agg #[.int .i64 0, .slice none 0 0])), (35, .v (.agg #[.int .i64 3, .int .i64 x0]))] _ rfl ⟨⟨rfl, rfl, trivial⟩, rfl⟩ ?_
              refine JO.ofK rfl (JK.buildSlice ttOk rfl rfl rfl rfl rfl rfl rfl rfl rfl rfl rfl [] rfl (.pair (.int .i64) (.int .i64)) [(3, x0)] ⟨rfl, rfl⟩ rfl rfl fun a6 => JO.toK ?_)
              refine JO.regB ttOk 2 [] [] [(3, .v (.slice a6 ([(3, x0)] : List (Int × Int)).length ([(3, x0)] : List (Int × Int)).length))] (.new 1 26 [.int .i64 0, .slice none 0 0] .nil) rfl ⟨⟨rfl, trivial⟩, ⟨rfl, rfl, rfl, rfl, trivial⟩⟩ ?_
              refine JO.done rfl ?_
              cases h
              refine JS.nilO .byte Sl.nil rfl rfl ?_
              exact JS.ret ttOk (none, 0, a6, ([(3, x0)] : List (Int × Int)).length) trivial rfl rfl [0, 0] rfl
            · have h := condF h ht24
              refine JS.skip ?_
              refine JS.endB ?_
              refine JS.seq ?_
              refine JS.region ?_
              refine JO.reg ttOk 1 [] [] [(38, .v (.int .i64 x0))] _ rfl ⟨⟨rfl, trivial⟩, rfl⟩ ?_
              obtain ⟨⟨y7, y8⟩, hy9, h⟩ := bindO_some h
              refine JO.nilR .byte Sl.nil rfl rfl ?_
              refine JO.call rfl rfl rfl rfl (ok_i_decPlain ([] : List UInt8) x0 none 0 (([] : List UInt8).length) rfl _ hy9) rfl [0] rfl rfl ?_
              rintro ⟨a10, c11, a12, c13⟩ -
              refine JO.regB ttOk 6 [] [20] [(4, .bp 20 0), (5, .v (.slice a12 y8.length c13))] (.new 1 26 [.int .i64 0, .slice none 0 0] (.new 20 26 [.int .i64 y7.1, .slice a10 y7.2.length c11] .nil)) rfl ⟨⟨rfl, rfl, trivial⟩, ⟨rfl, rfl, rfl, rfl, rfl, rfl, rfl, rfl, trivial⟩⟩ ?_
              refine JO.done rfl ?_
              refine JS.seq ?_
              obtain ⟨g15, h⟩ := guardO_some h
              refine JS.regionA rfl (.new 20 26 [.int .i64 y7.1, .slice a10 y7.2.length c11] .nil) [] [5, 6] ⟨rfl, rfl, rfl, rfl, trivial⟩ rfl (fun be18 => ?_)
              refine JA.reg ttOk panic_cx true 6 [0] rfl (by kernel_rfl) [] [(42, .v (.agg #[.int .i64 y7.1, .slice a10 y7.2.length c11]))] ⟨rfl, rfl, rfl, rfl, trivial⟩ [] rfl rfl ⟨rfl, trivial⟩ ?_
              refine JA.regL ttOk panic_cx 4 [1, 3] rfl (by kernel_rfl) [] [(42, .v (.agg #[.int .i64 y7.1, .slice a10 y7.2.length c11])), (43, .v (.agg #[.int .i64 7, .int .i64 0])), (45, .v (.slice a12 y8.length c13))] rfl ⟨rfl, rfl, rfl, trivial⟩ ?_
              refine JA.one 2 (by kernel_rfl) ?_
              refine JK.buildSlice ttOk rfl rfl rfl rfl rfl rfl rfl rfl rfl rfl rfl [] rfl (.pair (.int .i64) (.int .i64)) [(7, 0)] ⟨rfl, rfl⟩ rfl rfl ?_
              intro a14
              refine JA.next ⟨rfl, rfl, rfl, rfl, trivial⟩ [] rfl ?_
              refine JA.one 4 (by kernel_rfl) ?_
              refine JK.appendR' ttOk rfl rfl rfl rfl ⟨rfl, rfl, rfl, rfl, trivial, rfl, rfl, rfl, rfl⟩ rfl rfl rfl [0] rfl 3 rfl g15 rfl ?_
              intro a16 c17
              refine JA.next ⟨rfl, rfl, rfl, rfl, trivial⟩ [] rfl ?_
              refine JA.one 5 (by kernel_rfl) ?_
              refine JK.stBox ttOk rfl rfl rfl rfl rfl rfl rfl rfl ?_
              refine JK.boxes (B' := (.new 1 26 [.int .i64 y7.1, .slice a10 y7.2.length c11] (.new 20 26 [.int .i64 y7.1, .slice a10 y7.2.length c11] .nil))) ⟨rfl, rfl, rfl, rfl, rfl, rfl, rfl, rfl, trivial⟩ ?_
              refine JA.nextL rfl ?_
              refine JA.regL ttOk panic_cx 0 [6] rfl (by kernel_rfl) [] [(3, .v (.slice a16 (([(7, 0)] : List (Int × Int)) ++ y8).length c17)), (42, .v (.agg #[.int .i64 y7.1, .slice a10 y7.2.length c11])), (43, .v (.agg #[.int .i64 7, .int .i64 0])), (44, .v (.slice a14 ([(7, 0)] : List (Int × Int)).length ([(7, 0)] : List (Int × Int)).length)), (45, .v (.slice a12 y8.length c13)), (46, .v (.slice a16 (([(7, 0)] : List (Int × Int)) ++ y8).length c17))] rfl ⟨rfl, rfl, rfl, rfl, rfl, rfl, trivial⟩ ?_
              refine JA.done (by kernel_rfl) ?_
              refine JS.boxes (B' := (.new 1 26 [.int .i64 y7.1, .slice a10 y7.2.length c11] .nil)) ⟨rfl, rfl, rfl, rfl, trivial⟩ ?_
              cases h
              exact JS.ret ttOk (a10, c11, a16, c17) trivial rfl rfl [1, 0] rfl

end
end Go.Eng
