/- The walks of the functions that FnExactDecTick reaches: what each computes, as a plain function (M_..), and that the model computes it (ok_..). Condition of each: that the plain function answers. -/
import Derived.Test.YtgpolgjhiknefaaEngB
import Derived.Test.YtgpolgjhiknefaaChecked
set_option linter.unusedVariables false
set_option linter.unusedSimpArgs false
namespace Go.Eng
open Go Go.Proofs
noncomputable section

def TTx : TT := [
  (2, ⟨.int .i64, 1, 8, [.int .i64 0]⟩),
  (3, ⟨.int .i64, 1, 8, [.int .i64 0]⟩),
  (4, ⟨.bool, 1, 1, [.bool false]⟩),
  (5, ⟨.int .u8, 1, 1, [.int .u8 0]⟩),
  (6, ⟨.int .u8, 1, 1, [.int .u8 0]⟩),
  (7, ⟨.struct [(0, 2), (1, 3), (2, 4), (3, 6)], 4, 24, [.int .i64 0, .int .i64 0, .bool false, .int .u8 0]⟩),
  (8, ⟨.struct [(0, 2), (1, 3), (2, 4), (3, 6)], 4, 24, [.int .i64 0, .int .i64 0, .bool false, .int .u8 0]⟩),
  (9, ⟨.str, 1, 16, [.string ByteArray.empty]⟩),
  (10, ⟨.str, 1, 16, [.string ByteArray.empty]⟩),
  (11, ⟨.str, 1, 16, [.string ByteArray.empty]⟩),
  (12, ⟨.int .u64, 1, 8, [.int .u64 0]⟩),
  (13, ⟨.struct [(0, 9), (1, 12)], 2, 24, [.string ByteArray.empty, .int .u64 0]⟩),
  (14, ⟨.struct [(0, 9), (1, 12)], 2, 24, [.string ByteArray.empty, .int .u64 0]⟩),
  (21, ⟨.int .i32, 1, 4, [.int .i32 0]⟩),
  (22, ⟨.slice 5, 1, 24, [.slice none 0 0]⟩),
  (23, ⟨.struct [(0, 3), (1, 22)], 2, 32, [.int .i64 0, .slice none 0 0]⟩),
  (24, ⟨.struct [(0, 3), (1, 22)], 2, 32, [.int .i64 0, .slice none 0 0]⟩),
  (26, ⟨.struct [(0, 3), (1, 22)], 2, 32, [.int .i64 0, .slice none 0 0]⟩),
  (27, ⟨.slice 40, 1, 24, [.slice none 0 0]⟩),
  (39, ⟨.struct [(0, 3), (1, 3)], 2, 16, [.int .i64 0, .int .i64 0]⟩),
  (40, ⟨.struct [(0, 3), (1, 3)], 2, 16, [.int .i64 0, .int .i64 0]⟩),
  (64, ⟨.struct [(0, 22), (1, 3), (2, 3)], 3, 40, [.slice none 0 0, .int .i64 0, .int .i64 0]⟩),
  (65, ⟨.struct [(0, 22), (1, 3), (2, 3)], 3, 40, [.slice none 0 0, .int .i64 0, .int .i64 0]⟩),
  (68, ⟨.slice 3, 1, 24, [.slice none 0 0]⟩),
  (71, ⟨.int .u64, 1, 8, [.int .u64 0]⟩),
  (79, ⟨.int .u32, 1, 4, [.int .u32 0]⟩),
  (80, ⟨.int .u8, 1, 1, [.int .u8 0]⟩),
  (81, ⟨.int .u8, 1, 1, [.int .u8 0]⟩),
  (84, ⟨.int .i32, 1, 4, [.int .i32 0]⟩),
  (85, ⟨.int .i32, 1, 4, [.int .i32 0]⟩)]

set_option maxRecDepth 100000 in
theorem ttOk : TTok Try.prog TTx := TTok.of (by
  simp only [TTx, List.forall_mem_cons]
  exact ⟨⟨⟨_, _, rfl, rfl, rfl, rfl, rfl⟩, rfl⟩, ⟨⟨_, _, rfl, rfl, rfl, rfl, rfl⟩, rfl⟩, ⟨⟨_, _, rfl, rfl, rfl, rfl, rfl⟩, rfl⟩, ⟨⟨_, _, rfl, rfl, rfl, rfl, rfl⟩, rfl⟩, ⟨⟨_, _, rfl, rfl, rfl, rfl, rfl⟩, rfl⟩, ⟨⟨_, _, rfl, rfl, rfl, rfl, rfl⟩, ⟨_, rfl, rfl⟩⟩, ⟨⟨_, _, rfl, rfl, rfl, rfl, rfl⟩, ⟨_, rfl, rfl⟩⟩, ⟨⟨_, _, rfl, rfl, rfl, rfl, rfl⟩, rfl⟩, ⟨⟨_, _, rfl, rfl, rfl, rfl, rfl⟩, rfl⟩, ⟨⟨_, _, rfl, rfl, rfl, rfl, rfl⟩, rfl⟩, ⟨⟨_, _, rfl, rfl, rfl, rfl, rfl⟩, rfl⟩, ⟨⟨_, _, rfl, rfl, rfl, rfl, rfl⟩, ⟨_, rfl, rfl⟩⟩, ⟨⟨_, _, rfl, rfl, rfl, rfl, rfl⟩, ⟨_, rfl, rfl⟩⟩, ⟨⟨_, _, rfl, rfl, rfl, rfl, rfl⟩, rfl⟩, ⟨⟨_, _, rfl, rfl, rfl, rfl, rfl⟩, rfl⟩, ⟨⟨_, _, rfl, rfl, rfl, rfl, rfl⟩, ⟨_, rfl, rfl⟩⟩, ⟨⟨_, _, rfl, rfl, rfl, rfl, rfl⟩, ⟨_, rfl, rfl⟩⟩, ⟨⟨_, _, rfl, rfl, rfl, rfl, rfl⟩, ⟨_, rfl, rfl⟩⟩, ⟨⟨_, _, rfl, rfl, rfl, rfl, rfl⟩, rfl⟩, ⟨⟨_, _, rfl, rfl, rfl, rfl, rfl⟩, ⟨_, rfl, rfl⟩⟩, ⟨⟨_, _, rfl, rfl, rfl, rfl, rfl⟩, ⟨_, rfl, rfl⟩⟩, ⟨⟨_, _, rfl, rfl, rfl, rfl, rfl⟩, ⟨_, rfl, rfl⟩⟩, ⟨⟨_, _, rfl, rfl, rfl, rfl, rfl⟩, ⟨_, rfl, rfl⟩⟩, ⟨⟨_, _, rfl, rfl, rfl, rfl, rfl⟩, rfl⟩, ⟨⟨_, _, rfl, rfl, rfl, rfl, rfl⟩, rfl⟩, ⟨⟨_, _, rfl, rfl, rfl, rfl, rfl⟩, rfl⟩, ⟨⟨_, _, rfl, rfl, rfl, rfl, rfl⟩, rfl⟩, ⟨⟨_, _, rfl, rfl, rfl, rfl, rfl⟩, rfl⟩, ⟨⟨_, _, rfl, rfl, rfl, rfl, rfl⟩, rfl⟩, ⟨⟨_, _, rfl, rfl, rfl, rfl, rfl⟩, rfl⟩, by simp⟩)

def M_l_szByteS (x0 : List UInt8) (x1 : Int) : Option Int :=
  (bif (decide ((W (x1 - (x0.length : Int))) < 0)) then
  some (-1)
  else
  some (W (x1 - (x0.length : Int))))

theorem ok_l_szByteS (x0 : List UInt8) (x1 : Int) (a3 : Option Addr) (c4 : Nat) (l5 : Nat) (hl6 : x0.length = l5) (r : Int) (h : M_l_szByteS x0 x1 = some r) :
    FC Try.prog 30 [.slice a3 l5 c4, .int .i64 x1] [⟨.byte, ⟨a3, l5, c4⟩, x0⟩] (fun _ : Unit => True) (fun _ => .int .i64 r) (fun _ => []) :=
  by
    subst hl6
    refine FC.of (T := TTx) Try.call30 Try.func30 rfl rfl fun w0 => ?_
    unfold M_l_szByteS at h
    refine JS.seq ?_
    refine JS.region ?_
    refine JO.reg ttOk 1 [] [] [] _ rfl ⟨trivial, rfl⟩ ?_
    refine JO.done rfl ?_
    refine JS.seq ?_
    refine JS.region ?_
    refine JO.reg ttOk 5 [(W (x1 - (x0.length : Int)))] [] [(1, .v (.int .i64 (W (x1 - (x0.length : Int)))))] _ rfl ⟨⟨trivial, rfl⟩, ⟨rfl, trivial⟩, rfl⟩ ?_
    refine JO.done rfl ?_
    refine JS.seq ?_
    refine JS.seq ?_
    refine JS.region ?_
    refine JO.reg ttOk 2 [] [] [(10, .v (.bool (decide ((W (x1 - (x0.length : Int))) < 0))))] _ rfl ⟨⟨rfl, trivial⟩, rfl⟩ ?_
    refine JO.done rfl ?_
    refine JS.cond rfl (fun ht8 => ?_) (fun ht8 => ?_)
    · have h := condT h ht8
      refine JS.seq ?_
      refine JS.region ?_
      refine JO.reg ttOk 1 [] [] [(4, .v (.int .i64 (-1)))] _ rfl ⟨⟨rfl, trivial⟩, rfl⟩ ?_
      refine JO.done rfl ?_
      cases h
      exact JS.ret ttOk () trivial rfl rfl [] rfl
    · have h := condF h ht8
      refine JS.skip ?_
      refine JS.seq ?_
      refine JS.region ?_
      refine JO.reg ttOk 2 [] [] [(4, .v (.int .i64 (W (x1 - (x0.length : Int)))))] _ rfl ⟨⟨rfl, trivial⟩, rfl⟩ ?_
      refine JO.done rfl ?_
      cases h
      exact JS.ret ttOk () trivial rfl rfl [] rfl

def M_l_szDec (x0 : Int × List UInt8) (x1 : Int) : Option Int :=
  (bindO (M_l_szByteS x0.2 x1) fun (y7 : Int) =>
  (bif (decide (y7 < 0)) then
  some (-1)
  else
  some y7))

theorem ok_l_szDec (x0 : Int × List UInt8) (x1 : Int) (a3 : Option Addr) (c4 : Nat) (l5 : Nat) (hl6 : x0.2.length = l5) (r : Int) (h : M_l_szDec x0 x1 = some r) :
    FC Try.prog 8 [.agg #[.int .i64 x0.1, .slice a3 l5 c4], .int .i64 x1] [⟨.byte, ⟨a3, l5, c4⟩, x0.2⟩] (fun _ : Unit => True) (fun _ => .int .i64 r) (fun _ => []) :=
  by
    subst hl6
    refine FC.of (T := TTx) Try.call8 Try.func8 rfl rfl fun w0 => ?_
    unfold M_l_szDec at h
    refine JS.seq ?_
    refine JS.region ?_
    refine JO.regB ttOk 2 [] [2] [(2, .bp 2 0)] (.new 2 24 [.int .i64 x0.1, .slice a3 x0.2.length c4] .nil) rfl ⟨⟨rfl, trivial⟩, ⟨rfl, rfl, rfl, rfl, trivial⟩⟩ ?_
    refine JO.done rfl ?_
    refine JS.seq ?_
    refine JS.region ?_
    refine JO.reg ttOk 3 [] [] [(6, .v (.slice a3 x0.2.length c4)), (7, .v (.int .i64 x1))] _ rfl ⟨⟨rfl, rfl, trivial⟩, rfl⟩ ?_
    obtain ⟨y7, hy8, h⟩ := bindO_some h
    refine JO.call rfl rfl rfl rfl (ok_l_szByteS x0.2 x1 a3 c4 x0.2.length rfl _ hy8) rfl [0] rfl rfl ?_
    intro _ _
    refine JO.reg ttOk 1 [] [] [(1, .v (.int .i64 y7))] _ rfl ⟨⟨rfl, trivial⟩, rfl⟩ ?_
    refine JO.done rfl ?_
    refine JS.seq ?_
    refine JS.seq ?_
    refine JS.region ?_
    refine JO.reg ttOk 2 [] [] [(10, .v (.bool (decide (y7 < 0))))] _ rfl ⟨⟨rfl, trivial⟩, rfl⟩ ?_
    refine JO.done rfl ?_
    refine JS.cond rfl (fun ht10 => ?_) (fun ht10 => ?_)
    · have h := condT h ht10
      refine JS.seq ?_
      refine JS.region ?_
      refine JO.reg ttOk 1 [] [] [(4, .v (.int .i64 (-1)))] _ rfl ⟨⟨rfl, trivial⟩, rfl⟩ ?_
      refine JO.done rfl ?_
      cases h
      exact JS.ret ttOk () trivial rfl rfl [] rfl
    · have h := condF h ht10
      refine JS.skip ?_
      refine JS.seq ?_
      refine JS.region ?_
      refine JO.reg ttOk 2 [] [] [(4, .v (.int .i64 y7))] _ rfl ⟨⟨rfl, trivial⟩, rfl⟩ ?_
      refine JO.done rfl ?_
      cases h
      exact JS.ret ttOk () trivial rfl rfl [] rfl

def M_l_toByteS_L1 (x0 : List UInt8) (j25 : (List UInt8) → Option (List UInt8)) (k17 : (List UInt8 × Int) → Option (List UInt8)) : (List UInt8 × Int) → Option (List UInt8) := fun (x8, x11) =>
  (bif (decide (x11 < (x0.length : Int))) then
  (guardO (0 ≤ x11 ∧ x11 < (x0.length : Int)) <|
  (guardO (0 ≤ x11 ∧ x11 < (x8.length : Int)) <|
  k17 ((List.set x8 (Int.toNat x11) (at' x0 x11)), (W (x11 + 1)))))
  else
  j25 x8)

def M_l_toByteS (x0 : List UInt8) : Option (List UInt8) :=
  (guardO (x0.length ≤ 536870912) <|
  (joinO (fun (x22 : List UInt8) =>
  some x22) fun j25 =>
  (fixF (M_l_toByteS_L1 x0 j25) FUEL ((List.replicate x0.length (0 : UInt8)), 0))))

theorem ok_l_toByteS (x0 : List UInt8) (a2 : Option Addr) (c3 : Nat) (l4 : Nat) (hl5 : x0.length = l4) (r : List UInt8) (h : M_l_toByteS x0 = some r) :
    FC Try.prog 27 [.slice a2 l4 c3] [⟨.byte, ⟨a2, l4, c3⟩, x0⟩] (fun _ : Option Addr × Nat => True) (fun q => .slice q.1 r.length q.2) (fun q => [⟨.byte, ⟨q.1, r.length, q.2⟩, r⟩]) :=
  by
    subst hl5
    refine FC.of (T := TTx) Try.call27 Try.func27 rfl rfl fun w0 => ?_
    unfold M_l_toByteS at h
    refine JS.seq ?_
    refine JS.region ?_
    refine JO.reg ttOk 1 [] [] [] _ rfl ⟨trivial, rfl⟩ ?_
    refine JO.done rfl ?_
    refine JS.seq ?_
    refine JS.region ?_
    refine JO.reg ttOk 2 [] [] [(6, .v (.int .i64 (x0.length : Int)))] _ rfl ⟨⟨rfl, trivial⟩, rfl⟩ ?_
    obtain ⟨g6, h⟩ := guardO_some h
    refine JO.makeSlice ttOk rfl rfl rfl rfl rfl rfl rfl rfl x0.length rfl g6 .byte rfl rfl rfl rfl rfl ?_
    intro a7
    refine JO.reg ttOk 1 [] [] [(3, .v (.slice a7 x0.length x0.length))] _ rfl ⟨⟨rfl, trivial⟩, rfl⟩ ?_
    refine JO.done rfl ?_
    refine JS.seq ?_
    refine JS.seq ?_
    refine JS.region ?_
    refine JO.reg ttOk 1 [] [] [(4, .v (.int .i64 0))] _ rfl ⟨⟨rfl, trivial⟩, rfl⟩ ?_
    refine JO.done rfl ?_
    obtain ⟨j25, hj33, h⟩ := joinO_some h
    refine JS.blockJ (ι := List UInt8 × Option Addr × Nat) ⟨fun z => j25 z.1 = some r, fun z => [(3, .v (.slice z.2.1 z.1.length z.2.2))], fun z => .nil, fun z => [], fun z => [⟨.byte, ⟨z.2.1, z.1.length, z.2.2⟩, z.1⟩], fun z => 0⟩ ?_ ?_
    · refine JS.loop (ι := Nat × List UInt8 × Int × Option Addr × Nat) ⟨fun z => fixF (M_l_toByteS_L1 x0 j25) z.1 (z.2.1, z.2.2.1) = some r, fun z => [(0, .v (.slice a2 x0.length c3)), (3, .v (.slice z.2.2.2.1 z.2.1.length z.2.2.2.2)), (4, .v (.int .i64 z.2.2.1))], fun z => .nil, fun z => [⟨.byte, ⟨a2, x0.length, c3⟩, x0⟩], fun z => [⟨.byte, ⟨z.2.2.2.1, z.2.1.length, z.2.2.2.2⟩, z.2.1⟩], fun z => z.1⟩ (FUEL, (List.replicate x0.length (0 : UInt8)), 0, a7, x0.length) h ⟨rfl, (by simp only [List.length_set, List.length_replicate, pickO, getF]; rfl), rfl, trivial⟩ trivial [0] rfl [0] (by simp only [List.length_set, List.length_replicate, pickO, getF]; rfl) ?_
      rintro ⟨n18, x8, x11, a9, c10⟩ h
      obtain ⟨n18, rfl, h⟩ := fixF_some h
      rw [M_l_toByteS_L1] at h
      refine JS.seq ?_
      refine JS.seq ?_
      refine JS.region ?_
      refine JO.reg ttOk 4 [] [] [(11, .v (.bool (decide (x11 < (x0.length : Int)))))] _ rfl ⟨⟨rfl, trivial⟩, rfl⟩ ?_
      refine JO.done rfl ?_
      refine JS.cond rfl (fun ht32 => ?_) (fun ht32 => ?_)
      · have h := condT h ht32
        refine JS.skip ?_
        refine JS.seq ?_
        refine JS.block ?_
        refine JS.region ?_
        refine JO.know 0 rfl fun hs30 => ?_
        obtain ⟨g13, h⟩ := guardO_some h
        refine JO.reg ttOk 5 [] [] [(14, .v (.slice a9 x8.length c10)), (15, .v (.int .i64 x11)), (18, .ep ⟨a2, x0.length, c3⟩ (Int.toNat x11 * 1))] _ rfl ⟨hs30.ix g13, ⟨rfl, rfl, rfl, trivial⟩, rfl⟩ ?_
        refine JO.load ttOk rfl rfl rfl rfl rfl rfl rfl 0 rfl rfl (Int.toNat x11) 0 (at' x0 x11) ⟨at_some g13, rfl⟩ rfl rfl ?_
        refine JO.know 1 rfl fun hs31 => ?_
        obtain ⟨g15, h⟩ := guardO_some h
        refine JO.reg ttOk 1 [] [] [(20, .ep ⟨a9, x8.length, c10⟩ (Int.toNat x11 * 1))] _ rfl ⟨hs31.ix g15, ⟨rfl, trivial⟩, rfl⟩ ?_
        refine JO.storeE ttOk rfl rfl rfl rfl rfl rfl rfl rfl rfl [0] (fs := []) rfl (Int.toNat x11) 0 (at' x8 x11) (at' x0 x11) ⟨at_some g15, rfl⟩ ⟨rfl, rfl, rfl⟩ ?_
        refine JO.done rfl ?_
        refine JS.endB ?_
        refine JS.region ?_
        refine JO.reg ttOk 3 [(W (x11 + 1))] [] [(4, .v (.int .i64 (W (x11 + 1))))] _ rfl ⟨⟨trivial, rfl⟩, ⟨rfl, trivial⟩, rfl⟩ ?_
        refine JO.done rfl ?_
        exact JS.endL (n18, (List.set x8 (Int.toNat x11) (at' x0 x11)), (W (x11 + 1)), a9, c10) h (Nat.lt_succ_self _) ⟨rfl, (by simp only [List.length_set, List.length_replicate, pickO, getF]; rfl), rfl, trivial⟩ trivial [0] rfl [0] (by simp only [List.length_set, List.length_replicate, pickO, getF]; rfl)
      · have h := condF h ht32
        refine JS.exit rfl ?_
        exact JS.endJ (x8, a9, c10) h ⟨rfl, trivial⟩ trivial [] rfl [0] rfl
    · rintro ⟨x22, a23, c24⟩ h
      subst hj33
      refine JS.seq ?_
      refine JS.region ?_
      refine JO.reg ttOk 2 [] [] [(2, .v (.slice a23 x22.length c24))] _ rfl ⟨⟨rfl, trivial⟩, rfl⟩ ?_
      refine JO.done rfl ?_
      cases h
      exact JS.ret ttOk (a23, c24) trivial rfl rfl [0] rfl

def M_l_toDec (x0 : Int × List UInt8) : Option (Int × List UInt8) :=
  (bindO (M_l_toByteS x0.2) fun (y6 : List UInt8) =>
  some (x0.1, y6))

theorem ok_l_toDec (x0 : Int × List UInt8) (a2 : Option Addr) (c3 : Nat) (l4 : Nat) (hl5 : x0.2.length = l4) (r : Int × List UInt8) (h : M_l_toDec x0 = some r) :
    FC Try.prog 10 [.agg #[.int .i64 x0.1, .slice a2 l4 c3]] [⟨.byte, ⟨a2, l4, c3⟩, x0.2⟩] (fun _ : Option Addr × Nat => True) (fun q => .agg #[.int .i64 r.1, .slice q.1 r.2.length q.2]) (fun q => [⟨.byte, ⟨q.1, r.2.length, q.2⟩, r.2⟩]) :=
  by
    subst hl5
    refine FC.of (T := TTx) Try.call10 Try.func10 rfl rfl fun w0 => ?_
    unfold M_l_toDec at h
    refine JS.seq ?_
    refine JS.region ?_
    refine JO.regB ttOk 2 [] [2, 3] [(1, .bp 2 0), (2, .bp 3 0)] (.new 2 24 [.int .i64 x0.1, .slice a2 x0.2.length c3] (.new 3 26 [.int .i64 0, .slice none 0 0] .nil)) rfl ⟨⟨rfl, rfl, trivial⟩, ⟨rfl, rfl, rfl, rfl, rfl, rfl, rfl, rfl, trivial⟩⟩ ?_
    refine JO.done rfl ?_
    refine JS.seq ?_
    refine JS.region ?_
    refine JO.regB ttOk 1 [] [4] [(3, .bp 4 0)] (.new 2 24 [.int .i64 x0.1, .slice a2 x0.2.length c3] (.new 3 26 [.int .i64 0, .slice none 0 0] (.new 4 26 [.int .i64 0, .slice none 0 0] .nil))) rfl ⟨⟨rfl, trivial⟩, ⟨rfl, rfl, rfl, rfl, rfl, rfl, rfl, rfl, rfl, rfl, rfl, rfl, trivial⟩⟩ ?_
    refine JO.done rfl ?_
    refine JS.seq ?_
    refine JS.region ?_
    refine JO.regB ttOk 4 [] [] [] (.new 2 24 [.int .i64 x0.1, .slice a2 x0.2.length c3] (.new 3 26 [.int .i64 0, .slice none 0 0] (.new 4 26 [.int .i64 x0.1, .slice none 0 0] .nil))) rfl ⟨trivial, ⟨rfl, rfl, rfl, rfl, rfl, rfl, rfl, rfl, rfl, rfl, rfl, rfl, trivial⟩⟩ ?_
    refine JO.done rfl ?_
    refine JS.seq ?_
    refine JS.region ?_
    refine JO.reg ttOk 2 [] [] [(8, .v (.slice a2 x0.2.length c3))] _ rfl ⟨⟨rfl, trivial⟩, rfl⟩ ?_
    obtain ⟨y6, hy7, h⟩ := bindO_some h
    refine JO.call rfl rfl rfl rfl (ok_l_toByteS x0.2 a2 c3 x0.2.length rfl _ hy7) rfl [0] rfl rfl ?_
    rintro ⟨a8, c9⟩ -
    refine JO.regB ttOk 2 [] [] [] (.new 3 26 [.int .i64 0, .slice none 0 0] (.new 4 26 [.int .i64 x0.1, .slice a8 y6.length c9] .nil)) rfl ⟨trivial, ⟨rfl, rfl, rfl, rfl, rfl, rfl, rfl, rfl, trivial⟩⟩ ?_
    refine JO.done rfl ?_
    refine JS.seq ?_
    refine JS.region ?_
    refine JO.regB ttOk 2 [] [] [] (.new 3 26 [.int .i64 x0.1, .slice a8 y6.length c9] .nil) rfl ⟨trivial, ⟨rfl, rfl, rfl, rfl, trivial⟩⟩ ?_
    refine JO.done rfl ?_
    cases h
    exact JS.ret ttOk (a8, c9) trivial rfl rfl [0] rfl

def M_s_l12Param (x0 : Int) : Option Bool :=
  some (bif (bif (decide (48 ≤ x0)) then (decide (x0 ≤ 57)) else false) then true else (decide (x0 = 59)))

theorem ok_s_l12Param (x0 : Int) (r : Bool) (h : M_s_l12Param x0 = some r) :
    FC Try.prog 52 [.int .i64 x0] [] (fun _ : Unit => True) (fun _ => .bool r) (fun _ => []) :=
  by
    refine FC.of (T := TTx) Try.call52 Try.func52 rfl rfl fun w0 => ?_
    unfold M_s_l12Param at h
    refine JS.seq ?_
    refine JS.region ?_
    refine JO.reg ttOk 1 [] [] [] _ rfl ⟨trivial, rfl⟩ ?_
    refine JO.done rfl ?_
    refine JS.seq ?_
    refine JS.region ?_
    refine JO.reg ttOk 11 [] [] [(2, .v (.bool (bif (bif (decide (48 ≤ x0)) then (decide (x0 ≤ 57)) else false) then true else (decide (x0 = 59)))))] _ rfl ⟨⟨rfl, trivial⟩, rfl⟩ ?_
    refine JO.done rfl ?_
    cases h
    exact JS.ret ttOk () trivial rfl rfl [] rfl

def M_s_RuneOk (x0 : Int) : Option Bool :=
  some (bif (bif (decide (0 ≤ x0)) then (decide (x0 ≤ 1114111)) else false) then (bif (decide (x0 < 55296)) then true else (decide (57343 < x0))) else false)

theorem ok_s_RuneOk (x0 : Int) (r : Bool) (h : M_s_RuneOk x0 = some r) :
    FC Try.prog 67 [.int .i64 x0] [] (fun _ : Unit => True) (fun _ => .bool r) (fun _ => []) :=
  by
    refine FC.of (T := TTx) Try.call67 Try.func67 rfl rfl fun w0 => ?_
    unfold M_s_RuneOk at h
    refine JS.seq ?_
    refine JS.region ?_
    refine JO.reg ttOk 1 [] [] [] _ rfl ⟨trivial, rfl⟩ ?_
    refine JO.done rfl ?_
    refine JS.seq ?_
    refine JS.region ?_
    refine JO.reg ttOk 15 [] [] [(2, .v (.bool (bif (bif (decide (0 ≤ x0)) then (decide (x0 ≤ 1114111)) else false) then (bif (decide (x0 < 55296)) then true else (decide (57343 < x0))) else false)))] _ rfl ⟨⟨rfl, trivial⟩, rfl⟩ ?_
    refine JO.done rfl ?_
    cases h
    exact JS.ret ttOk () trivial rfl rfl [] rfl

def M_s_RuneBytes (x0 : Int) : Option (List UInt8) :=
  (bindO (M_s_RuneOk x0) fun (y2 : Bool) =>
  (bif (!y2) then
  some ([])
  else
  (bif (decide (x0 < 128)) then
  some ([(u8 (x0))] : List UInt8)
  else
  (bif (decide (x0 < 2048)) then
  some ([(u8 ((W (192 + (W (Int.tdiv x0 64)))))), (u8 ((W (128 + (Int.tmod x0 64)))))] : List UInt8)
  else
  (bif (decide (x0 < 65536)) then
  some ([(u8 ((W (224 + (W (Int.tdiv x0 4096)))))), (u8 ((W (128 + (Int.tmod (W (Int.tdiv x0 64)) 64))))), (u8 ((W (128 + (Int.tmod x0 64)))))] : List UInt8)
  else
  some ([(u8 ((W (240 + (W (Int.tdiv x0 262144)))))), (u8 ((W (128 + (Int.tmod (W (Int.tdiv x0 4096)) 64))))), (u8 ((W (128 + (Int.tmod (W (Int.tdiv x0 64)) 64))))), (u8 ((W (128 + (Int.tmod x0 64)))))] : List UInt8))))))

theorem ok_s_RuneBytes (x0 : Int) (r : List UInt8) (h : M_s_RuneBytes x0 = some r) :
    FC Try.prog 66 [.int .i64 x0] [] (fun _ : Option Addr × Nat => True) (fun q => .slice q.1 r.length q.2) (fun q => [⟨.byte, ⟨q.1, r.length, q.2⟩, r⟩]) :=
  by
    refine FC.of (T := TTx) Try.call66 Try.func66 rfl rfl fun w0 => ?_
    unfold M_s_RuneBytes at h
    refine JS.seq ?_
    refine JS.region ?_
    refine JO.reg ttOk 1 [] [] [] _ rfl ⟨trivial, rfl⟩ ?_
    refine JO.done rfl ?_
    refine JS.seq ?_
    refine JS.seq ?_
    refine JS.region ?_
    refine JO.reg ttOk 1 [] [] [(3, .v (.int .i64 x0))] _ rfl ⟨⟨rfl, trivial⟩, rfl⟩ ?_
    obtain ⟨y2, hy3, h⟩ := bindO_some h
    refine JO.call rfl rfl rfl rfl (ok_s_RuneOk x0 _ hy3) rfl [] rfl rfl ?_
    intro _ _
    refine JO.reg ttOk 1 [] [] [(5, .v (.bool (!y2)))] _ rfl ⟨⟨rfl, trivial⟩, rfl⟩ ?_
    refine JO.done rfl ?_
    refine JS.cond rfl (fun ht27 => ?_) (fun ht27 => ?_)
    · have h := condT h ht27
      refine JS.seq ?_
      refine JS.region ?_
      refine JO.reg ttOk 1 [] [] [(2, .v (.slice none 0 0))] _ rfl ⟨⟨rfl, trivial⟩, rfl⟩ ?_
      refine JO.done rfl ?_
      cases h
      refine JS.nilO .byte Sl.nil rfl rfl ?_
      exact JS.ret ttOk (none, 0) trivial rfl rfl [0] rfl
    · have h := condF h ht27
      refine JS.skip ?_
      refine JS.seq ?_
      refine JS.seq ?_
      refine JS.region ?_
      refine JO.reg ttOk 2 [] [] [(7, .v (.bool (decide (x0 < 128))))] _ rfl ⟨⟨rfl, trivial⟩, rfl⟩ ?_
      refine JO.done rfl ?_
      refine JS.cond rfl (fun ht26 => ?_) (fun ht26 => ?_)
      · have h := condT h ht26
        refine JS.seq ?_
        refine JS.region ?_
        refine JO.reg ttOk 2 [((u8 (x0)).toNat : Int)] [] [(9, .v (.int .u8 ((u8 (x0)).toNat : Int)))] _ rfl ⟨⟨trivial, u8_wrap _⟩, ⟨rfl, trivial⟩, rfl⟩ ?_
        refine JO.ofK rfl (JK.buildSlice ttOk rfl rfl rfl rfl rfl rfl rfl rfl rfl rfl rfl [] rfl .byte [(u8 (x0))] ⟨rfl, rfl⟩ rfl rfl fun a4 => JO.toK ?_)
        refine JO.reg ttOk 1 [] [] [(2, .v (.slice a4 ([(u8 (x0))] : List UInt8).length ([(u8 (x0))] : List UInt8).length))] _ rfl ⟨⟨rfl, trivial⟩, rfl⟩ ?_
        refine JO.done rfl ?_
        cases h
        exact JS.ret ttOk (a4, ([(u8 (x0))] : List UInt8).length) trivial rfl rfl [0] rfl
      · have h := condF h ht26
        refine JS.skip ?_
        refine JS.seq ?_
        refine JS.seq ?_
        refine JS.region ?_
        refine JO.reg ttOk 2 [] [] [(12, .v (.bool (decide (x0 < 2048))))] _ rfl ⟨⟨rfl, trivial⟩, rfl⟩ ?_
        refine JO.done rfl ?_
        refine JS.cond rfl (fun ht25 => ?_) (fun ht25 => ?_)
        · have h := condT h ht25
          refine JS.seq ?_
          refine JS.region ?_
          have g5 : (64 : Int) ≠ 0 := by decide
          have g6 : (64 : Int) ≠ 0 := by decide
          refine JO.reg ttOk 8 [(W (Int.tdiv x0 64)), (W (192 + (W (Int.tdiv x0 64)))), ((u8 ((W (192 + (W (Int.tdiv x0 64)))))).toNat : Int), (W (128 + (Int.tmod x0 64))), ((u8 ((W (128 + (Int.tmod x0 64))))).toNat : Int)] [] [(16, .v (.int .u8 ((u8 ((W (192 + (W (Int.tdiv x0 64)))))).toNat : Int))), (20, .v (.int .u8 ((u8 ((W (128 + (Int.tmod x0 64))))).toNat : Int)))] _ rfl ⟨⟨g5, rfl⟩, ⟨trivial, rfl⟩, ⟨trivial, u8_wrap _⟩, g6, ⟨trivial, rfl⟩, ⟨trivial, u8_wrap _⟩, ⟨rfl, rfl, trivial⟩, rfl⟩ ?_
          refine JO.ofK rfl (JK.buildSlice ttOk rfl rfl rfl rfl rfl rfl rfl rfl rfl rfl rfl [] rfl .byte [(u8 ((W (192 + (W (Int.tdiv x0 64)))))), (u8 ((W (128 + (Int.tmod x0 64)))))] ⟨rfl, rfl⟩ rfl rfl fun a7 => JO.toK ?_)
          refine JO.reg ttOk 1 [] [] [(2, .v (.slice a7 ([(u8 ((W (192 + (W (Int.tdiv x0 64)))))), (u8 ((W (128 + (Int.tmod x0 64)))))] : List UInt8).length ([(u8 ((W (192 + (W (Int.tdiv x0 64)))))), (u8 ((W (128 + (Int.tmod x0 64)))))] : List UInt8).length))] _ rfl ⟨⟨rfl, trivial⟩, rfl⟩ ?_
          refine JO.done rfl ?_
          cases h
          exact JS.ret ttOk (a7, ([(u8 ((W (192 + (W (Int.tdiv x0 64)))))), (u8 ((W (128 + (Int.tmod x0 64)))))] : List UInt8).length) trivial rfl rfl [0] rfl
        · have h := condF h ht25
          refine JS.skip ?_
          refine JS.seq ?_
          refine JS.seq ?_
          refine JS.region ?_
          refine JO.reg ttOk 2 [] [] [(23, .v (.bool (decide (x0 < 65536))))] _ rfl ⟨⟨rfl, trivial⟩, rfl⟩ ?_
          refine JO.done rfl ?_
          refine JS.cond rfl (fun ht24 => ?_) (fun ht24 => ?_)
          · have h := condT h ht24
            refine JS.seq ?_
            refine JS.region ?_
            have g8 : (4096 : Int) ≠ 0 := by decide
            have g9 : (64 : Int) ≠ 0 := by decide
            have g10 : (64 : Int) ≠ 0 := by decide
            have g11 : (64 : Int) ≠ 0 := by decide
            refine JO.reg ttOk 13 [(W (Int.tdiv x0 4096)), (W (224 + (W (Int.tdiv x0 4096)))), ((u8 ((W (224 + (W (Int.tdiv x0 4096)))))).toNat : Int), (W (Int.tdiv x0 64)), (W (128 + (Int.tmod (W (Int.tdiv x0 64)) 64))), ((u8 ((W (128 + (Int.tmod (W (Int.tdiv x0 64)) 64))))).toNat : Int), (W (128 + (Int.tmod x0 64))), ((u8 ((W (128 + (Int.tmod x0 64))))).toNat : Int)] [] [(27, .v (.int .u8 ((u8 ((W (224 + (W (Int.tdiv x0 4096)))))).toNat : Int))), (32, .v (.int .u8 ((u8 ((W (128 + (Int.tmod (W (Int.tdiv x0 64)) 64))))).toNat : Int))), (36, .v (.int .u8 ((u8 ((W (128 + (Int.tmod x0 64))))).toNat : Int)))] _ rfl ⟨⟨g8, rfl⟩, ⟨trivial, rfl⟩, ⟨trivial, u8_wrap _⟩, ⟨g9, rfl⟩, g10, ⟨trivial, rfl⟩, ⟨trivial, u8_wrap _⟩, g11, ⟨trivial, rfl⟩, ⟨trivial, u8_wrap _⟩, ⟨rfl, rfl, rfl, trivial⟩, rfl⟩ ?_
            refine JO.ofK rfl (JK.buildSlice ttOk rfl rfl rfl rfl rfl rfl rfl rfl rfl rfl rfl [] rfl .byte [(u8 ((W (224 + (W (Int.tdiv x0 4096)))))), (u8 ((W (128 + (Int.tmod (W (Int.tdiv x0 64)) 64))))), (u8 ((W (128 + (Int.tmod x0 64)))))] ⟨rfl, rfl⟩ rfl rfl fun a12 => JO.toK ?_)
            refine JO.reg ttOk 1 [] [] [(2, .v (.slice a12 ([(u8 ((W (224 + (W (Int.tdiv x0 4096)))))), (u8 ((W (128 + (Int.tmod (W (Int.tdiv x0 64)) 64))))), (u8 ((W (128 + (Int.tmod x0 64)))))] : List UInt8).length ([(u8 ((W (224 + (W (Int.tdiv x0 4096)))))), (u8 ((W (128 + (Int.tmod (W (Int.tdiv x0 64)) 64))))), (u8 ((W (128 + (Int.tmod x0 64)))))] : List UInt8).length))] _ rfl ⟨⟨rfl, trivial⟩, rfl⟩ ?_
            refine JO.done rfl ?_
            cases h
            exact JS.ret ttOk (a12, ([(u8 ((W (224 + (W (Int.tdiv x0 4096)))))), (u8 ((W (128 + (Int.tmod (W (Int.tdiv x0 64)) 64))))), (u8 ((W (128 + (Int.tmod x0 64)))))] : List UInt8).length) trivial rfl rfl [0] rfl
          · have h := condF h ht24
            refine JS.skip ?_
            refine JS.seq ?_
            refine JS.region ?_
            have g13 : (262144 : Int) ≠ 0 := by decide
            have g14 : (4096 : Int) ≠ 0 := by decide
            have g15 : (64 : Int) ≠ 0 := by decide
            have g16 : (64 : Int) ≠ 0 := by decide
            have g17 : (64 : Int) ≠ 0 := by decide
            have g18 : (64 : Int) ≠ 0 := by decide
            refine JO.reg ttOk 18 [(W (Int.tdiv x0 262144)), (W (240 + (W (Int.tdiv x0 262144)))), ((u8 ((W (240 + (W (Int.tdiv x0 262144)))))).toNat : Int), (W (Int.tdiv x0 4096)), (W (128 + (Int.tmod (W (Int.tdiv x0 4096)) 64))), ((u8 ((W (128 + (Int.tmod (W (Int.tdiv x0 4096)) 64))))).toNat : Int), (W (Int.tdiv x0 64)), (W (128 + (Int.tmod (W (Int.tdiv x0 64)) 64))), ((u8 ((W (128 + (Int.tmod (W (Int.tdiv x0 64)) 64))))).toNat : Int), (W (128 + (Int.tmod x0 64))), ((u8 ((W (128 + (Int.tmod x0 64))))).toNat : Int)] [] [(41, .v (.int .u8 ((u8 ((W (240 + (W (Int.tdiv x0 262144)))))).toNat : Int))), (46, .v (.int .u8 ((u8 ((W (128 + (Int.tmod (W (Int.tdiv x0 4096)) 64))))).toNat : Int))), (51, .v (.int .u8 ((u8 ((W (128 + (Int.tmod (W (Int.tdiv x0 64)) 64))))).toNat : Int))), (55, .v (.int .u8 ((u8 ((W (128 + (Int.tmod x0 64))))).toNat : Int)))] _ rfl ⟨⟨g13, rfl⟩, ⟨trivial, rfl⟩, ⟨trivial, u8_wrap _⟩, ⟨g14, rfl⟩, g15, ⟨trivial, rfl⟩, ⟨trivial, u8_wrap _⟩, ⟨g16, rfl⟩, g17, ⟨trivial, rfl⟩, ⟨trivial, u8_wrap _⟩, g18, ⟨trivial, rfl⟩, ⟨trivial, u8_wrap _⟩, ⟨rfl, rfl, rfl, rfl, trivial⟩, rfl⟩ ?_
            refine JO.ofK rfl (JK.buildSlice ttOk rfl rfl rfl rfl rfl rfl rfl rfl rfl rfl rfl [] rfl .byte [(u8 ((W (240 + (W (Int.tdiv x0 262144)))))), (u8 ((W (128 + (Int.tmod (W (Int.tdiv x0 4096)) 64))))), (u8 ((W (128 + (Int.tmod (W (Int.tdiv x0 64)) 64))))), (u8 ((W (128 + (Int.tmod x0 64)))))] ⟨rfl, rfl⟩ rfl rfl fun a19 => JO.toK ?_)
            refine JO.reg ttOk 1 [] [] [(2, .v (.slice a19 ([(u8 ((W (240 + (W (Int.tdiv x0 262144)))))), (u8 ((W (128 + (Int.tmod (W (Int.tdiv x0 4096)) 64))))), (u8 ((W (128 + (Int.tmod (W (Int.tdiv x0 64)) 64))))), (u8 ((W (128 + (Int.tmod x0 64)))))] : List UInt8).length ([(u8 ((W (240 + (W (Int.tdiv x0 262144)))))), (u8 ((W (128 + (Int.tmod (W (Int.tdiv x0 4096)) 64))))), (u8 ((W (128 + (Int.tmod (W (Int.tdiv x0 64)) 64))))), (u8 ((W (128 + (Int.tmod x0 64)))))] : List UInt8).length))] _ rfl ⟨⟨rfl, trivial⟩, rfl⟩ ?_
            refine JO.done rfl ?_
            cases h
            exact JS.ret ttOk (a19, ([(u8 ((W (240 + (W (Int.tdiv x0 262144)))))), (u8 ((W (128 + (Int.tmod (W (Int.tdiv x0 4096)) 64))))), (u8 ((W (128 + (Int.tmod (W (Int.tdiv x0 64)) 64))))), (u8 ((W (128 + (Int.tmod x0 64)))))] : List UInt8).length) trivial rfl rfl [0] rfl

def M_s_RuneRead_L1 (x0 : List UInt8) (x1 : Int) (x7 : Int) (j29 : Int → Option (Int × Int)) (k24 : (Int × Int) → Option (Int × Int)) : (Int × Int) → Option (Int × Int) := fun (x19, x20) =>
  (bif (decide (x20 < x7)) then
  (guardO (0 ≤ (W (x1 + x20)) ∧ (W (x1 + x20)) < (x0.length : Int)) <|
  k24 ((W ((W ((W (x19 * 64)) + ((at' x0 (W (x1 + x20))).toNat : Int))) - 128)), (W (x20 + 1))))
  else
  j29 x19)

def M_s_RuneRead_L2 (x0 : List UInt8) (x1 : Int) (j101 : Unit → Option (Int × Int)) (k77 : Int → Option (Int × Int)) : Int → Option (Int × Int) := fun x7 =>
  (bif (bif (decide (x7 ≤ 4)) then (decide (x7 ≤ (W ((x0.length : Int) - x1)))) else false) then
  (joinO (fun (_ : Unit) =>
  k77 (W (x7 + 1))) fun j55 =>
  (guardO (0 ≤ x1 ∧ x1 < (x0.length : Int)) <|
  (joinO (fun (x15 : Int) =>
  (joinO (fun (x28 : Int) =>
  (bindO (M_s_RuneBytes x28) fun (y32 : List UInt8) =>
  (guardO (((decide ((y32.length : Int) = x7)) = true) → 0 ≤ x1 ∧ x1 ≤ (W (x1 + x7)) ∧ (W (x1 + x7)) ≤ (x0.length : Int)) <|
  (bif (bif (decide ((y32.length : Int) = x7)) then (decide (y32 = (sub' x0 x1 (W (x1 + x7))))) else false) then
  some (x28, x7)
  else
  j55 ())))) fun j29 =>
  (fixF (M_s_RuneRead_L1 x0 x1 x7 j29) FUEL (x15, 1)))) fun j16 =>
  (bif (decide (1 < x7)) then
  (guardO (0 ≤ x7 ∧ x7 < (([0, 0, 192, 224, 240] : List Int).length : Int)) <|
  j16 (W (((at' x0 x1).toNat : Int) - (at' ([0, 0, 192, 224, 240] : List Int) x7))))
  else
  j16 ((at' x0 x1).toNat : Int)))))
  else
  j101 ())

def M_s_RuneRead (x0 : List UInt8) (x1 : Int) : Option (Int × Int) :=
  (bif (bif (decide (x1 < 0)) then true else (decide ((x0.length : Int) ≤ x1))) then
  some (0, 0)
  else
  (joinO (fun (_ : Unit) =>
  some (0, 0)) fun j101 =>
  (fixF (M_s_RuneRead_L2 x0 x1 j101) FUEL 1)))

theorem ok_s_RuneRead (x0 : List UInt8) (x1 : Int) (a3 : Option Addr) (c4 : Nat) (l5 : Nat) (hl6 : x0.length = l5) (r : Int × Int) (h : M_s_RuneRead x0 x1 = some r) :
    FC Try.prog 62 [.slice a3 l5 c4, .int .i64 x1] [⟨.byte, ⟨a3, l5, c4⟩, x0⟩] (fun _ : Unit => True) (fun _ => .tuple #[.int .i64 r.1, .int .i64 r.2]) (fun _ => []) :=
  by
    subst hl6
    refine FC.of (T := TTx) Try.call62 Try.func62 rfl rfl fun w0 => ?_
    unfold M_s_RuneRead at h
    refine JS.seq ?_
    refine JS.region ?_
    refine JO.reg ttOk 2 [] [] [] _ rfl ⟨trivial, rfl⟩ ?_
    refine JO.done rfl ?_
    refine JS.seq ?_
    refine JS.seq ?_
    refine JS.region ?_
    refine JO.reg ttOk 8 [] [] [(17, .v (.bool (bif (decide (x1 < 0)) then true else (decide ((x0.length : Int) ≤ x1)))))] _ rfl ⟨⟨rfl, trivial⟩, rfl⟩ ?_
    refine JO.done rfl ?_
    refine JS.cond rfl (fun ht149 => ?_) (fun ht149 => ?_)
    · have h := condT h ht149
      refine JS.seq ?_
      refine JS.region ?_
      refine JO.reg ttOk 2 [] [] [(4, .v (.int .i64 0)), (5, .v (.int .i64 0))] _ rfl ⟨⟨rfl, rfl, trivial⟩, rfl⟩ ?_
      refine JO.done rfl ?_
      cases h
      exact JS.ret ttOk () trivial rfl rfl [] rfl
    · have h := condF h ht149
      refine JS.skip ?_
      refine JS.seq ?_
      refine JS.seq ?_
      refine JS.region ?_
      refine JO.reg ttOk 1 [] [] [(6, .v (.int .i64 1))] _ rfl ⟨⟨rfl, trivial⟩, rfl⟩ ?_
      refine JO.done rfl ?_
      obtain ⟨j101, hj148, h⟩ := joinO_some h
      refine JS.blockJ (ι := Unit) ⟨fun _ => j101 () = some r, fun _ => [], fun _ => .nil, fun _ => [], fun _ => [], fun _ => 0⟩ ?_ ?_
      · refine JS.loop (ι := Nat × Int) ⟨fun z => fixF (M_s_RuneRead_L2 x0 x1 j101) z.1 z.2 = some r, fun z => [(0, .v (.slice a3 x0.length c4)), (1, .v (.int .i64 x1)), (6, .v (.int .i64 z.2))], fun z => .nil, fun z => [⟨.byte, ⟨a3, x0.length, c4⟩, x0⟩], fun z => [], fun z => z.1⟩ (FUEL, 1) h ⟨rfl, rfl, rfl, trivial⟩ trivial [0] rfl [] rfl ?_
        rintro ⟨n78, x7⟩ h
        obtain ⟨n78, rfl, h⟩ := fixF_some h
        rw [M_s_RuneRead_L2] at h
        refine JS.seq ?_
        refine JS.seq ?_
        refine JS.region ?_
        refine JO.reg ttOk 10 [(W ((x0.length : Int) - x1))] [] [(27, .v (.bool (bif (decide (x7 ≤ 4)) then (decide (x7 ≤ (W ((x0.length : Int) - x1)))) else false)))] _ rfl ⟨(fun q126 => ⟨trivial, rfl⟩), ⟨rfl, trivial⟩, rfl⟩ ?_
        refine JO.done rfl ?_
        refine JS.cond rfl (fun ht147 => ?_) (fun ht147 => ?_)
        · have h := condT h ht147
          refine JS.skip ?_
          refine JS.seq ?_
          obtain ⟨j55, hj146, h⟩ := joinO_some h
          refine JS.blockJ (ι := Unit) ⟨fun _ => j55 () = some r, fun _ => [(0, .v (.slice a3 x0.length c4)), (1, .v (.int .i64 x1)), (6, .v (.int .i64 x7))], fun _ => .nil, fun _ => [⟨.byte, ⟨a3, x0.length, c4⟩, x0⟩], fun _ => [], fun _ => 0⟩ ?_ ?_
          · refine JS.seq ?_
            refine JS.region ?_
            refine JO.know 0 rfl fun hs127 => ?_
            obtain ⟨g10, h⟩ := guardO_some h
            refine JO.reg ttOk 3 [] [] [(32, .ep ⟨a3, x0.length, c4⟩ (Int.toNat x1 * 1))] _ rfl ⟨hs127.ix g10, ⟨rfl, trivial⟩, rfl⟩ ?_
            refine JO.load ttOk rfl rfl rfl rfl rfl rfl rfl 0 rfl rfl (Int.toNat x1) 0 (at' x0 x1) ⟨at_some g10, rfl⟩ rfl rfl ?_
            refine JO.reg ttOk 2 [((at' x0 x1).toNat : Int)] [] [(7, .v (.int .i64 ((at' x0 x1).toNat : Int)))] _ rfl ⟨⟨trivial, W_byte _⟩, ⟨rfl, trivial⟩, rfl⟩ ?_
            refine JO.done rfl ?_
            obtain ⟨j16, hj145, h⟩ := joinO_some h
            refine JS.seqJ (ι := Int) ⟨fun z => j16 z = some r, fun z => [(0, .v (.slice a3 x0.length c4)), (1, .v (.int .i64 x1)), (6, .v (.int .i64 x7)), (7, .v (.int .i64 z))], fun z => .nil, fun z => [⟨.byte, ⟨a3, x0.length, c4⟩, x0⟩], fun z => [], fun z => 0⟩ ?_ ?_
            · refine JS.seq ?_
              refine JS.region ?_
              refine JO.reg ttOk 2 [] [] [(36, .v (.bool (decide (1 < x7))))] _ rfl ⟨⟨rfl, trivial⟩, rfl⟩ ?_
              refine JO.done rfl ?_
              refine JS.cond rfl (fun ht129 => ?_) (fun ht129 => ?_)
              · have h := condT h ht129
                refine JS.region ?_
                refine JO.reg ttOk 1 [] [] [(37, .v (.int .i64 ((at' x0 x1).toNat : Int)))] _ rfl ⟨⟨rfl, trivial⟩, rfl⟩ ?_
                refine JO.ofK rfl (JK.buildSlice ttOk rfl rfl rfl rfl rfl rfl rfl rfl rfl rfl rfl [] rfl (.int .i64) [0, 0, 192, 224, 240] ⟨rfl, rfl⟩ rfl rfl fun a11 => JO.toK ?_)
                refine JO.know 1 rfl fun hs128 => ?_
                obtain ⟨g13, h⟩ := guardO_some h
                refine JO.reg ttOk 2 [] [] [(40, .ep ⟨a11, ([0, 0, 192, 224, 240] : List Int).length, ([0, 0, 192, 224, 240] : List Int).length⟩ (Int.toNat x7 * 1))] _ rfl ⟨hs128.ix g13, ⟨rfl, trivial⟩, rfl⟩ ?_
                refine JO.load ttOk rfl rfl rfl rfl rfl rfl rfl 1 rfl rfl (Int.toNat x7) 0 (at' ([0, 0, 192, 224, 240] : List Int) x7) ⟨at_some g13, rfl⟩ rfl rfl ?_
                refine JO.reg ttOk 2 [(W (((at' x0 x1).toNat : Int) - (at' ([0, 0, 192, 224, 240] : List Int) x7)))] [] [(7, .v (.int .i64 (W (((at' x0 x1).toNat : Int) - (at' ([0, 0, 192, 224, 240] : List Int) x7)))))] _ rfl ⟨⟨trivial, rfl⟩, ⟨rfl, trivial⟩, rfl⟩ ?_
                refine JO.done rfl ?_
                exact JS.endJ (W (((at' x0 x1).toNat : Int) - (at' ([0, 0, 192, 224, 240] : List Int) x7))) h ⟨rfl, rfl, rfl, rfl, trivial⟩ trivial [0] rfl [] rfl
              · have h := condF h ht129
                refine JS.skip ?_
                exact JS.endJ ((at' x0 x1).toNat : Int) h ⟨rfl, rfl, rfl, rfl, trivial⟩ trivial [0] rfl [] rfl
            · rintro x15 h
              subst hj145
              refine JS.seq ?_
              refine JS.seq ?_
              refine JS.region ?_
              refine JO.reg ttOk 1 [] [] [(8, .v (.int .i64 1))] _ rfl ⟨⟨rfl, trivial⟩, rfl⟩ ?_
              refine JO.done rfl ?_
              obtain ⟨j29, hj144, h⟩ := joinO_some h
              refine JS.blockJ (ι := Int) ⟨fun z => j29 z = some r, fun z => [(0, .v (.slice a3 x0.length c4)), (1, .v (.int .i64 x1)), (6, .v (.int .i64 x7)), (7, .v (.int .i64 z))], fun z => .nil, fun z => [⟨.byte, ⟨a3, x0.length, c4⟩, x0⟩], fun z => [], fun z => 0⟩ ?_ ?_
              · refine JS.loop (ι := Nat × Int × Int) ⟨fun z => fixF (M_s_RuneRead_L1 x0 x1 x7 j29) z.1 (z.2.1, z.2.2) = some r, fun z => [(0, .v (.slice a3 x0.length c4)), (1, .v (.int .i64 x1)), (6, .v (.int .i64 x7)), (7, .v (.int .i64 z.2.1)), (8, .v (.int .i64 z.2.2))], fun z => .nil, fun z => [⟨.byte, ⟨a3, x0.length, c4⟩, x0⟩], fun z => [], fun z => z.1⟩ (FUEL, x15, 1) h ⟨rfl, rfl, rfl, rfl, rfl, trivial⟩ trivial [0] rfl [] rfl ?_
                rintro ⟨n25, x19, x20⟩ h
                obtain ⟨n25, rfl, h⟩ := fixF_some h
                rw [M_s_RuneRead_L1] at h
                refine JS.seq ?_
                refine JS.seq ?_
                refine JS.region ?_
                refine JO.reg ttOk 3 [] [] [(45, .v (.bool (decide (x20 < x7))))] _ rfl ⟨⟨rfl, trivial⟩, rfl⟩ ?_
                refine JO.done rfl ?_
                refine JS.cond rfl (fun ht131 => ?_) (fun ht131 => ?_)
                · have h := condT h ht131
                  refine JS.skip ?_
                  refine JS.seq ?_
                  refine JS.block ?_
                  refine JS.region ?_
                  refine JO.know 0 rfl fun hs130 => ?_
                  obtain ⟨g22, h⟩ := guardO_some h
                  refine JO.reg ttOk 7 [(W (x19 * 64)), (W (x1 + x20))] [] [(49, .v (.int .i64 (W (x19 * 64)))), (54, .ep ⟨a3, x0.length, c4⟩ (Int.toNat (W (x1 + x20)) * 1))] _ rfl ⟨⟨trivial, rfl⟩, ⟨trivial, rfl⟩, hs130.ix g22, ⟨rfl, rfl, trivial⟩, rfl⟩ ?_
                  refine JO.load ttOk rfl rfl rfl rfl rfl rfl rfl 0 rfl rfl (Int.toNat (W (x1 + x20))) 0 (at' x0 (W (x1 + x20))) ⟨at_some g22, rfl⟩ rfl rfl ?_
                  refine JO.reg ttOk 4 [((at' x0 (W (x1 + x20))).toNat : Int), (W ((W (x19 * 64)) + ((at' x0 (W (x1 + x20))).toNat : Int))), (W ((W ((W (x19 * 64)) + ((at' x0 (W (x1 + x20))).toNat : Int))) - 128))] [] [(7, .v (.int .i64 (W ((W ((W (x19 * 64)) + ((at' x0 (W (x1 + x20))).toNat : Int))) - 128))))] _ rfl ⟨⟨trivial, W_byte _⟩, ⟨trivial, rfl⟩, ⟨trivial, rfl⟩, ⟨rfl, trivial⟩, rfl⟩ ?_
                  refine JO.done rfl ?_
                  refine JS.endB ?_
                  refine JS.region ?_
                  refine JO.reg ttOk 3 [(W (x20 + 1))] [] [(8, .v (.int .i64 (W (x20 + 1))))] _ rfl ⟨⟨trivial, rfl⟩, ⟨rfl, trivial⟩, rfl⟩ ?_
                  refine JO.done rfl ?_
                  exact JS.endL (n25, (W ((W ((W (x19 * 64)) + ((at' x0 (W (x1 + x20))).toNat : Int))) - 128)), (W (x20 + 1))) h (Nat.lt_succ_self _) ⟨rfl, rfl, rfl, rfl, rfl, trivial⟩ trivial [0] rfl [] rfl
                · have h := condF h ht131
                  refine JS.exit rfl ?_
                  exact JS.endJ x19 h ⟨rfl, rfl, rfl, rfl, trivial⟩ trivial [0] rfl [] rfl
              · rintro x28 h
                subst hj144
                refine JS.seq ?_
                refine JS.region ?_
                refine JO.reg ttOk 1 [] [] [(59, .v (.int .i64 x28))] _ rfl ⟨⟨rfl, trivial⟩, rfl⟩ ?_
                obtain ⟨y32, hy33, h⟩ := bindO_some h
                refine JO.call rfl rfl rfl rfl (ok_s_RuneBytes x28 _ hy33) rfl [] rfl rfl ?_
                rintro ⟨a34, c35⟩ -
                refine JO.reg ttOk 1 [] [] [(9, .v (.slice a34 y32.length c35))] _ rfl ⟨⟨rfl, trivial⟩, rfl⟩ ?_
                refine JO.done rfl ?_
                refine JS.seq ?_
                obtain ⟨g37, h⟩ := guardO_some h
                refine JS.subR 0 rfl x1 (W (x1 + x7)) ?_
                intro a38 c39 hu40
                refine JS.know 1 rfl fun hs139 => ?_
                refine JS.regionA rfl .nil [2, 0] [14] trivial rfl (fun be49 => ?_)
                refine JA.regL ttOk panic_cx 12 [0, 1, 2, 3] rfl (by kernel_rfl) [] [(61, .v (.slice a34 y32.length c35)), (62, .v (.int .i64 (y32.length : Int))), (63, .v (.int .i64 x7)), (64, .v (.bool (decide ((y32.length : Int) = x7))))] rfl ⟨rfl, rfl, rfl, rfl, trivial⟩ ?_
                refine JA.reg ttOk panic_cx true 11 [4] rfl (by kernel_rfl) [] [(61, .v (.slice a34 y32.length c35)), (62, .v (.int .i64 (y32.length : Int))), (63, .v (.int .i64 x7)), (64, .v (.bool (decide ((y32.length : Int) = x7)))), (65, .v (.bool (decide ((y32.length : Int) = x7))))] trivial [2, 0] rfl rfl ⟨rfl, rfl, rfl, rfl, rfl, trivial⟩ ?_
                refine JA.regL ttOk panic_cx 5 [5, 7, 8, 9, 10, 11] rfl (by kernel_rfl) [(W (x1 + x7))] [(61, .v (.slice a34 y32.length c35)), (62, .v (.int .i64 (y32.length : Int))), (63, .v (.int .i64 x7)), (64, .v (.bool (decide ((y32.length : Int) = x7)))), (65, .v (.bool (decide ((y32.length : Int) = x7)))), (66, .cd [(65, true)] (.v (.slice a34 y32.length c35))), (68, .cd [(65, true)] (.v (.slice a3 x0.length c4))), (69, .cd [(65, true)] (.v (.int .i64 x1))), (70, .cd [(65, true)] (.v (.int .i64 x1))), (71, .cd [(65, true)] (.v (.int .i64 x7))), (72, .cd [(65, true)] (.v (.int .i64 (W (x1 + x7)))))] rfl ⟨(fun q141 => ⟨trivial, rfl⟩), ⟨rfl, rfl, rfl, rfl, rfl, rfl, rfl, rfl, rfl, rfl, rfl, trivial⟩⟩ ?_
                refine JA.strOf ttOk panic_cx 6 rfl (by kernel_rfl) rfl rfl rfl rfl rfl rfl rfl 0 rfl rfl trivial [2, 0] rfl ?_
                refine JA.sliceP ttOk panic_cx 12 rfl (by kernel_rfl) rfl rfl rfl rfl rfl rfl x1 (W (x1 + x7)) rfl rfl (fun q142 => ⟨(g37 q142).1, (g37 q142).2.1, (g37 q142).2.2, hs139.cap, hu40 (g37 q142)⟩) rfl ?_
                refine JA.strOf ttOk panic_cx 13 rfl (by kernel_rfl) rfl rfl rfl rfl rfl rfl rfl 1 rfl rfl trivial [2, 0] rfl ?_
                refine JA.regL ttOk panic_cx 0 [14, 15] rfl (by kernel_rfl) [] [(61, .v (.slice a34 y32.length c35)), (62, .v (.int .i64 (y32.length : Int))), (63, .v (.int .i64 x7)), (64, .v (.bool (decide ((y32.length : Int) = x7)))), (65, .v (.bool (decide ((y32.length : Int) = x7)))), (66, .cd [(65, true)] (.v (.slice a34 y32.length c35))), (67, .cd [(65, true)] (.v (.string (bs y32)))), (68, .cd [(65, true)] (.v (.slice a3 x0.length c4))), (69, .cd [(65, true)] (.v (.int .i64 x1))), (70, .cd [(65, true)] (.v (.int .i64 x1))), (71, .cd [(65, true)] (.v (.int .i64 x7))), (72, .cd [(65, true)] (.v (.int .i64 (W (x1 + x7))))), (73, .cd [(65, true)] (.v (.slice a38 (sub' x0 x1 (W (x1 + x7))).length c39))), (74, .cd [(65, true)] (.v (.string (bs (sub' x0 x1 (W (x1 + x7))))))), (75, .cd [(65, true)] (.v (.bool (decide (y32 = (sub' x0 x1 (W (x1 + x7)))))))), (76, .v (.bool (bif (decide ((y32.length : Int) = x7)) then (decide (y32 = (sub' x0 x1 (W (x1 + x7))))) else false)))] rfl ⟨rfl, rfl, rfl, rfl, rfl, rfl, rfl, rfl, rfl, rfl, rfl, rfl, rfl, rfl, rfl, rfl, trivial⟩ ?_
                refine JA.done (by kernel_rfl) ?_
                refine JS.boxes (B' := .nil) trivial ?_
                refine JS.cond rfl (fun ht143 => ?_) (fun ht143 => ?_)
                · have h := condT h ht143
                  refine JS.seq ?_
                  refine JS.region ?_
                  refine JO.reg ttOk 4 [] [] [(4, .v (.int .i64 x28)), (5, .v (.int .i64 x7))] _ rfl ⟨⟨rfl, rfl, trivial⟩, rfl⟩ ?_
                  refine JO.done rfl ?_
                  cases h
                  exact JS.ret ttOk () trivial rfl rfl [] rfl
                · have h := condF h ht143
                  refine JS.skip ?_
                  refine JS.endB ?_
                  exact JS.endJ () h ⟨rfl, rfl, rfl, trivial⟩ trivial [1] rfl [] rfl
          · rintro _ h
            subst hj146
            refine JS.region ?_
            refine JO.reg ttOk 3 [(W (x7 + 1))] [] [(6, .v (.int .i64 (W (x7 + 1))))] _ rfl ⟨⟨trivial, rfl⟩, ⟨rfl, trivial⟩, rfl⟩ ?_
            refine JO.done rfl ?_
            exact JS.endL (n78, (W (x7 + 1))) h (Nat.lt_succ_self _) ⟨rfl, rfl, rfl, trivial⟩ trivial [0] rfl [] rfl
        · have h := condF h ht147
          refine JS.exit rfl ?_
          exact JS.endJ () h trivial trivial [] rfl [] rfl
      · rintro _ h
        subst hj148
        refine JS.seq ?_
        refine JS.region ?_
        refine JO.reg ttOk 2 [] [] [(4, .v (.int .i64 0)), (5, .v (.int .i64 0))] _ rfl ⟨⟨rfl, rfl, trivial⟩, rfl⟩ ?_
        refine JO.done rfl ?_
        cases h
        exact JS.ret ttOk () trivial rfl rfl [] rfl

def M_s_RuneBegin_L1 (x6 : Int) (j39 : (List UInt8 × List UInt8) → Option Bool) (k30 : (List UInt8 × List UInt8) → Option Bool) : (List UInt8 × List UInt8) → Option Bool := fun (x15, x18) =>
  (bif (decide ((x15.length : Int) < x6)) then
  (guardO (x15.length + ([(128 : UInt8)] : List UInt8).length ≤ 536870912) <|
  (guardO (x18.length + ([(191 : UInt8)] : List UInt8).length ≤ 536870912) <|
  k30 ((x15 ++ ([(128 : UInt8)] : List UInt8)), (x18 ++ ([(191 : UInt8)] : List UInt8)))))
  else
  j39 (x15, x18))

def M_s_RuneBegin_L2 (x0 : List UInt8) (j62 : Unit → Option Bool) (k55 : Int → Option Bool) : Int → Option Bool := fun x6 =>
  (bif (decide (x6 ≤ 4)) then
  (joinO (fun (_ : Unit) =>
  k55 (W (x6 + 1))) fun j49 =>
  (guardO (([] : List UInt8).length + x0.length ≤ 536870912) <|
  (guardO (([] : List UInt8).length + x0.length ≤ 536870912) <|
  (joinO (fun ((x33, x36) : List UInt8 × List UInt8) =>
  (bindO (M_s_RuneRead x33 0) fun (y41, y42) =>
  (bindO (M_s_RuneRead x36 0) fun (y44, y45) =>
  (bif (bif (decide (y42 = x6)) then true else (decide (y45 = x6))) then
  some true
  else
  j49 ())))) fun j39 =>
  (fixF (M_s_RuneBegin_L1 x6 j39) FUEL ((([] : List UInt8) ++ x0), (([] : List UInt8) ++ x0)))))))
  else
  j62 ())

def M_s_RuneBegin (x0 : List UInt8) : Option Bool :=
  (bif (bif (decide ((x0.length : Int) < 1)) then true else (decide (3 < (x0.length : Int)))) then
  some false
  else
  (joinO (fun (_ : Unit) =>
  some false) fun j62 =>
  (fixF (M_s_RuneBegin_L2 x0 j62) FUEL (W ((x0.length : Int) + 1)))))

theorem ok_s_RuneBegin (x0 : List UInt8) (a2 : Option Addr) (c3 : Nat) (l4 : Nat) (hl5 : x0.length = l4) (r : Bool) (h : M_s_RuneBegin x0 = some r) :
    FC Try.prog 53 [.slice a2 l4 c3] [⟨.byte, ⟨a2, l4, c3⟩, x0⟩] (fun _ : Unit => True) (fun _ => .bool r) (fun _ => []) :=
  by
    subst hl5
    refine FC.of (T := TTx) Try.call53 Try.func53 rfl rfl fun w0 => ?_
    unfold M_s_RuneBegin at h
    refine JS.seq ?_
    refine JS.region ?_
    refine JO.reg ttOk 1 [] [] [] _ rfl ⟨trivial, rfl⟩ ?_
    refine JO.done rfl ?_
    refine JS.seq ?_
    refine JS.seq ?_
    refine JS.region ?_
    refine JO.reg ttOk 8 [] [] [(17, .v (.bool (bif (decide ((x0.length : Int) < 1)) then true else (decide (3 < (x0.length : Int))))))] _ rfl ⟨⟨rfl, trivial⟩, rfl⟩ ?_
    refine JO.done rfl ?_
    refine JS.cond rfl (fun ht76 => ?_) (fun ht76 => ?_)
    · have h := condT h ht76
      refine JS.seq ?_
      refine JS.region ?_
      refine JO.reg ttOk 1 [] [] [(2, .v (.bool false))] _ rfl ⟨⟨rfl, trivial⟩, rfl⟩ ?_
      refine JO.done rfl ?_
      cases h
      exact JS.ret ttOk () trivial rfl rfl [] rfl
    · have h := condF h ht76
      refine JS.skip ?_
      refine JS.seq ?_
      refine JS.seq ?_
      refine JS.region ?_
      refine JO.reg ttOk 4 [(W ((x0.length : Int) + 1))] [] [(3, .v (.int .i64 (W ((x0.length : Int) + 1))))] _ rfl ⟨⟨trivial, rfl⟩, ⟨rfl, trivial⟩, rfl⟩ ?_
      refine JO.done rfl ?_
      obtain ⟨j62, hj75, h⟩ := joinO_some h
      refine JS.blockJ (ι := Unit) ⟨fun _ => j62 () = some r, fun _ => [], fun _ => .nil, fun _ => [], fun _ => [], fun _ => 0⟩ ?_ ?_
      · refine JS.loop (ι := Nat × Int) ⟨fun z => fixF (M_s_RuneBegin_L2 x0 j62) z.1 z.2 = some r, fun z => [(0, .v (.slice a2 x0.length c3)), (3, .v (.int .i64 z.2))], fun z => .nil, fun z => [⟨.byte, ⟨a2, x0.length, c3⟩, x0⟩], fun z => [], fun z => z.1⟩ (FUEL, (W ((x0.length : Int) + 1))) h ⟨rfl, rfl, trivial⟩ trivial [0] rfl [] rfl ?_
        rintro ⟨n56, x6⟩ h
        obtain ⟨n56, rfl, h⟩ := fixF_some h
        rw [M_s_RuneBegin_L2] at h
        refine JS.seq ?_
        refine JS.seq ?_
        refine JS.region ?_
        refine JO.reg ttOk 2 [] [] [(22, .v (.bool (decide (x6 ≤ 4))))] _ rfl ⟨⟨rfl, trivial⟩, rfl⟩ ?_
        refine JO.done rfl ?_
        refine JS.cond rfl (fun ht74 => ?_) (fun ht74 => ?_)
        · have h := condT h ht74
          refine JS.skip ?_
          refine JS.seq ?_
          obtain ⟨j49, hj73, h⟩ := joinO_some h
          refine JS.blockJ (ι := Unit) ⟨fun _ => j49 () = some r, fun _ => [(0, .v (.slice a2 x0.length c3)), (3, .v (.int .i64 x6))], fun _ => .nil, fun _ => [⟨.byte, ⟨a2, x0.length, c3⟩, x0⟩], fun _ => [], fun _ => 0⟩ ?_ ?_
          · refine JS.seq ?_
            refine JS.region ?_
            refine JO.ofK rfl (JK.buildSlice ttOk rfl rfl rfl rfl rfl rfl rfl rfl rfl rfl rfl [] rfl .byte [] ⟨rfl, rfl⟩ rfl rfl fun a7 => JO.toK ?_)
            refine JO.reg ttOk 1 [] [] [(26, .v (.slice a2 x0.length c3))] _ rfl ⟨⟨rfl, trivial⟩, rfl⟩ ?_
            obtain ⟨g8, h⟩ := guardO_some h
            refine JO.appendR' ttOk rfl rfl rfl rfl ⟨rfl, rfl, rfl, rfl, trivial, rfl, rfl, rfl, rfl⟩ rfl rfl rfl [0] rfl 0 rfl g8 rfl ?_
            intro a9 c10
            refine JO.reg ttOk 1 [] [] [(4, .v (.slice a9 (([] : List UInt8) ++ x0).length c10))] _ rfl ⟨⟨rfl, trivial⟩, rfl⟩ ?_
            refine JO.done rfl ?_
            refine JS.seq ?_
            refine JS.region ?_
            refine JO.ofK rfl (JK.buildSlice ttOk rfl rfl rfl rfl rfl rfl rfl rfl rfl rfl rfl [] rfl .byte [] ⟨rfl, rfl⟩ rfl rfl fun a11 => JO.toK ?_)
            refine JO.reg ttOk 1 [] [] [(29, .v (.slice a2 x0.length c3))] _ rfl ⟨⟨rfl, trivial⟩, rfl⟩ ?_
            obtain ⟨g12, h⟩ := guardO_some h
            refine JO.appendR' ttOk rfl rfl rfl rfl ⟨rfl, rfl, rfl, rfl, trivial, rfl, rfl, rfl, rfl⟩ rfl rfl rfl [0] rfl 0 rfl g12 rfl ?_
            intro a13 c14
            refine JO.reg ttOk 1 [] [] [(5, .v (.slice a13 (([] : List UInt8) ++ x0).length c14))] _ rfl ⟨⟨rfl, trivial⟩, rfl⟩ ?_
            refine JO.done rfl ?_
            refine JS.seq ?_
            obtain ⟨j39, hj72, h⟩ := joinO_some h
            refine JS.blockJ (ι := List UInt8 × List UInt8 × Option Addr × Nat × Option Addr × Nat) ⟨fun z => j39 (z.1, z.2.1) = some r, fun z => [(0, .v (.slice a2 x0.length c3)), (3, .v (.int .i64 x6)), (4, .v (.slice z.2.2.1 z.1.length z.2.2.2.1)), (5, .v (.slice z.2.2.2.2.1 z.2.1.length z.2.2.2.2.2))], fun z => .nil, fun z => [⟨.byte, ⟨a2, x0.length, c3⟩, x0⟩], fun z => [⟨.byte, ⟨z.2.2.1, z.1.length, z.2.2.2.1⟩, z.1⟩, ⟨.byte, ⟨z.2.2.2.2.1, z.2.1.length, z.2.2.2.2.2⟩, z.2.1⟩], fun z => 0⟩ ?_ ?_
            · refine JS.loop (ι := Nat × List UInt8 × List UInt8 × Option Addr × Nat × Option Addr × Nat) ⟨fun z => fixF (M_s_RuneBegin_L1 x6 j39) z.1 (z.2.1, z.2.2.1) = some r, fun z => [(0, .v (.slice a2 x0.length c3)), (3, .v (.int .i64 x6)), (4, .v (.slice z.2.2.2.1 z.2.1.length z.2.2.2.2.1)), (5, .v (.slice z.2.2.2.2.2.1 z.2.2.1.length z.2.2.2.2.2.2))], fun z => .nil, fun z => [⟨.byte, ⟨a2, x0.length, c3⟩, x0⟩], fun z => [⟨.byte, ⟨z.2.2.2.1, z.2.1.length, z.2.2.2.2.1⟩, z.2.1⟩, ⟨.byte, ⟨z.2.2.2.2.2.1, z.2.2.1.length, z.2.2.2.2.2.2⟩, z.2.2.1⟩], fun z => z.1⟩ (FUEL, (([] : List UInt8) ++ x0), (([] : List UInt8) ++ x0), a9, c10, a13, c14) h ⟨rfl, rfl, rfl, rfl, trivial⟩ trivial [0] rfl [1, 0] rfl ?_
              rintro ⟨n31, x15, x18, a16, c17, a19, c20⟩ h
              obtain ⟨n31, rfl, h⟩ := fixF_some h
              rw [M_s_RuneBegin_L1] at h
              refine JS.seq ?_
              refine JS.seq ?_
              refine JS.region ?_
              refine JO.reg ttOk 4 [] [] [(34, .v (.bool (decide ((x15.length : Int) < x6))))] _ rfl ⟨⟨rfl, trivial⟩, rfl⟩ ?_
              refine JO.done rfl ?_
              refine JS.cond rfl (fun ht70 => ?_) (fun ht70 => ?_)
              · have h := condT h ht70
                refine JS.skip ?_
                refine JS.block ?_
                refine JS.seq ?_
                refine JS.region ?_
                refine JO.reg ttOk 1 [] [] [(35, .v (.slice a16 x15.length c17))] _ rfl ⟨⟨rfl, trivial⟩, rfl⟩ ?_
                refine JO.ofK rfl (JK.buildSlice ttOk rfl rfl rfl rfl rfl rfl rfl rfl rfl rfl rfl [] rfl .byte [(128 : UInt8)] ⟨rfl, rfl⟩ rfl rfl fun a21 => JO.toK ?_)
                obtain ⟨g22, h⟩ := guardO_some h
                refine JO.appendR' ttOk rfl rfl rfl rfl ⟨rfl, rfl, rfl, rfl, trivial, rfl, rfl, rfl, rfl⟩ rfl rfl rfl [1] rfl 1 rfl g22 rfl ?_
                intro a23 c24
                refine JO.reg ttOk 1 [] [] [(4, .v (.slice a23 (x15 ++ ([(128 : UInt8)] : List UInt8)).length c24))] _ rfl ⟨⟨rfl, trivial⟩, rfl⟩ ?_
                refine JO.done rfl ?_
                refine JS.region ?_
                refine JO.reg ttOk 1 [] [] [(38, .v (.slice a19 x18.length c20))] _ rfl ⟨⟨rfl, trivial⟩, rfl⟩ ?_
                refine JO.ofK rfl (JK.buildSlice ttOk rfl rfl rfl rfl rfl rfl rfl rfl rfl rfl rfl [] rfl .byte [(191 : UInt8)] ⟨rfl, rfl⟩ rfl rfl fun a25 => JO.toK ?_)
                obtain ⟨g26, h⟩ := guardO_some h
                refine JO.appendR' ttOk rfl rfl rfl rfl ⟨rfl, rfl, rfl, rfl, trivial, rfl, rfl, rfl, rfl⟩ rfl rfl rfl [3] rfl 1 rfl g26 rfl ?_
                intro a27 c28
                refine JO.reg ttOk 1 [] [] [(5, .v (.slice a27 (x18 ++ ([(191 : UInt8)] : List UInt8)).length c28))] _ rfl ⟨⟨rfl, trivial⟩, rfl⟩ ?_
                refine JO.done rfl ?_
                refine JS.endB ?_
                exact JS.endL (n31, (x15 ++ ([(128 : UInt8)] : List UInt8)), (x18 ++ ([(191 : UInt8)] : List UInt8)), a23, c24, a27, c28) h (Nat.lt_succ_self _) ⟨rfl, rfl, rfl, rfl, trivial⟩ trivial [0] rfl [2, 0] rfl
              · have h := condF h ht70
                refine JS.exit rfl ?_
                exact JS.endJ (x15, x18, a16, c17, a19, c20) h ⟨rfl, rfl, rfl, rfl, trivial⟩ trivial [0] rfl [0, 0] rfl
            · rintro ⟨x33, x36, a34, c35, a37, c38⟩ h
              subst hj72
              refine JS.seq ?_
              refine JS.region ?_
              refine JO.reg ttOk 1 [] [] [(42, .v (.slice a34 x33.length c35))] _ rfl ⟨⟨rfl, trivial⟩, rfl⟩ ?_
              obtain ⟨⟨y41, y42⟩, hy43, h⟩ := bindO_some h
              refine JO.call rfl rfl rfl rfl (ok_s_RuneRead x33 0 a34 c35 x33.length rfl _ hy43) rfl [1] rfl rfl ?_
              intro _ _
              refine JO.reg ttOk 5 [] [] [(7, .v (.int .i64 y42))] _ rfl ⟨⟨rfl, trivial⟩, rfl⟩ ?_
              refine JO.done rfl ?_
              refine JS.seq ?_
              refine JS.region ?_
              refine JO.reg ttOk 1 [] [] [(47, .v (.slice a37 x36.length c38))] _ rfl ⟨⟨rfl, trivial⟩, rfl⟩ ?_
              obtain ⟨⟨y44, y45⟩, hy46, h⟩ := bindO_some h
              refine JO.call rfl rfl rfl rfl (ok_s_RuneRead x36 0 a37 c38 x36.length rfl _ hy46) rfl [2] rfl rfl ?_
              intro _ _
              refine JO.reg ttOk 5 [] [] [(9, .v (.int .i64 y45))] _ rfl ⟨⟨rfl, trivial⟩, rfl⟩ ?_
              refine JO.done rfl ?_
              refine JS.seq ?_
              refine JS.region ?_
              refine JO.reg ttOk 8 [] [] [(58, .v (.bool (bif (decide (y42 = x6)) then true else (decide (y45 = x6)))))] _ rfl ⟨⟨rfl, trivial⟩, rfl⟩ ?_
              refine JO.done rfl ?_
              refine JS.cond rfl (fun ht71 => ?_) (fun ht71 => ?_)
              · have h := condT h ht71
                refine JS.seq ?_
                refine JS.region ?_
                refine JO.reg ttOk 1 [] [] [(2, .v (.bool true))] _ rfl ⟨⟨rfl, trivial⟩, rfl⟩ ?_
                refine JO.done rfl ?_
                cases h
                exact JS.ret ttOk () trivial rfl rfl [] rfl
              · have h := condF h ht71
                refine JS.skip ?_
                refine JS.endB ?_
                exact JS.endJ () h ⟨rfl, rfl, trivial⟩ trivial [0] rfl [] rfl
          · rintro _ h
            subst hj73
            refine JS.region ?_
            refine JO.reg ttOk 3 [(W (x6 + 1))] [] [(3, .v (.int .i64 (W (x6 + 1))))] _ rfl ⟨⟨trivial, rfl⟩, ⟨rfl, trivial⟩, rfl⟩ ?_
            refine JO.done rfl ?_
            exact JS.endL (n56, (W (x6 + 1))) h (Nat.lt_succ_self _) ⟨rfl, rfl, trivial⟩ trivial [0] rfl [] rfl
        · have h := condF h ht74
          refine JS.exit rfl ?_
          exact JS.endJ () h trivial trivial [] rfl [] rfl
      · rintro _ h
        subst hj75
        refine JS.seq ?_
        refine JS.region ?_
        refine JO.reg ttOk 1 [] [] [(2, .v (.bool false))] _ rfl ⟨⟨rfl, trivial⟩, rfl⟩ ?_
        refine JO.done rfl ?_
        cases h
        exact JS.ret ttOk () trivial rfl rfl [] rfl

def M_s_DecOk_L1 (x0 : Int × List UInt8) (j28 : Unit → Option Bool) (k23 : Int → Option Bool) : Int → Option Bool := fun x9 =>
  (bif (decide (x9 < (x0.2.length : Int))) then
  (guardO (0 ≤ x9 ∧ x9 < (x0.2.length : Int)) <|
  (bindO (M_s_l12Param ((at' x0.2 x9).toNat : Int)) fun (y16 : Bool) =>
  (bif (!y16) then
  some false
  else
  k23 (W (x9 + 1)))))
  else
  j28 ())

def M_s_DecOk (x0 : Int × List UInt8) : Option Bool :=
  (joinO (fun (_ : Unit) =>
  some (bif (bif (decide (1 ≤ x0.1)) then (decide (x0.1 ≤ 4)) else false) then (decide ((x0.2.length : Int) = 0)) else false)) fun j35 =>
  (bif (decide (x0.1 = 0)) then
  (callO ((decide ((x0.2.length : Int) = 0)) = false) (M_s_RuneBegin x0.2) false fun (y6 : Bool) =>
  some (bif (decide ((x0.2.length : Int) = 0)) then true else y6))
  else
  (bif (decide (x0.1 = 2)) then
  (joinO (fun (_ : Unit) =>
  some (decide ((x0.2.length : Int) ≤ 8))) fun j28 =>
  (fixF (M_s_DecOk_L1 x0 j28) FUEL 0))
  else
  j35 ())))

theorem ok_s_DecOk (x0 : Int × List UInt8) (a2 : Option Addr) (c3 : Nat) (l4 : Nat) (hl5 : x0.2.length = l4) (r : Bool) (h : M_s_DecOk x0 = some r) :
    FC Try.prog 31 [.agg #[.int .i64 x0.1, .slice a2 l4 c3]] [⟨.byte, ⟨a2, l4, c3⟩, x0.2⟩] (fun _ : Unit => True) (fun _ => .bool r) (fun _ => []) :=
  by
    subst hl5
    refine FC.of (T := TTx) Try.call31 Try.func31 rfl rfl fun w0 => ?_
    unfold M_s_DecOk at h
    refine JS.seq ?_
    refine JS.region ?_
    refine JO.regB ttOk 2 [] [2] [(1, .bp 2 0)] (.new 2 26 [.int .i64 x0.1, .slice a2 x0.2.length c3] .nil) rfl ⟨⟨rfl, trivial⟩, ⟨rfl, rfl, rfl, rfl, trivial⟩⟩ ?_
    refine JO.done rfl ?_
    refine JS.seq ?_
    refine JS.seq ?_
    refine JS.region ?_
    refine JO.reg ttOk 2 [] [] [(6, .v (.int .i64 x0.1))] _ rfl ⟨⟨rfl, trivial⟩, rfl⟩ ?_
    refine JO.done rfl ?_
    obtain ⟨j35, hj51, h⟩ := joinO_some h
    refine JS.blockJ (ι := Unit) ⟨fun _ => j35 () = some r, fun _ => [(1, .bp 2 0)], fun _ => (.new 2 26 [.int .i64 x0.1, .slice a2 x0.2.length c3] .nil), fun _ => [⟨.byte, ⟨a2, x0.2.length, c3⟩, x0.2⟩], fun _ => [], fun _ => 0⟩ ?_ ?_
    · refine JS.seq ?_
      refine JS.region ?_
      refine JO.reg ttOk 2 [] [] [(7, .v (.bool (decide (x0.1 = 0))))] _ rfl ⟨⟨rfl, trivial⟩, rfl⟩ ?_
      refine JO.done rfl ?_
      refine JS.cond rfl (fun ht50 => ?_) (fun ht50 => ?_)
      · have h := condT h ht50
        refine JS.seq ?_
        refine JS.region ?_
        refine JO.reg ttOk 7 [] [] [(13, .v (.bool (decide ((x0.2.length : Int) = 0)))), (15, .cd [(13, false)] (.v (.slice a2 x0.2.length c3)))] _ rfl ⟨⟨rfl, rfl, trivial⟩, rfl⟩ ?_
        obtain ⟨y6, hy7, -, h⟩ := callO_some h
        refine JO.callg rfl rfl rfl rfl (fun q44 => ok_s_RuneBegin x0.2 a2 c3 x0.2.length rfl _ (hy7 q44)) rfl [0] rfl rfl ?_
        refine JO.reg ttOk 2 [] [] [(2, .v (.bool (bif (decide ((x0.2.length : Int) = 0)) then true else y6)))] _ rfl ⟨⟨rfl, trivial⟩, rfl⟩ ?_
        refine JO.done rfl ?_
        cases h
        exact JS.ret ttOk () trivial rfl rfl [] rfl
      · have h := condF h ht50
        refine JS.seq ?_
        refine JS.region ?_
        refine JO.reg ttOk 2 [] [] [(18, .v (.bool (decide (x0.1 = 2))))] _ rfl ⟨⟨rfl, trivial⟩, rfl⟩ ?_
        refine JO.done rfl ?_
        refine JS.cond rfl (fun ht49 => ?_) (fun ht49 => ?_)
        · have h := condT h ht49
          refine JS.seq ?_
          refine JS.seq ?_
          refine JS.region ?_
          refine JO.reg ttOk 4 [] [] [(21, .v (.slice a2 x0.2.length c3)), (22, .v (.int .i64 (x0.2.length : Int))), (23, .v (.int .i64 0))] _ rfl ⟨⟨rfl, rfl, rfl, trivial⟩, rfl⟩ ?_
          refine JO.done rfl ?_
          obtain ⟨j28, hj48, h⟩ := joinO_some h
          refine JS.blockJ (ι := Unit) ⟨fun _ => j28 () = some r, fun _ => [(1, .bp 2 0)], fun _ => (.new 2 26 [.int .i64 x0.1, .slice a2 x0.2.length c3] .nil), fun _ => [⟨.byte, ⟨a2, x0.2.length, c3⟩, x0.2⟩], fun _ => [], fun _ => 0⟩ ?_ ?_
          · refine JS.loop (ι := Nat × Int) ⟨fun z => fixF (M_s_DecOk_L1 x0 j28) z.1 z.2 = some r, fun z => [(1, .bp 2 0), (21, .v (.slice a2 x0.2.length c3)), (22, .v (.int .i64 (x0.2.length : Int))), (23, .v (.int .i64 z.2))], fun z => (.new 2 26 [.int .i64 x0.1, .slice a2 x0.2.length c3] .nil), fun z => [⟨.byte, ⟨a2, x0.2.length, c3⟩, x0.2⟩], fun z => [], fun z => z.1⟩ (FUEL, 0) h ⟨rfl, rfl, rfl, rfl, trivial⟩ ⟨rfl, rfl, rfl, rfl, trivial⟩ [0] rfl [] rfl ?_
            rintro ⟨n24, x9⟩ h
            obtain ⟨n24, rfl, h⟩ := fixF_some h
            rw [M_s_DecOk_L1] at h
            refine JS.seq ?_
            refine JS.region ?_
            refine JO.reg ttOk 1 [] [] [(24, .v (.bool (decide (x9 < (x0.2.length : Int)))))] _ rfl ⟨⟨rfl, trivial⟩, rfl⟩ ?_
            refine JO.done rfl ?_
            refine JS.seq ?_
            refine JS.cond rfl (fun ht47 => ?_) (fun ht47 => ?_)
            · have h := condT h ht47
              refine JS.skip ?_
              refine JS.seq ?_
              refine JS.block ?_
              refine JS.seq ?_
              refine JS.region ?_
              refine JO.know 0 rfl fun hs45 => ?_
              obtain ⟨g15, h⟩ := guardO_some h
              refine JO.reg ttOk 1 [] [] [(25, .ep ⟨a2, x0.2.length, c3⟩ (Int.toNat x9 * 1))] _ rfl ⟨hs45.ix g15, ⟨rfl, trivial⟩, rfl⟩ ?_
              refine JO.load ttOk rfl rfl rfl rfl rfl rfl rfl 0 rfl rfl (Int.toNat x9) 0 (at' x0.2 x9) ⟨at_some g15, rfl⟩ rfl rfl ?_
              refine JO.reg ttOk 1 [] [] [(4, .v (.int .u8 ((at' x0.2 x9).toNat : Int)))] _ rfl ⟨⟨rfl, trivial⟩, rfl⟩ ?_
              refine JO.done rfl ?_
              refine JS.seq ?_
              refine JS.region ?_
              refine JO.reg ttOk 2 [((at' x0.2 x9).toNat : Int)] [] [(28, .v (.int .i64 ((at' x0.2 x9).toNat : Int)))] _ rfl ⟨⟨trivial, W_byte _⟩, ⟨rfl, trivial⟩, rfl⟩ ?_
              obtain ⟨y16, hy17, h⟩ := bindO_some h
              refine JO.call rfl rfl rfl rfl (ok_s_l12Param ((at' x0.2 x9).toNat : Int) _ hy17) rfl [] rfl rfl ?_
              intro _ _
              refine JO.reg ttOk 1 [] [] [(30, .v (.bool (!y16)))] _ rfl ⟨⟨rfl, trivial⟩, rfl⟩ ?_
              refine JO.done rfl ?_
              refine JS.cond rfl (fun ht46 => ?_) (fun ht46 => ?_)
              · have h := condT h ht46
                refine JS.seq ?_
                refine JS.region ?_
                refine JO.reg ttOk 1 [] [] [(2, .v (.bool false))] _ rfl ⟨⟨rfl, trivial⟩, rfl⟩ ?_
                refine JO.done rfl ?_
                cases h
                exact JS.ret ttOk () trivial rfl rfl [] rfl
              · have h := condF h ht46
                refine JS.skip ?_
                refine JS.endB ?_
                refine JS.region ?_
                refine JO.reg ttOk 2 [(W (x9 + 1))] [] [(23, .v (.int .i64 (W (x9 + 1))))] _ rfl ⟨⟨trivial, rfl⟩, ⟨rfl, trivial⟩, rfl⟩ ?_
                refine JO.done rfl ?_
                exact JS.endL (n24, (W (x9 + 1))) h (Nat.lt_succ_self _) ⟨rfl, rfl, rfl, rfl, trivial⟩ ⟨rfl, rfl, rfl, rfl, trivial⟩ [0] rfl [] rfl
            · have h := condF h ht47
              refine JS.exit rfl ?_
              exact JS.endJ () h ⟨rfl, trivial⟩ ⟨rfl, rfl, rfl, rfl, trivial⟩ [0] rfl [] rfl
          · rintro _ h
            subst hj48
            refine JS.seq ?_
            refine JS.region ?_
            refine JO.reg ttOk 5 [] [] [(2, .v (.bool (decide ((x0.2.length : Int) ≤ 8))))] _ rfl ⟨⟨rfl, trivial⟩, rfl⟩ ?_
            refine JO.done rfl ?_
            cases h
            exact JS.ret ttOk () trivial rfl rfl [] rfl
        · have h := condF h ht49
          refine JS.skip ?_
          refine JS.endB ?_
          exact JS.endJ () h ⟨rfl, trivial⟩ ⟨rfl, rfl, rfl, rfl, trivial⟩ [0] rfl [] rfl
    · rintro _ h
      subst hj51
      refine JS.seq ?_
      refine JS.region ?_
      refine JO.reg ttOk 15 [] [] [(2, .v (.bool (bif (bif (decide (1 ≤ x0.1)) then (decide (x0.1 ≤ 4)) else false) then (decide ((x0.2.length : Int) = 0)) else false)))] _ rfl ⟨⟨rfl, trivial⟩, rfl⟩ ?_
      refine JO.done rfl ?_
      cases h
      exact JS.ret ttOk () trivial rfl rfl [] rfl

def M_s_l12One (x0 : Int) : Option (List (Int × Int)) :=
  some ([(x0, 0)] : List (Int × Int))

theorem ok_s_l12One (x0 : Int) (r : List (Int × Int)) (h : M_s_l12One x0 = some r) :
    FC Try.prog 32 [.int .i64 x0] [] (fun _ : Option Addr × Nat => True) (fun q => .slice q.1 r.length q.2) (fun q => [⟨(.pair (.int .i64) (.int .i64)), ⟨q.1, r.length, q.2⟩, r⟩]) :=
  by
    refine FC.of (T := TTx) Try.call32 Try.func32 rfl rfl fun w0 => ?_
    unfold M_s_l12One at h
    refine JS.seq ?_
    refine JS.region ?_
    refine JO.reg ttOk 1 [] [] [] _ rfl ⟨trivial, rfl⟩ ?_
    refine JO.done rfl ?_
    refine JS.seq ?_
    refine JS.region ?_
    refine JO.reg ttOk 2 [] [] [(4, .v (.agg #[.int .i64 x0, .int .i64 0]))] _ rfl ⟨⟨rfl, trivial⟩, rfl⟩ ?_
    refine JO.ofK rfl (JK.buildSlice ttOk rfl rfl rfl rfl rfl rfl rfl rfl rfl rfl rfl [] rfl (.pair (.int .i64) (.int .i64)) [(x0, 0)] ⟨rfl, rfl⟩ rfl rfl fun a2 => JO.toK ?_)
    refine JO.reg ttOk 1 [] [] [(2, .v (.slice a2 ([(x0, 0)] : List (Int × Int)).length ([(x0, 0)] : List (Int × Int)).length))] _ rfl ⟨⟨rfl, trivial⟩, rfl⟩ ?_
    refine JO.done rfl ?_
    cases h
    exact JS.ret ttOk (a2, ([(x0, 0)] : List (Int × Int)).length) trivial rfl rfl [0] rfl

def M_s_DecTick (x0 : Int × List UInt8) : Option ((Int × List UInt8) × List (Int × Int)) :=
  (bindO (M_s_DecOk x0) fun (y7 : Bool) =>
  (bif (!y7) then
  some ((0, []), ([] : List (Int × Int)))
  else
  (joinO (fun (x29 : List (Int × Int)) =>
  some ((0, []), x29)) fun j32 =>
  (bif (decide (x0.1 = 0)) then
  (bif (decide (0 < (x0.2.length : Int))) then
  (bindO (M_s_l12One 16) fun (y9 : List (Int × Int)) =>
  j32 y9)
  else
  j32 ([] : List (Int × Int)))
  else
  (bif (decide (x0.1 = 1)) then
  (bindO (M_s_l12One 7) fun (y14 : List (Int × Int)) =>
  j32 y14)
  else
  (bif (decide (x0.1 = 2)) then
  (bindO (M_s_l12One 16) fun (y18 : List (Int × Int)) =>
  (bif (decide ((x0.2.length : Int) = 0)) then
  j32 ([(3, 91)] : List (Int × Int))
  else
  j32 y18))
  else
  (bif (decide (x0.1 = 3)) then
  j32 ([(3, 79)] : List (Int × Int))
  else
  j32 ([] : List (Int × Int)))))))))

theorem ok_s_DecTick (x0 : Int × List UInt8) (a2 : Option Addr) (c3 : Nat) (l4 : Nat) (hl5 : x0.2.length = l4) (r : (Int × List UInt8) × List (Int × Int)) (h : M_s_DecTick x0 = some r) :
    FC Try.prog 9 [.agg #[.int .i64 x0.1, .slice a2 l4 c3]] [⟨.byte, ⟨a2, l4, c3⟩, x0.2⟩] (fun _ : Option Addr × Nat => True) (fun q => .tuple #[.agg #[.int .i64 r.1.1, .slice none 0 0], .slice q.1 r.2.length q.2]) (fun q => [⟨(.pair (.int .i64) (.int .i64)), ⟨q.1, r.2.length, q.2⟩, r.2⟩]) :=
  by
    subst hl5
    refine FC.of (T := TTx) Try.call9 Try.func9 rfl rfl fun w0 => ?_
    unfold M_s_DecTick at h
    refine JS.seq ?_
    refine JS.region ?_
    refine JO.regB ttOk 3 [] [2, 3] [(1, .bp 2 0), (2, .bp 3 0)] (.new 2 26 [.int .i64 x0.1, .slice a2 x0.2.length c3] (.new 3 26 [.int .i64 0, .slice none 0 0] .nil)) rfl ⟨⟨rfl, rfl, trivial⟩, ⟨rfl, rfl, rfl, rfl, rfl, rfl, rfl, rfl, trivial⟩⟩ ?_
    refine JO.done rfl ?_
    refine JS.seq ?_
    refine JS.region ?_
    refine JO.ofK rfl (JK.buildSlice ttOk rfl rfl rfl rfl rfl rfl rfl rfl rfl rfl rfl [] rfl (.pair (.int .i64) (.int .i64)) [] ⟨rfl, rfl⟩ rfl rfl fun a6 => JO.toK ?_)
    refine JO.reg ttOk 1 [] [] [(4, .v (.slice a6 ([] : List (Int × Int)).length ([] : List (Int × Int)).length))] _ rfl ⟨⟨rfl, trivial⟩, rfl⟩ ?_
    refine JO.done rfl ?_
    refine JS.seq ?_
    refine JS.seq ?_
    refine JS.region ?_
    refine JO.reg ttOk 1 [] [] [(6, .v (.agg #[.int .i64 x0.1, .slice a2 x0.2.length c3]))] _ rfl ⟨⟨rfl, trivial⟩, rfl⟩ ?_
    obtain ⟨y7, hy8, h⟩ := bindO_some h
    refine JO.call rfl rfl rfl rfl (ok_s_DecOk x0 a2 c3 x0.2.length rfl _ hy8) rfl [0] rfl rfl ?_
    intro _ _
    refine JO.reg ttOk 1 [] [] [(8, .v (.bool (!y7)))] _ rfl ⟨⟨rfl, trivial⟩, rfl⟩ ?_
    refine JO.done rfl ?_
    refine JS.cond rfl (fun ht48 => ?_) (fun ht48 => ?_)
    · have h := condT h ht48
      refine JS.seq ?_
      refine JS.region ?_
      refine JO.regB ttOk 4 [] [] [(3, .v (.slice a6 ([] : List (Int × Int)).length ([] : List (Int × Int)).length))] (.new 3 26 [.int .i64 0, .slice none 0 0] .nil) rfl ⟨⟨rfl, trivial⟩, ⟨rfl, rfl, rfl, rfl, trivial⟩⟩ ?_
      refine JO.done rfl ?_
      cases h
      exact JS.ret ttOk (a6, ([] : List (Int × Int)).length) trivial rfl rfl [0] rfl
    · have h := condF h ht48
      refine JS.skip ?_
      refine JS.seq ?_
      refine JS.seq ?_
      refine JS.region ?_
      refine JO.reg ttOk 2 [] [] [(12, .v (.int .i64 x0.1))] _ rfl ⟨⟨rfl, trivial⟩, rfl⟩ ?_
      refine JO.done rfl ?_
      obtain ⟨j32, hj47, h⟩ := joinO_some h
      refine JS.blockJ (ι := (List (Int × Int)) × Option Addr × Nat) ⟨fun z => j32 z.1 = some r, fun z => [(2, .bp 3 0), (4, .v (.slice z.2.1 z.1.length z.2.2))], fun z => (.new 3 26 [.int .i64 0, .slice none 0 0] .nil), fun z => [], fun z => [⟨(.pair (.int .i64) (.int .i64)), ⟨z.2.1, z.1.length, z.2.2⟩, z.1⟩], fun z => 0⟩ ?_ ?_
      · refine JS.seq ?_
        refine JS.region ?_
        refine JO.reg ttOk 2 [] [] [(13, .v (.bool (decide (x0.1 = 0))))] _ rfl ⟨⟨rfl, trivial⟩, rfl⟩ ?_
        refine JO.done rfl ?_
        refine JS.cond rfl (fun ht46 => ?_) (fun ht46 => ?_)
        · have h := condT h ht46
          refine JS.seq ?_
          refine JS.region ?_
          refine JO.reg ttOk 4 [] [] [(18, .v (.bool (decide (0 < (x0.2.length : Int)))))] _ rfl ⟨⟨rfl, trivial⟩, rfl⟩ ?_
          refine JO.done rfl ?_
          refine JS.cond rfl (fun ht41 => ?_) (fun ht41 => ?_)
          · have h := condT h ht41
            refine JS.region ?_
            obtain ⟨y9, hy10, h⟩ := bindO_some h
            refine JO.call rfl rfl rfl rfl (ok_s_l12One 16 _ hy10) rfl [] rfl rfl ?_
            rintro ⟨a11, c12⟩ -
            refine JO.reg ttOk 1 [] [] [(4, .v (.slice a11 y9.length c12))] _ rfl ⟨⟨rfl, trivial⟩, rfl⟩ ?_
            refine JO.done rfl ?_
            refine JS.endB ?_
            exact JS.endJ (y9, a11, c12) h ⟨rfl, rfl, trivial⟩ ⟨rfl, rfl, rfl, rfl, trivial⟩ [] rfl [0] rfl
          · have h := condF h ht41
            refine JS.skip ?_
            refine JS.endB ?_
            exact JS.endJ (([] : List (Int × Int)), a6, ([] : List (Int × Int)).length) h ⟨rfl, rfl, trivial⟩ ⟨rfl, rfl, rfl, rfl, trivial⟩ [] rfl [0] rfl
        · have h := condF h ht46
          refine JS.seq ?_
          refine JS.region ?_
          refine JO.reg ttOk 2 [] [] [(20, .v (.bool (decide (x0.1 = 1))))] _ rfl ⟨⟨rfl, trivial⟩, rfl⟩ ?_
          refine JO.done rfl ?_
          refine JS.cond rfl (fun ht45 => ?_) (fun ht45 => ?_)
          · have h := condT h ht45
            refine JS.region ?_
            obtain ⟨y14, hy15, h⟩ := bindO_some h
            refine JO.call rfl rfl rfl rfl (ok_s_l12One 7 _ hy15) rfl [] rfl rfl ?_
            rintro ⟨a16, c17⟩ -
            refine JO.reg ttOk 1 [] [] [(4, .v (.slice a16 y14.length c17))] _ rfl ⟨⟨rfl, trivial⟩, rfl⟩ ?_
            refine JO.done rfl ?_
            refine JS.endB ?_
            exact JS.endJ (y14, a16, c17) h ⟨rfl, rfl, trivial⟩ ⟨rfl, rfl, rfl, rfl, trivial⟩ [] rfl [0] rfl
          · have h := condF h ht45
            refine JS.seq ?_
            refine JS.region ?_
            refine JO.reg ttOk 2 [] [] [(23, .v (.bool (decide (x0.1 = 2))))] _ rfl ⟨⟨rfl, trivial⟩, rfl⟩ ?_
            refine JO.done rfl ?_
            refine JS.cond rfl (fun ht44 => ?_) (fun ht44 => ?_)
            · have h := condT h ht44
              refine JS.seq ?_
              refine JS.region ?_
              obtain ⟨y18, hy19, h⟩ := bindO_some h
              refine JO.call rfl rfl rfl rfl (ok_s_l12One 16 _ hy19) rfl [] rfl rfl ?_
              rintro ⟨a20, c21⟩ -
              refine JO.reg ttOk 1 [] [] [(4, .v (.slice a20 y18.length c21))] _ rfl ⟨⟨rfl, trivial⟩, rfl⟩ ?_
              refine JO.done rfl ?_
              refine JS.seq ?_
              refine JS.region ?_
              refine JO.reg ttOk 4 [] [] [(29, .v (.bool (decide ((x0.2.length : Int) = 0))))] _ rfl ⟨⟨rfl, trivial⟩, rfl⟩ ?_
              refine JO.done rfl ?_
              refine JS.cond rfl (fun ht42 => ?_) (fun ht42 => ?_)
              · have h := condT h ht42
                refine JS.region ?_
                refine JO.reg ttOk 1 [] [] [(30, .v (.agg #[.int .i64 3, .int .i64 91]))] _ rfl ⟨⟨rfl, trivial⟩, rfl⟩ ?_
                refine JO.ofK rfl (JK.buildSlice ttOk rfl rfl rfl rfl rfl rfl rfl rfl rfl rfl rfl [] rfl (.pair (.int .i64) (.int .i64)) [(3, 91)] ⟨rfl, rfl⟩ rfl rfl fun a22 => JO.toK ?_)
                refine JO.reg ttOk 1 [] [] [(4, .v (.slice a22 ([(3, 91)] : List (Int × Int)).length ([(3, 91)] : List (Int × Int)).length))] _ rfl ⟨⟨rfl, trivial⟩, rfl⟩ ?_
                refine JO.done rfl ?_
                refine JS.endB ?_
                exact JS.endJ (([(3, 91)] : List (Int × Int)), a22, ([(3, 91)] : List (Int × Int)).length) h ⟨rfl, rfl, trivial⟩ ⟨rfl, rfl, rfl, rfl, trivial⟩ [] rfl [0] rfl
              · have h := condF h ht42
                refine JS.skip ?_
                refine JS.endB ?_
                exact JS.endJ (y18, a20, c21) h ⟨rfl, rfl, trivial⟩ ⟨rfl, rfl, rfl, rfl, trivial⟩ [] rfl [0] rfl
            · have h := condF h ht44
              refine JS.seq ?_
              refine JS.region ?_
              refine JO.reg ttOk 2 [] [] [(32, .v (.bool (decide (x0.1 = 3))))] _ rfl ⟨⟨rfl, trivial⟩, rfl⟩ ?_
              refine JO.done rfl ?_
              refine JS.cond rfl (fun ht43 => ?_) (fun ht43 => ?_)
              · have h := condT h ht43
                refine JS.region ?_
                refine JO.reg ttOk 1 [] [] [(34, .v (.agg #[.int .i64 3, .int .i64 79]))] _ rfl ⟨⟨rfl, trivial⟩, rfl⟩ ?_
                refine JO.ofK rfl (JK.buildSlice ttOk rfl rfl rfl rfl rfl rfl rfl rfl rfl rfl rfl [] rfl (.pair (.int .i64) (.int .i64)) [(3, 79)] ⟨rfl, rfl⟩ rfl rfl fun a24 => JO.toK ?_)
                refine JO.reg ttOk 1 [] [] [(4, .v (.slice a24 ([(3, 79)] : List (Int × Int)).length ([(3, 79)] : List (Int × Int)).length))] _ rfl ⟨⟨rfl, trivial⟩, rfl⟩ ?_
                refine JO.done rfl ?_
                refine JS.endB ?_
                exact JS.endJ (([(3, 79)] : List (Int × Int)), a24, ([(3, 79)] : List (Int × Int)).length) h ⟨rfl, rfl, trivial⟩ ⟨rfl, rfl, rfl, rfl, trivial⟩ [] rfl [0] rfl
              · have h := condF h ht43
                refine JS.skip ?_
                refine JS.endB ?_
                exact JS.endJ (([] : List (Int × Int)), a6, ([] : List (Int × Int)).length) h ⟨rfl, rfl, trivial⟩ ⟨rfl, rfl, rfl, rfl, trivial⟩ [] rfl [0] rfl
      · rintro ⟨x29, a30, c31⟩ h
        subst hj47
        refine JS.seq ?_
        refine JS.region ?_
        refine JO.regB ttOk 4 [] [] [(3, .v (.slice a30 x29.length c31))] (.new 3 26 [.int .i64 0, .slice none 0 0] .nil) rfl ⟨⟨rfl, trivial⟩, ⟨rfl, rfl, rfl, rfl, trivial⟩⟩ ?_
        refine JO.done rfl ?_
        cases h
        exact JS.ret ttOk (a30, c31) trivial rfl rfl [0] rfl

def M_i_in (x0 : Int) (x1 : Int) (x2 : Int) : Option Bool :=
  some (bif (decide (x1 ≤ x0)) then (decide (x0 ≤ x2)) else false)

theorem ok_i_in (x0 : Int) (x1 : Int) (x2 : Int) (r : Bool) (h : M_i_in x0 x1 x2 = some r) :
    FC Try.prog 44 [.int .i64 x0, .int .i64 x1, .int .i64 x2] [] (fun _ : Unit => True) (fun _ => .bool r) (fun _ => []) :=
  by
    refine FC.of (T := TTx) Try.call44 Try.func44 rfl rfl fun w0 => ?_
    unfold M_i_in at h
    refine JS.seq ?_
    refine JS.region ?_
    refine JO.reg ttOk 1 [] [] [] _ rfl ⟨trivial, rfl⟩ ?_
    refine JO.done rfl ?_
    refine JS.seq ?_
    refine JS.region ?_
    refine JO.reg ttOk 9 [] [] [(6, .v (.bool (bif (decide (x1 ≤ x0)) then (decide (x0 ≤ x2)) else false)))] _ rfl ⟨⟨rfl, trivial⟩, rfl⟩ ?_
    refine JO.done rfl ?_
    cases h
    exact JS.ret ttOk () trivial rfl rfl [] rfl

def M_i_isDigit (x0 : Int) : Option Bool :=
  (bindO (M_i_in x0 48 57) fun (y2 : Bool) =>
  some y2)

theorem ok_i_isDigit (x0 : Int) (r : Bool) (h : M_i_isDigit x0 = some r) :
    FC Try.prog 41 [.int .i64 x0] [] (fun _ : Unit => True) (fun _ => .bool r) (fun _ => []) :=
  by
    refine FC.of (T := TTx) Try.call41 Try.func41 rfl rfl fun w0 => ?_
    unfold M_i_isDigit at h
    refine JS.seq ?_
    refine JS.region ?_
    refine JO.reg ttOk 1 [] [] [] _ rfl ⟨trivial, rfl⟩ ?_
    refine JO.done rfl ?_
    refine JS.seq ?_
    refine JS.region ?_
    refine JO.reg ttOk 1 [] [] [(3, .v (.int .i64 x0))] _ rfl ⟨⟨rfl, trivial⟩, rfl⟩ ?_
    obtain ⟨y2, hy3, h⟩ := bindO_some h
    refine JO.call rfl rfl rfl rfl (ok_i_in x0 48 57 _ hy3) rfl [] rfl rfl ?_
    intro _ _
    refine JO.reg ttOk 1 [] [] [(2, .v (.bool y2))] _ rfl ⟨⟨rfl, trivial⟩, rfl⟩ ?_
    refine JO.done rfl ?_
    cases h
    exact JS.ret ttOk () trivial rfl rfl [] rfl

def M_i_RuneBegin_L1 (x0 : List UInt8) (x20 : Int) (j54 : (Int × Int) → Option Bool) (k45 : (Int × Int × Int) → Option Bool) : (Int × Int × Int) → Option Bool := fun (x26, x27, x28) =>
  (bif (decide (x28 < x20)) then
  (joinO (fun ((x37, x38) : Int × Int) =>
  k45 (x37, x38, (W (x28 + 1)))) fun j39 =>
  (bif (decide (x28 < (x0.length : Int))) then
  (guardO (0 ≤ x28 ∧ x28 < (x0.length : Int)) <|
  (bindO (M_i_in ((at' x0 x28).toNat : Int) 128 191) fun (y31 : Bool) =>
  (bif (!y31) then
  some false
  else
  (guardO (0 ≤ x28 ∧ x28 < (x0.length : Int)) <|
  (guardO (0 ≤ x28 ∧ x28 < (x0.length : Int)) <|
  j39 ((W ((W ((W (x26 * 64)) + ((at' x0 x28).toNat : Int))) - 128)), (W ((W ((W (x27 * 64)) + ((at' x0 x28).toNat : Int))) - 128))))))))
  else
  j39 ((W (x26 * 64)), (W ((W (x27 * 64)) + 63)))))
  else
  j54 (x26, x27))

def M_i_RuneBegin (x0 : List UInt8) : Option Bool :=
  (bindO (M_i_in (x0.length : Int) 1 3) fun (y6 : Bool) =>
  (bif (!y6) then
  some false
  else
  (guardO (0 ≤ (0 : Int) ∧ 0 < (x0.length : Int)) <|
  (joinO (fun ((x20, x21) : Int × Int) =>
  (bif (decide (x20 ≤ (x0.length : Int))) then
  some false
  else
  (joinO (fun ((x52, x53) : Int × Int) =>
  (guardO (0 ≤ x20 ∧ x20 < (([0, 0, 128, 2048, 65536] : List Int).length : Int)) <|
  some (bif (decide ((max x52 (at' ([0, 0, 128, 2048, 65536] : List Int) x20)) ≤ (min x53 1114111))) then (!(bif (decide (55296 ≤ (max x52 (at' ([0, 0, 128, 2048, 65536] : List Int) x20)))) then (decide ((min x53 1114111) ≤ 57343)) else false)) else false))) fun j54 =>
  (fixF (M_i_RuneBegin_L1 x0 x20 j54) FUEL (x21, x21, 1))))) fun j22 =>
  (bindO (M_i_in ((at' x0 0).toNat : Int) 192 223) fun (y11 : Bool) =>
  (bif y11 then
  j22 (2, (W (((at' x0 0).toNat : Int) - 192)))
  else
  (bindO (M_i_in ((at' x0 0).toNat : Int) 224 239) fun (y13 : Bool) =>
  (bif y13 then
  j22 (3, (W (((at' x0 0).toNat : Int) - 224)))
  else
  (bindO (M_i_in ((at' x0 0).toNat : Int) 240 247) fun (y15 : Bool) =>
  (bif y15 then
  j22 (4, (W (((at' x0 0).toNat : Int) - 240)))
  else
  j22 (0, ((at' x0 0).toNat : Int))))))))))))

theorem ok_i_RuneBegin (x0 : List UInt8) (a2 : Option Addr) (c3 : Nat) (l4 : Nat) (hl5 : x0.length = l4) (r : Bool) (h : M_i_RuneBegin x0 = some r) :
    FC Try.prog 40 [.slice a2 l4 c3] [⟨.byte, ⟨a2, l4, c3⟩, x0⟩] (fun _ : Unit => True) (fun _ => .bool r) (fun _ => []) :=
  by
    subst hl5
    refine FC.of (T := TTx) Try.call40 Try.func40 rfl rfl fun w0 => ?_
    unfold M_i_RuneBegin at h
    refine JS.seq ?_
    refine JS.region ?_
    refine JO.reg ttOk 1 [] [] [] _ rfl ⟨trivial, rfl⟩ ?_
    refine JO.done rfl ?_
    refine JS.seq ?_
    refine JS.seq ?_
    refine JS.region ?_
    refine JO.reg ttOk 2 [] [] [(10, .v (.int .i64 (x0.length : Int)))] _ rfl ⟨⟨rfl, trivial⟩, rfl⟩ ?_
    obtain ⟨y6, hy7, h⟩ := bindO_some h
    refine JO.call rfl rfl rfl rfl (ok_i_in (x0.length : Int) 1 3 _ hy7) rfl [] rfl rfl ?_
    intro _ _
    refine JO.reg ttOk 1 [] [] [(12, .v (.bool (!y6)))] _ rfl ⟨⟨rfl, trivial⟩, rfl⟩ ?_
    refine JO.done rfl ?_
    refine JS.cond rfl (fun ht81 => ?_) (fun ht81 => ?_)
    · have h := condT h ht81
      refine JS.seq ?_
      refine JS.region ?_
      refine JO.reg ttOk 1 [] [] [(2, .v (.bool false))] _ rfl ⟨⟨rfl, trivial⟩, rfl⟩ ?_
      refine JO.done rfl ?_
      cases h
      exact JS.ret ttOk () trivial rfl rfl [] rfl
    · have h := condF h ht81
      refine JS.skip ?_
      refine JS.seq ?_
      obtain ⟨g9, h⟩ := guardO_some h
      refine JS.know 0 rfl fun hs68 => ?_
      refine JS.regionQ rfl (by kernel_rfl) ?_
      refine JQ.reg ttOk 2 [] [(14, .ep ⟨a2, x0.length, c3⟩ (Int.toNat 0 * 1))] rfl ⟨hs68.ix g9, ⟨rfl, trivial⟩⟩ ?_
      refine JQ.load ttOk rfl rfl rfl rfl rfl rfl rfl 0 rfl rfl (Int.toNat 0) 0 (at' x0 0) ⟨at_some g9, rfl⟩ rfl rfl ?_
      refine JQ.reg ttOk 3 [((at' x0 0).toNat : Int)] [(3, .v (.int .i64 0)), (4, .v (.int .i64 ((at' x0 0).toNat : Int)))] rfl ⟨⟨trivial, W_byte _⟩, ⟨rfl, rfl, trivial⟩⟩ ?_
      refine JQ.done rfl ?_
      refine JS.seq ?_
      obtain ⟨j22, hj80, h⟩ := joinO_some h
      refine JS.blockJ (ι := Int × Int) ⟨fun z => j22 (z.1, z.2) = some r, fun z => [(0, .v (.slice a2 x0.length c3)), (3, .v (.int .i64 z.1)), (4, .v (.int .i64 z.2))], fun z => .nil, fun z => [⟨.byte, ⟨a2, x0.length, c3⟩, x0⟩], fun z => [], fun z => 0⟩ ?_ ?_
      · refine JS.seq ?_
        refine JS.region ?_
        refine JO.reg ttOk 1 [] [] [(18, .v (.int .i64 ((at' x0 0).toNat : Int)))] _ rfl ⟨⟨rfl, trivial⟩, rfl⟩ ?_
        obtain ⟨y11, hy12, h⟩ := bindO_some h
        refine JO.call rfl rfl rfl rfl (ok_i_in ((at' x0 0).toNat : Int) 192 223 _ hy12) rfl [] rfl rfl ?_
        intro _ _
        refine JO.reg ttOk 1 [] [] [(17, .v (.bool y11))] _ rfl ⟨⟨rfl, trivial⟩, rfl⟩ ?_
        refine JO.done rfl ?_
        refine JS.cond rfl (fun ht71 => ?_) (fun ht71 => ?_)
        · have h := condT h ht71
          refine JS.region ?_
          refine JO.reg ttOk 4 [(W (((at' x0 0).toNat : Int) - 192))] [] [(3, .v (.int .i64 2)), (4, .v (.int .i64 (W (((at' x0 0).toNat : Int) - 192))))] _ rfl ⟨⟨trivial, rfl⟩, ⟨rfl, rfl, trivial⟩, rfl⟩ ?_
          refine JO.done rfl ?_
          refine JS.endB ?_
          exact JS.endJ (2, (W (((at' x0 0).toNat : Int) - 192))) h ⟨rfl, rfl, rfl, trivial⟩ trivial [0] rfl [] rfl
        · have h := condF h ht71
          refine JS.seq ?_
          refine JS.region ?_
          refine JO.reg ttOk 1 [] [] [(23, .v (.int .i64 ((at' x0 0).toNat : Int)))] _ rfl ⟨⟨rfl, trivial⟩, rfl⟩ ?_
          obtain ⟨y13, hy14, h⟩ := bindO_some h
          refine JO.call rfl rfl rfl rfl (ok_i_in ((at' x0 0).toNat : Int) 224 239 _ hy14) rfl [] rfl rfl ?_
          intro _ _
          refine JO.reg ttOk 1 [] [] [(22, .v (.bool y13))] _ rfl ⟨⟨rfl, trivial⟩, rfl⟩ ?_
          refine JO.done rfl ?_
          refine JS.cond rfl (fun ht70 => ?_) (fun ht70 => ?_)
          · have h := condT h ht70
            refine JS.region ?_
            refine JO.reg ttOk 4 [(W (((at' x0 0).toNat : Int) - 224))] [] [(3, .v (.int .i64 3)), (4, .v (.int .i64 (W (((at' x0 0).toNat : Int) - 224))))] _ rfl ⟨⟨trivial, rfl⟩, ⟨rfl, rfl, trivial⟩, rfl⟩ ?_
            refine JO.done rfl ?_
            refine JS.endB ?_
            exact JS.endJ (3, (W (((at' x0 0).toNat : Int) - 224))) h ⟨rfl, rfl, rfl, trivial⟩ trivial [0] rfl [] rfl
          · have h := condF h ht70
            refine JS.seq ?_
            refine JS.region ?_
            refine JO.reg ttOk 1 [] [] [(28, .v (.int .i64 ((at' x0 0).toNat : Int)))] _ rfl ⟨⟨rfl, trivial⟩, rfl⟩ ?_
            obtain ⟨y15, hy16, h⟩ := bindO_some h
            refine JO.call rfl rfl rfl rfl (ok_i_in ((at' x0 0).toNat : Int) 240 247 _ hy16) rfl [] rfl rfl ?_
            intro _ _
            refine JO.reg ttOk 1 [] [] [(27, .v (.bool y15))] _ rfl ⟨⟨rfl, trivial⟩, rfl⟩ ?_
            refine JO.done rfl ?_
            refine JS.cond rfl (fun ht69 => ?_) (fun ht69 => ?_)
            · have h := condT h ht69
              refine JS.region ?_
              refine JO.reg ttOk 4 [(W (((at' x0 0).toNat : Int) - 240))] [] [(3, .v (.int .i64 4)), (4, .v (.int .i64 (W (((at' x0 0).toNat : Int) - 240))))] _ rfl ⟨⟨trivial, rfl⟩, ⟨rfl, rfl, trivial⟩, rfl⟩ ?_
              refine JO.done rfl ?_
              refine JS.endB ?_
              exact JS.endJ (4, (W (((at' x0 0).toNat : Int) - 240))) h ⟨rfl, rfl, rfl, trivial⟩ trivial [0] rfl [] rfl
            · have h := condF h ht69
              refine JS.skip ?_
              refine JS.endB ?_
              exact JS.endJ (0, ((at' x0 0).toNat : Int)) h ⟨rfl, rfl, rfl, trivial⟩ trivial [0] rfl [] rfl
      · rintro ⟨x20, x21⟩ h
        subst hj80
        refine JS.seq ?_
        refine JS.seq ?_
        refine JS.region ?_
        refine JO.reg ttOk 4 [] [] [(35, .v (.bool (decide (x20 ≤ (x0.length : Int)))))] _ rfl ⟨⟨rfl, trivial⟩, rfl⟩ ?_
        refine JO.done rfl ?_
        refine JS.cond rfl (fun ht79 => ?_) (fun ht79 => ?_)
        · have h := condT h ht79
          refine JS.seq ?_
          refine JS.region ?_
          refine JO.reg ttOk 1 [] [] [(2, .v (.bool false))] _ rfl ⟨⟨rfl, trivial⟩, rfl⟩ ?_
          refine JO.done rfl ?_
          cases h
          exact JS.ret ttOk () trivial rfl rfl [] rfl
        · have h := condF h ht79
          refine JS.skip ?_
          refine JS.seq ?_
          refine JS.region ?_
          refine JO.reg ttOk 4 [] [] [(5, .v (.int .i64 x21)), (6, .v (.int .i64 x21))] _ rfl ⟨⟨rfl, rfl, trivial⟩, rfl⟩ ?_
          refine JO.done rfl ?_
          refine JS.seq ?_
          refine JS.seq ?_
          refine JS.region ?_
          refine JO.reg ttOk 1 [] [] [(7, .v (.int .i64 1))] _ rfl ⟨⟨rfl, trivial⟩, rfl⟩ ?_
          refine JO.done rfl ?_
          obtain ⟨j54, hj78, h⟩ := joinO_some h
          refine JS.blockJ (ι := Int × Int) ⟨fun z => j54 (z.1, z.2) = some r, fun z => [(3, .v (.int .i64 x20)), (5, .v (.int .i64 z.1)), (6, .v (.int .i64 z.2))], fun z => .nil, fun z => [], fun z => [], fun z => 0⟩ ?_ ?_
          · refine JS.loop (ι := Nat × Int × Int × Int) ⟨fun z => fixF (M_i_RuneBegin_L1 x0 x20 j54) z.1 (z.2.1, z.2.2.1, z.2.2.2) = some r, fun z => [(0, .v (.slice a2 x0.length c3)), (3, .v (.int .i64 x20)), (5, .v (.int .i64 z.2.1)), (6, .v (.int .i64 z.2.2.1)), (7, .v (.int .i64 z.2.2.2))], fun z => .nil, fun z => [⟨.byte, ⟨a2, x0.length, c3⟩, x0⟩], fun z => [], fun z => z.1⟩ (FUEL, x21, x21, 1) h ⟨rfl, rfl, rfl, rfl, rfl, trivial⟩ trivial [0] rfl [] rfl ?_
            rintro ⟨n46, x26, x27, x28⟩ h
            obtain ⟨n46, rfl, h⟩ := fixF_some h
            rw [M_i_RuneBegin_L1] at h
            refine JS.seq ?_
            refine JS.seq ?_
            refine JS.region ?_
            refine JO.reg ttOk 3 [] [] [(40, .v (.bool (decide (x28 < x20))))] _ rfl ⟨⟨rfl, trivial⟩, rfl⟩ ?_
            refine JO.done rfl ?_
            refine JS.cond rfl (fun ht76 => ?_) (fun ht76 => ?_)
            · have h := condT h ht76
              refine JS.skip ?_
              refine JS.seq ?_
              obtain ⟨j39, hj75, h⟩ := joinO_some h
              refine JS.blockJ (ι := Int × Int) ⟨fun z => j39 (z.1, z.2) = some r, fun z => [(0, .v (.slice a2 x0.length c3)), (3, .v (.int .i64 x20)), (5, .v (.int .i64 z.1)), (6, .v (.int .i64 z.2)), (7, .v (.int .i64 x28))], fun z => .nil, fun z => [⟨.byte, ⟨a2, x0.length, c3⟩, x0⟩], fun z => [], fun z => 0⟩ ?_ ?_
              · refine JS.seq ?_
                refine JS.region ?_
                refine JO.reg ttOk 4 [] [] [(46, .v (.bool (decide (x28 < (x0.length : Int)))))] _ rfl ⟨⟨rfl, trivial⟩, rfl⟩ ?_
                refine JO.done rfl ?_
                refine JS.cond rfl (fun ht74 => ?_) (fun ht74 => ?_)
                · have h := condT h ht74
                  refine JS.seq ?_
                  refine JS.seq ?_
                  refine JS.region ?_
                  refine JO.know 0 rfl fun hs72 => ?_
                  obtain ⟨g30, h⟩ := guardO_some h
                  refine JO.reg ttOk 3 [] [] [(49, .ep ⟨a2, x0.length, c3⟩ (Int.toNat x28 * 1))] _ rfl ⟨hs72.ix g30, ⟨rfl, trivial⟩, rfl⟩ ?_
                  refine JO.load ttOk rfl rfl rfl rfl rfl rfl rfl 0 rfl rfl (Int.toNat x28) 0 (at' x0 x28) ⟨at_some g30, rfl⟩ rfl rfl ?_
                  refine JO.reg ttOk 1 [((at' x0 x28).toNat : Int)] [] [(51, .v (.int .i64 ((at' x0 x28).toNat : Int)))] _ rfl ⟨⟨trivial, W_byte _⟩, ⟨rfl, trivial⟩, rfl⟩ ?_
                  obtain ⟨y31, hy32, h⟩ := bindO_some h
                  refine JO.call rfl rfl rfl rfl (ok_i_in ((at' x0 x28).toNat : Int) 128 191 _ hy32) rfl [] rfl rfl ?_
                  intro _ _
                  refine JO.reg ttOk 1 [] [] [(53, .v (.bool (!y31)))] _ rfl ⟨⟨rfl, trivial⟩, rfl⟩ ?_
                  refine JO.done rfl ?_
                  refine JS.cond rfl (fun ht73 => ?_) (fun ht73 => ?_)
                  · have h := condT h ht73
                    refine JS.seq ?_
                    refine JS.region ?_
                    refine JO.reg ttOk 1 [] [] [(2, .v (.bool false))] _ rfl ⟨⟨rfl, trivial⟩, rfl⟩ ?_
                    refine JO.done rfl ?_
                    cases h
                    exact JS.ret ttOk () trivial rfl rfl [] rfl
                  · have h := condF h ht73
                    refine JS.skip ?_
                    obtain ⟨g33, h⟩ := guardO_some h
                    obtain ⟨g34, h⟩ := guardO_some h
                    refine JS.regionQ rfl (by kernel_rfl) ?_
                    refine JQ.reg ttOk 5 [(W (x26 * 64))] [(55, .v (.int .i64 (W (x26 * 64)))), (58, .ep ⟨a2, x0.length, c3⟩ (Int.toNat x28 * 1))] rfl ⟨⟨trivial, rfl⟩, hs72.ix g33, ⟨rfl, rfl, trivial⟩⟩ ?_
                    refine JQ.load ttOk rfl rfl rfl rfl rfl rfl rfl 0 rfl rfl (Int.toNat x28) 0 (at' x0 x28) ⟨at_some g33, rfl⟩ rfl rfl ?_
                    refine JQ.reg ttOk 8 [((at' x0 x28).toNat : Int), (W ((W (x26 * 64)) + ((at' x0 x28).toNat : Int))), (W ((W ((W (x26 * 64)) + ((at' x0 x28).toNat : Int))) - 128)), (W (x27 * 64))] [(62, .v (.int .i64 (W ((W ((W (x26 * 64)) + ((at' x0 x28).toNat : Int))) - 128)))), (64, .v (.int .i64 (W (x27 * 64)))), (67, .ep ⟨a2, x0.length, c3⟩ (Int.toNat x28 * 1))] rfl ⟨⟨trivial, W_byte _⟩, ⟨trivial, rfl⟩, ⟨trivial, rfl⟩, ⟨trivial, rfl⟩, hs72.ix g34, ⟨rfl, rfl, rfl, trivial⟩⟩ ?_
                    refine JQ.load ttOk rfl rfl rfl rfl rfl rfl rfl 0 rfl rfl (Int.toNat x28) 0 (at' x0 x28) ⟨at_some g34, rfl⟩ rfl rfl ?_
                    refine JQ.reg ttOk 5 [((at' x0 x28).toNat : Int), (W ((W (x27 * 64)) + ((at' x0 x28).toNat : Int))), (W ((W ((W (x27 * 64)) + ((at' x0 x28).toNat : Int))) - 128))] [(5, .v (.int .i64 (W ((W ((W (x26 * 64)) + ((at' x0 x28).toNat : Int))) - 128)))), (6, .v (.int .i64 (W ((W ((W (x27 * 64)) + ((at' x0 x28).toNat : Int))) - 128))))] rfl ⟨⟨trivial, W_byte _⟩, ⟨trivial, rfl⟩, ⟨trivial, rfl⟩, ⟨rfl, rfl, trivial⟩⟩ ?_
                    refine JQ.done rfl ?_
                    refine JS.endB ?_
                    exact JS.endJ ((W ((W ((W (x26 * 64)) + ((at' x0 x28).toNat : Int))) - 128)), (W ((W ((W (x27 * 64)) + ((at' x0 x28).toNat : Int))) - 128))) h ⟨rfl, rfl, rfl, rfl, rfl, trivial⟩ trivial [0] rfl [] rfl
                · have h := condF h ht74
                  refine JS.region ?_
                  refine JO.reg ttOk 7 [(W (x26 * 64)), (W (x27 * 64)), (W ((W (x27 * 64)) + 63))] [] [(5, .v (.int .i64 (W (x26 * 64)))), (6, .v (.int .i64 (W ((W (x27 * 64)) + 63))))] _ rfl ⟨⟨trivial, rfl⟩, ⟨trivial, rfl⟩, ⟨trivial, rfl⟩, ⟨rfl, rfl, trivial⟩, rfl⟩ ?_
                  refine JO.done rfl ?_
                  refine JS.endB ?_
                  exact JS.endJ ((W (x26 * 64)), (W ((W (x27 * 64)) + 63))) h ⟨rfl, rfl, rfl, rfl, rfl, trivial⟩ trivial [0] rfl [] rfl
              · rintro ⟨x37, x38⟩ h
                subst hj75
                refine JS.region ?_
                refine JO.reg ttOk 3 [(W (x28 + 1))] [] [(7, .v (.int .i64 (W (x28 + 1))))] _ rfl ⟨⟨trivial, rfl⟩, ⟨rfl, trivial⟩, rfl⟩ ?_
                refine JO.done rfl ?_
                exact JS.endL (n46, x37, x38, (W (x28 + 1))) h (Nat.lt_succ_self _) ⟨rfl, rfl, rfl, rfl, rfl, trivial⟩ trivial [0] rfl [] rfl
            · have h := condF h ht76
              refine JS.exit rfl ?_
              exact JS.endJ (x26, x27) h ⟨rfl, rfl, rfl, trivial⟩ trivial [] rfl [] rfl
          · rintro ⟨x52, x53⟩ h
            subst hj78
            refine JS.seq ?_
            refine JS.region ?_
            refine JO.ofK rfl (JK.buildSlice ttOk rfl rfl rfl rfl rfl rfl rfl rfl rfl rfl rfl [] rfl (.int .i64) [0, 0, 128, 2048, 65536] ⟨rfl, rfl⟩ rfl rfl fun a60 => JO.toK ?_)
            refine JO.know 0 rfl fun hs77 => ?_
            obtain ⟨g62, h⟩ := guardO_some h
            refine JO.reg ttOk 2 [] [] [(79, .ep ⟨a60, ([0, 0, 128, 2048, 65536] : List Int).length, ([0, 0, 128, 2048, 65536] : List Int).length⟩ (Int.toNat x20 * 1))] _ rfl ⟨hs77.ix g62, ⟨rfl, trivial⟩, rfl⟩ ?_
            refine JO.load ttOk rfl rfl rfl rfl rfl rfl rfl 0 rfl rfl (Int.toNat x20) 0 (at' ([0, 0, 128, 2048, 65536] : List Int) x20) ⟨at_some g62, rfl⟩ rfl rfl ?_
            refine JO.reg ttOk 1 [] [] [(8, .v (.int .i64 (at' ([0, 0, 128, 2048, 65536] : List Int) x20)))] _ rfl ⟨⟨rfl, trivial⟩, rfl⟩ ?_
            refine JO.done rfl ?_
            refine JS.seq ?_
            refine JS.region ?_
            refine JO.reg ttOk 7 [] [] [(5, .v (.int .i64 (max x52 (at' ([0, 0, 128, 2048, 65536] : List Int) x20)))), (6, .v (.int .i64 (min x53 1114111)))] _ rfl ⟨⟨rfl, rfl, trivial⟩, rfl⟩ ?_
            refine JO.done rfl ?_
            refine JS.seq ?_
            refine JS.region ?_
            refine JO.reg ttOk 13 [] [] [(2, .v (.bool (bif (decide ((max x52 (at' ([0, 0, 128, 2048, 65536] : List Int) x20)) ≤ (min x53 1114111))) then (!(bif (decide (55296 ≤ (max x52 (at' ([0, 0, 128, 2048, 65536] : List Int) x20)))) then (decide ((min x53 1114111) ≤ 57343)) else false)) else false)))] _ rfl ⟨⟨rfl, trivial⟩, rfl⟩ ?_
            refine JO.done rfl ?_
            cases h
            exact JS.ret ttOk () trivial rfl rfl [] rfl

def M_i_DecOk_L1 (x0 : Int × List UInt8) (j28 : Unit → Option Bool) (k23 : Int → Option Bool) : Int → Option Bool := fun x9 =>
  (bif (decide (x9 < (x0.2.length : Int))) then
  (guardO (0 ≤ x9 ∧ x9 < (x0.2.length : Int)) <|
  (bindO (M_i_isDigit ((at' x0.2 x9).toNat : Int)) fun (y16 : Bool) =>
  (bif (bif (!y16) then (!(decide (((at' x0.2 x9).toNat : Int) = (59 : Int)))) else false) then
  some false
  else
  k23 (W (x9 + 1)))))
  else
  j28 ())

def M_i_DecOk (x0 : Int × List UInt8) : Option Bool :=
  (joinO (fun (_ : Unit) =>
  some false) fun j43 =>
  (bif (decide (x0.1 = 0)) then
  (callO ((decide ((x0.2.length : Int) = 0)) = false) (M_i_RuneBegin x0.2) false fun (y6 : Bool) =>
  some (bif (decide ((x0.2.length : Int) = 0)) then true else y6))
  else
  (bif (decide (x0.1 = 2)) then
  (joinO (fun (_ : Unit) =>
  some (decide ((x0.2.length : Int) ≤ 8))) fun j28 =>
  (fixF (M_i_DecOk_L1 x0 j28) FUEL 0))
  else
  (joinO (fun (x35 : Bool) =>
  (bif x35 then
  some (decide ((x0.2.length : Int) = 0))
  else
  j43 ())) fun j36 =>
  (bif (decide (x0.1 = 1)) then
  j36 (decide (x0.1 = 1))
  else
  (bif (decide (x0.1 = 3)) then
  j36 (decide (x0.1 = 3))
  else
  j36 (decide (x0.1 = 4))))))))

theorem ok_i_DecOk (x0 : Int × List UInt8) (a2 : Option Addr) (c3 : Nat) (l4 : Nat) (hl5 : x0.2.length = l4) (r : Bool) (h : M_i_DecOk x0 = some r) :
    FC Try.prog 20 [.agg #[.int .i64 x0.1, .slice a2 l4 c3]] [⟨.byte, ⟨a2, l4, c3⟩, x0.2⟩] (fun _ : Unit => True) (fun _ => .bool r) (fun _ => []) :=
  by
    subst hl5
    refine FC.of (T := TTx) Try.call20 Try.func20 rfl rfl fun w0 => ?_
    unfold M_i_DecOk at h
    refine JS.seq ?_
    refine JS.region ?_
    refine JO.regB ttOk 2 [] [2] [(1, .bp 2 0)] (.new 2 26 [.int .i64 x0.1, .slice a2 x0.2.length c3] .nil) rfl ⟨⟨rfl, trivial⟩, ⟨rfl, rfl, rfl, rfl, trivial⟩⟩ ?_
    refine JO.done rfl ?_
    refine JS.seq ?_
    refine JS.seq ?_
    refine JS.region ?_
    refine JO.reg ttOk 2 [] [] [(6, .v (.int .i64 x0.1))] _ rfl ⟨⟨rfl, trivial⟩, rfl⟩ ?_
    refine JO.done rfl ?_
    obtain ⟨j43, hj67, h⟩ := joinO_some h
    refine JS.blockJ (ι := Unit) ⟨fun _ => j43 () = some r, fun _ => [], fun _ => .nil, fun _ => [], fun _ => [], fun _ => 0⟩ ?_ ?_
    · refine JS.seq ?_
      refine JS.region ?_
      refine JO.reg ttOk 2 [] [] [(7, .v (.bool (decide (x0.1 = 0))))] _ rfl ⟨⟨rfl, trivial⟩, rfl⟩ ?_
      refine JO.done rfl ?_
      refine JS.cond rfl (fun ht66 => ?_) (fun ht66 => ?_)
      · have h := condT h ht66
        refine JS.seq ?_
        refine JS.region ?_
        refine JO.reg ttOk 7 [] [] [(13, .v (.bool (decide ((x0.2.length : Int) = 0)))), (15, .cd [(13, false)] (.v (.slice a2 x0.2.length c3)))] _ rfl ⟨⟨rfl, rfl, trivial⟩, rfl⟩ ?_
        obtain ⟨y6, hy7, -, h⟩ := callO_some h
        refine JO.callg rfl rfl rfl rfl (fun q56 => ok_i_RuneBegin x0.2 a2 c3 x0.2.length rfl _ (hy7 q56)) rfl [0] rfl rfl ?_
        refine JO.reg ttOk 2 [] [] [(2, .v (.bool (bif (decide ((x0.2.length : Int) = 0)) then true else y6)))] _ rfl ⟨⟨rfl, trivial⟩, rfl⟩ ?_
        refine JO.done rfl ?_
        cases h
        exact JS.ret ttOk () trivial rfl rfl [] rfl
      · have h := condF h ht66
        refine JS.seq ?_
        refine JS.region ?_
        refine JO.reg ttOk 2 [] [] [(18, .v (.bool (decide (x0.1 = 2))))] _ rfl ⟨⟨rfl, trivial⟩, rfl⟩ ?_
        refine JO.done rfl ?_
        refine JS.cond rfl (fun ht65 => ?_) (fun ht65 => ?_)
        · have h := condT h ht65
          refine JS.seq ?_
          refine JS.seq ?_
          refine JS.region ?_
          refine JO.reg ttOk 4 [] [] [(21, .v (.slice a2 x0.2.length c3)), (22, .v (.int .i64 (x0.2.length : Int))), (23, .v (.int .i64 0))] _ rfl ⟨⟨rfl, rfl, rfl, trivial⟩, rfl⟩ ?_
          refine JO.done rfl ?_
          obtain ⟨j28, hj60, h⟩ := joinO_some h
          refine JS.blockJ (ι := Unit) ⟨fun _ => j28 () = some r, fun _ => [(1, .bp 2 0)], fun _ => (.new 2 26 [.int .i64 x0.1, .slice a2 x0.2.length c3] .nil), fun _ => [⟨.byte, ⟨a2, x0.2.length, c3⟩, x0.2⟩], fun _ => [], fun _ => 0⟩ ?_ ?_
          · refine JS.loop (ι := Nat × Int) ⟨fun z => fixF (M_i_DecOk_L1 x0 j28) z.1 z.2 = some r, fun z => [(1, .bp 2 0), (21, .v (.slice a2 x0.2.length c3)), (22, .v (.int .i64 (x0.2.length : Int))), (23, .v (.int .i64 z.2))], fun z => (.new 2 26 [.int .i64 x0.1, .slice a2 x0.2.length c3] .nil), fun z => [⟨.byte, ⟨a2, x0.2.length, c3⟩, x0.2⟩], fun z => [], fun z => z.1⟩ (FUEL, 0) h ⟨rfl, rfl, rfl, rfl, trivial⟩ ⟨rfl, rfl, rfl, rfl, trivial⟩ [0] rfl [] rfl ?_
            rintro ⟨n24, x9⟩ h
            obtain ⟨n24, rfl, h⟩ := fixF_some h
            rw [M_i_DecOk_L1] at h
            refine JS.seq ?_
            refine JS.region ?_
            refine JO.reg ttOk 1 [] [] [(24, .v (.bool (decide (x9 < (x0.2.length : Int)))))] _ rfl ⟨⟨rfl, trivial⟩, rfl⟩ ?_
            refine JO.done rfl ?_
            refine JS.seq ?_
            refine JS.cond rfl (fun ht59 => ?_) (fun ht59 => ?_)
            · have h := condT h ht59
              refine JS.skip ?_
              refine JS.seq ?_
              refine JS.block ?_
              refine JS.seq ?_
              refine JS.region ?_
              refine JO.know 0 rfl fun hs57 => ?_
              obtain ⟨g15, h⟩ := guardO_some h
              refine JO.reg ttOk 1 [] [] [(25, .ep ⟨a2, x0.2.length, c3⟩ (Int.toNat x9 * 1))] _ rfl ⟨hs57.ix g15, ⟨rfl, trivial⟩, rfl⟩ ?_
              refine JO.load ttOk rfl rfl rfl rfl rfl rfl rfl 0 rfl rfl (Int.toNat x9) 0 (at' x0.2 x9) ⟨at_some g15, rfl⟩ rfl rfl ?_
              refine JO.reg ttOk 1 [] [] [(4, .v (.int .u8 ((at' x0.2 x9).toNat : Int)))] _ rfl ⟨⟨rfl, trivial⟩, rfl⟩ ?_
              refine JO.done rfl ?_
              refine JS.seq ?_
              refine JS.region ?_
              refine JO.reg ttOk 2 [((at' x0.2 x9).toNat : Int)] [] [(28, .v (.int .i64 ((at' x0.2 x9).toNat : Int)))] _ rfl ⟨⟨trivial, W_byte _⟩, ⟨rfl, trivial⟩, rfl⟩ ?_
              obtain ⟨y16, hy17, h⟩ := bindO_some h
              refine JO.call rfl rfl rfl rfl (ok_i_isDigit ((at' x0.2 x9).toNat : Int) _ hy17) rfl [] rfl rfl ?_
              intro _ _
              refine JO.reg ttOk 5 [] [] [(34, .v (.bool (bif (!y16) then (!(decide (((at' x0.2 x9).toNat : Int) = (59 : Int)))) else false)))] _ rfl ⟨⟨rfl, trivial⟩, rfl⟩ ?_
              refine JO.done rfl ?_
              refine JS.cond rfl (fun ht58 => ?_) (fun ht58 => ?_)
              · have h := condT h ht58
                refine JS.seq ?_
                refine JS.region ?_
                refine JO.reg ttOk 1 [] [] [(2, .v (.bool false))] _ rfl ⟨⟨rfl, trivial⟩, rfl⟩ ?_
                refine JO.done rfl ?_
                cases h
                exact JS.ret ttOk () trivial rfl rfl [] rfl
              · have h := condF h ht58
                refine JS.skip ?_
                refine JS.endB ?_
                refine JS.region ?_
                refine JO.reg ttOk 2 [(W (x9 + 1))] [] [(23, .v (.int .i64 (W (x9 + 1))))] _ rfl ⟨⟨trivial, rfl⟩, ⟨rfl, trivial⟩, rfl⟩ ?_
                refine JO.done rfl ?_
                exact JS.endL (n24, (W (x9 + 1))) h (Nat.lt_succ_self _) ⟨rfl, rfl, rfl, rfl, trivial⟩ ⟨rfl, rfl, rfl, rfl, trivial⟩ [0] rfl [] rfl
            · have h := condF h ht59
              refine JS.exit rfl ?_
              exact JS.endJ () h ⟨rfl, trivial⟩ ⟨rfl, rfl, rfl, rfl, trivial⟩ [0] rfl [] rfl
          · rintro _ h
            subst hj60
            refine JS.seq ?_
            refine JS.region ?_
            refine JO.reg ttOk 5 [] [] [(2, .v (.bool (decide ((x0.2.length : Int) ≤ 8))))] _ rfl ⟨⟨rfl, trivial⟩, rfl⟩ ?_
            refine JO.done rfl ?_
            cases h
            exact JS.ret ttOk () trivial rfl rfl [] rfl
        · have h := condF h ht65
          obtain ⟨j36, hj64, h⟩ := joinO_some h
          refine JS.seqJ (ι := Bool) ⟨fun z => j36 z = some r, fun z => [(1, .bp 2 0), (40, .v (.bool z))], fun z => (.new 2 26 [.int .i64 x0.1, .slice a2 x0.2.length c3] .nil), fun z => [⟨.byte, ⟨a2, x0.2.length, c3⟩, x0.2⟩], fun z => [], fun z => 0⟩ ?_ ?_
          · refine JS.seq ?_
            refine JS.region ?_
            refine JO.reg ttOk 2 [] [] [(40, .v (.bool (decide (x0.1 = 1))))] _ rfl ⟨⟨rfl, trivial⟩, rfl⟩ ?_
            refine JO.done rfl ?_
            refine JS.cond rfl (fun ht62 => ?_) (fun ht62 => ?_)
            · have h := condT h ht62
              refine JS.skip ?_
              exact JS.endJ (decide (x0.1 = 1)) h ⟨rfl, rfl, trivial⟩ ⟨rfl, rfl, rfl, rfl, trivial⟩ [0] rfl [] rfl
            · have h := condF h ht62
              refine JS.seq ?_
              refine JS.region ?_
              refine JO.reg ttOk 2 [] [] [(40, .v (.bool (decide (x0.1 = 3))))] _ rfl ⟨⟨rfl, trivial⟩, rfl⟩ ?_
              refine JO.done rfl ?_
              refine JS.cond rfl (fun ht61 => ?_) (fun ht61 => ?_)
              · have h := condT h ht61
                refine JS.skip ?_
                exact JS.endJ (decide (x0.1 = 3)) h ⟨rfl, rfl, trivial⟩ ⟨rfl, rfl, rfl, rfl, trivial⟩ [0] rfl [] rfl
              · have h := condF h ht61
                refine JS.region ?_
                refine JO.reg ttOk 2 [] [] [(40, .v (.bool (decide (x0.1 = 4))))] _ rfl ⟨⟨rfl, trivial⟩, rfl⟩ ?_
                refine JO.done rfl ?_
                exact JS.endJ (decide (x0.1 = 4)) h ⟨rfl, rfl, trivial⟩ ⟨rfl, rfl, rfl, rfl, trivial⟩ [0] rfl [] rfl
          · rintro x35 h
            subst hj64
            refine JS.cond rfl (fun ht63 => ?_) (fun ht63 => ?_)
            · have h := condT h ht63
              refine JS.seq ?_
              refine JS.region ?_
              refine JO.reg ttOk 5 [] [] [(2, .v (.bool (decide ((x0.2.length : Int) = 0))))] _ rfl ⟨⟨rfl, trivial⟩, rfl⟩ ?_
              refine JO.done rfl ?_
              cases h
              exact JS.ret ttOk () trivial rfl rfl [] rfl
            · have h := condF h ht63
              refine JS.skip ?_
              refine JS.endB ?_
              exact JS.endJ () h trivial trivial [] rfl [] rfl
    · rintro _ h
      subst hj67
      refine JS.seq ?_
      refine JS.region ?_
      refine JO.reg ttOk 1 [] [] [(2, .v (.bool false))] _ rfl ⟨⟨rfl, trivial⟩, rfl⟩ ?_
      refine JO.done rfl ?_
      cases h
      exact JS.ret ttOk () trivial rfl rfl [] rfl

def M_i_bad : Option (Int × Int) :=
  some (16, 0)

theorem ok_i_bad (r : Int × Int) (h : M_i_bad = some r) :
    FC Try.prog 33 [] [] (fun _ : Unit => True) (fun _ => .agg #[.int .i64 r.1, .int .i64 r.2]) (fun _ => []) :=
  by
    refine FC.of (T := TTx) Try.call33 Try.func33 rfl rfl fun w0 => ?_
    unfold M_i_bad at h
    refine JS.seq ?_
    refine JS.region ?_
    refine JO.regB ttOk 1 [] [1] [(0, .bp 1 0)] (.new 1 40 [.int .i64 0, .int .i64 0] .nil) rfl ⟨⟨rfl, trivial⟩, ⟨rfl, rfl, rfl, rfl, trivial⟩⟩ ?_
    refine JO.done rfl ?_
    refine JS.seq ?_
    refine JS.region ?_
    refine JO.regB ttOk 2 [] [] [] (.new 1 40 [.int .i64 16, .int .i64 0] .nil) rfl ⟨trivial, ⟨rfl, rfl, rfl, rfl, trivial⟩⟩ ?_
    refine JO.done rfl ?_
    cases h
    exact JS.ret ttOk () trivial rfl rfl [] rfl

def M_i_DecTick (x0 : Int × List UInt8) : Option ((Int × List UInt8) × List (Int × Int)) :=
  (bindO (M_i_DecOk x0) fun (y6 : Bool) =>
  (bif (!y6) then
  some ((0, []), [])
  else
  (bif (decide (x0.1 = 1)) then
  some ((0, []), ([(7, 0)] : List (Int × Int)))
  else
  (bif (bif (decide (x0.1 = 2)) then (decide ((x0.2.length : Int) = 0)) else false) then
  some ((0, []), ([(3, 91)] : List (Int × Int)))
  else
  (bif (decide (x0.1 = 3)) then
  some ((0, []), ([(3, 79)] : List (Int × Int)))
  else
  (bif (decide (0 < (x0.2.length : Int))) then
  (bindO (M_i_bad ) fun (y11 : Int × Int) =>
  some ((0, []), ([y11] : List (Int × Int))))
  else
  some ((0, []), [])))))))

theorem ok_i_DecTick (x0 : Int × List UInt8) (a2 : Option Addr) (c3 : Nat) (l4 : Nat) (hl5 : x0.2.length = l4) (r : (Int × List UInt8) × List (Int × Int)) (h : M_i_DecTick x0 = some r) :
    FC Try.prog 11 [.agg #[.int .i64 x0.1, .slice a2 l4 c3]] [⟨.byte, ⟨a2, l4, c3⟩, x0.2⟩] (fun _ : Option Addr × Nat => True) (fun q => .tuple #[.agg #[.int .i64 r.1.1, .slice none 0 0], .slice q.1 r.2.length q.2]) (fun q => [⟨(.pair (.int .i64) (.int .i64)), ⟨q.1, r.2.length, q.2⟩, r.2⟩]) :=
  by
    subst hl5
    refine FC.of (T := TTx) Try.call11 Try.func11 rfl rfl fun w0 => ?_
    unfold M_i_DecTick at h
    refine JS.seq ?_
    refine JS.region ?_
    refine JO.regB ttOk 3 [] [2, 3] [(1, .bp 2 0), (2, .bp 3 0)] (.new 2 26 [.int .i64 x0.1, .slice a2 x0.2.length c3] (.new 3 26 [.int .i64 0, .slice none 0 0] .nil)) rfl ⟨⟨rfl, rfl, trivial⟩, ⟨rfl, rfl, rfl, rfl, rfl, rfl, rfl, rfl, trivial⟩⟩ ?_
    refine JO.done rfl ?_
    refine JS.seq ?_
    refine JS.seq ?_
    refine JS.region ?_
    refine JO.reg ttOk 1 [] [] [(4, .v (.agg #[.int .i64 x0.1, .slice a2 x0.2.length c3]))] _ rfl ⟨⟨rfl, trivial⟩, rfl⟩ ?_
    obtain ⟨y6, hy7, h⟩ := bindO_some h
    refine JO.call rfl rfl rfl rfl (ok_i_DecOk x0 a2 c3 x0.2.length rfl _ hy7) rfl [0] rfl rfl ?_
    intro _ _
    refine JO.reg ttOk 1 [] [] [(6, .v (.bool (!y6)))] _ rfl ⟨⟨rfl, trivial⟩, rfl⟩ ?_
    refine JO.done rfl ?_
    refine JS.cond rfl (fun ht23 => ?_) (fun ht23 => ?_)
    · have h := condT h ht23
      refine JS.seq ?_
      refine JS.region ?_
      refine JO.regB ttOk 3 [] [] [(3, .v (.slice none 0 0))] (.new 3 26 [.int .i64 0, .slice none 0 0] .nil) rfl ⟨⟨rfl, trivial⟩, ⟨rfl, rfl, rfl, rfl, trivial⟩⟩ ?_
      refine JO.done rfl ?_
      cases h
      refine JS.nilO (.pair (.int .i64) (.int .i64)) Sl.nil rfl rfl ?_
      exact JS.ret ttOk (none, 0) trivial rfl rfl [0] rfl
    · have h := condF h ht23
      refine JS.skip ?_
      refine JS.seq ?_
      refine JS.block ?_
      refine JS.seq ?_
      refine JS.region ?_
      refine JO.reg ttOk 4 [] [] [(8, .v (.bool (decide (x0.1 = 1))))] _ rfl ⟨⟨rfl, trivial⟩, rfl⟩ ?_
      refine JO.done rfl ?_
      refine JS.cond rfl (fun ht22 => ?_) (fun ht22 => ?_)
      · have h := condT h ht22
        refine JS.seq ?_
        refine JS.region ?_
        refine JO.reg ttOk 2 [] [] [(12, .v (.agg #[.int .i64 0, .slice none 0 0])), (13, .v (.agg #[.int .i64 7, .int .i64 0]))] _ rfl ⟨⟨rfl, rfl, trivial⟩, rfl⟩ ?_
        refine JO.ofK rfl (JK.buildSlice ttOk rfl rfl rfl rfl rfl rfl rfl rfl rfl rfl rfl [] rfl (.pair (.int .i64) (.int .i64)) [(7, 0)] ⟨rfl, rfl⟩ rfl rfl fun a8 => JO.toK ?_)
        refine JO.regB ttOk 2 [] [] [(3, .v (.slice a8 ([(7, 0)] : List (Int × Int)).length ([(7, 0)] : List (Int × Int)).length))] (.new 3 26 [.int .i64 0, .slice none 0 0] .nil) rfl ⟨⟨rfl, trivial⟩, ⟨rfl, rfl, rfl, rfl, trivial⟩⟩ ?_
        refine JO.done rfl ?_
        cases h
        exact JS.ret ttOk (a8, ([(7, 0)] : List (Int × Int)).length) trivial rfl rfl [0] rfl
      · have h := condF h ht22
        refine JS.seq ?_
        refine JS.region ?_
        refine JO.reg ttOk 10 [] [] [(15, .v (.bool (bif (decide (x0.1 = 2)) then (decide ((x0.2.length : Int) = 0)) else false)))] _ rfl ⟨⟨rfl, trivial⟩, rfl⟩ ?_
        refine JO.done rfl ?_
        refine JS.cond rfl (fun ht21 => ?_) (fun ht21 => ?_)
        · have h := condT h ht21
          refine JS.seq ?_
          refine JS.region ?_
          refine JO.reg ttOk 2 [] [] [(25, .v (.agg #[.int .i64 0, .slice none 0 0])), (26, .v (.agg #[.int .i64 3, .int .i64 91]))] _ rfl ⟨⟨rfl, rfl, trivial⟩, rfl⟩ ?_
          refine JO.ofK rfl (JK.buildSlice ttOk rfl rfl rfl rfl rfl rfl rfl rfl rfl rfl rfl [] rfl (.pair (.int .i64) (.int .i64)) [(3, 91)] ⟨rfl, rfl⟩ rfl rfl fun a9 => JO.toK ?_)
          refine JO.regB ttOk 2 [] [] [(3, .v (.slice a9 ([(3, 91)] : List (Int × Int)).length ([(3, 91)] : List (Int × Int)).length))] (.new 3 26 [.int .i64 0, .slice none 0 0] .nil) rfl ⟨⟨rfl, trivial⟩, ⟨rfl, rfl, rfl, rfl, trivial⟩⟩ ?_
          refine JO.done rfl ?_
          cases h
          exact JS.ret ttOk (a9, ([(3, 91)] : List (Int × Int)).length) trivial rfl rfl [0] rfl
        · have h := condF h ht21
          refine JS.seq ?_
          refine JS.region ?_
          refine JO.reg ttOk 4 [] [] [(28, .v (.bool (decide (x0.1 = 3))))] _ rfl ⟨⟨rfl, trivial⟩, rfl⟩ ?_
          refine JO.done rfl ?_
          refine JS.cond rfl (fun ht20 => ?_) (fun ht20 => ?_)
          · have h := condT h ht20
            refine JS.seq ?_
            refine JS.region ?_
            refine JO.reg ttOk 2 [] [] [(32, .v (.agg #[.int .i64 0, .slice none 0 0])), (33, .v (.agg #[.int .i64 3, .int .i64 79]))] _ rfl ⟨⟨rfl, rfl, trivial⟩, rfl⟩ ?_
            refine JO.ofK rfl (JK.buildSlice ttOk rfl rfl rfl rfl rfl rfl rfl rfl rfl rfl rfl [] rfl (.pair (.int .i64) (.int .i64)) [(3, 79)] ⟨rfl, rfl⟩ rfl rfl fun a10 => JO.toK ?_)
            refine JO.regB ttOk 2 [] [] [(3, .v (.slice a10 ([(3, 79)] : List (Int × Int)).length ([(3, 79)] : List (Int × Int)).length))] (.new 3 26 [.int .i64 0, .slice none 0 0] .nil) rfl ⟨⟨rfl, trivial⟩, ⟨rfl, rfl, rfl, rfl, trivial⟩⟩ ?_
            refine JO.done rfl ?_
            cases h
            exact JS.ret ttOk (a10, ([(3, 79)] : List (Int × Int)).length) trivial rfl rfl [0] rfl
          · have h := condF h ht20
            refine JS.seq ?_
            refine JS.region ?_
            refine JO.reg ttOk 5 [] [] [(35, .v (.bool (decide (0 < (x0.2.length : Int)))))] _ rfl ⟨⟨rfl, trivial⟩, rfl⟩ ?_
            refine JO.done rfl ?_
            refine JS.cond rfl (fun ht19 => ?_) (fun ht19 => ?_)
            · have h := condT h ht19
              refine JS.seq ?_
              refine JS.region ?_
              refine JO.reg ttOk 1 [] [] [(40, .v (.agg #[.int .i64 0, .slice none 0 0]))] _ rfl ⟨⟨rfl, trivial⟩, rfl⟩ ?_
              obtain ⟨y11, hy12, h⟩ := bindO_some h
              refine JO.call rfl rfl rfl rfl (ok_i_bad  _ hy12) rfl [] rfl rfl ?_
              intro _ _
              refine JO.ofK rfl (JK.buildSlice ttOk rfl rfl rfl rfl rfl rfl rfl rfl rfl rfl rfl [] rfl (.pair (.int .i64) (.int .i64)) [y11] ⟨rfl, rfl⟩ rfl rfl fun a13 => JO.toK ?_)
              refine JO.regB ttOk 2 [] [] [(3, .v (.slice a13 ([y11] : List (Int × Int)).length ([y11] : List (Int × Int)).length))] (.new 3 26 [.int .i64 0, .slice none 0 0] .nil) rfl ⟨⟨rfl, trivial⟩, ⟨rfl, rfl, rfl, rfl, trivial⟩⟩ ?_
              refine JO.done rfl ?_
              cases h
              exact JS.ret ttOk (a13, ([y11] : List (Int × Int)).length) trivial rfl rfl [0] rfl
            · have h := condF h ht19
              refine JS.skip ?_
              refine JS.endB ?_
              refine JS.seq ?_
              refine JS.region ?_
              refine JO.regB ttOk 3 [] [] [(3, .v (.slice none 0 0))] (.new 3 26 [.int .i64 0, .slice none 0 0] .nil) rfl ⟨⟨rfl, trivial⟩, ⟨rfl, rfl, rfl, rfl, trivial⟩⟩ ?_
              refine JO.done rfl ?_
              cases h
              refine JS.nilO (.pair (.int .i64) (.int .i64)) Sl.nil rfl rfl ?_
              exact JS.ret ttOk (none, 0) trivial rfl rfl [0] rfl

def M_l_eqByteS_L1 (x0 : List UInt8) (x1 : List UInt8) (j28 : Unit → Option Bool) (k20 : Int → Option Bool) : Int → Option Bool := fun x11 =>
  (bif (decide (x11 < (x0.length : Int))) then
  (guardO (0 ≤ x11 ∧ x11 < (x0.length : Int)) <|
  (guardO (0 ≤ x11 ∧ x11 < (x1.length : Int)) <|
  (bif (!(decide (((at' x0 x11).toNat : Int) = ((at' x1 x11).toNat : Int)))) then
  some false
  else
  k20 (W (x11 + 1)))))
  else
  j28 ())

def M_l_eqByteS (x0 : List UInt8) (x1 : List UInt8) : Option Bool :=
  (bif (!(decide ((x0.length : Int) = (x1.length : Int)))) then
  some false
  else
  (joinO (fun (_ : Unit) =>
  some true) fun j28 =>
  (fixF (M_l_eqByteS_L1 x0 x1 j28) FUEL 0)))

theorem ok_l_eqByteS (x0 : List UInt8) (x1 : List UInt8) (a3 : Option Addr) (c4 : Nat) (l5 : Nat) (hl6 : x0.length = l5) (a7 : Option Addr) (c8 : Nat) (l9 : Nat) (hl10 : x1.length = l9) (r : Bool) (h : M_l_eqByteS x0 x1 = some r) :
    FC Try.prog 28 [.slice a3 l5 c4, .slice a7 l9 c8] [⟨.byte, ⟨a3, l5, c4⟩, x0⟩, ⟨.byte, ⟨a7, l9, c8⟩, x1⟩] (fun _ : Unit => True) (fun _ => .bool r) (fun _ => []) :=
  by
    subst hl6
    subst hl10
    refine FC.of (T := TTx) Try.call28 Try.func28 rfl rfl fun w0 => ?_
    unfold M_l_eqByteS at h
    refine JS.seq ?_
    refine JS.region ?_
    refine JO.reg ttOk 1 [] [] [] _ rfl ⟨trivial, rfl⟩ ?_
    refine JO.done rfl ?_
    refine JS.seq ?_
    refine JS.seq ?_
    refine JS.region ?_
    refine JO.reg ttOk 5 [] [] [(10, .v (.bool (!(decide ((x0.length : Int) = (x1.length : Int))))))] _ rfl ⟨⟨rfl, trivial⟩, rfl⟩ ?_
    refine JO.done rfl ?_
    refine JS.cond rfl (fun ht44 => ?_) (fun ht44 => ?_)
    · have h := condT h ht44
      refine JS.seq ?_
      refine JS.region ?_
      refine JO.reg ttOk 1 [] [] [(4, .v (.bool false))] _ rfl ⟨⟨rfl, trivial⟩, rfl⟩ ?_
      refine JO.done rfl ?_
      cases h
      exact JS.ret ttOk () trivial rfl rfl [] rfl
    · have h := condF h ht44
      refine JS.skip ?_
      refine JS.seq ?_
      refine JS.seq ?_
      refine JS.region ?_
      refine JO.reg ttOk 1 [] [] [(5, .v (.int .i64 0))] _ rfl ⟨⟨rfl, trivial⟩, rfl⟩ ?_
      refine JO.done rfl ?_
      obtain ⟨j28, hj43, h⟩ := joinO_some h
      refine JS.blockJ (ι := Unit) ⟨fun _ => j28 () = some r, fun _ => [], fun _ => .nil, fun _ => [], fun _ => [], fun _ => 0⟩ ?_ ?_
      · refine JS.loop (ι := Nat × Int) ⟨fun z => fixF (M_l_eqByteS_L1 x0 x1 j28) z.1 z.2 = some r, fun z => [(0, .v (.slice a3 x0.length c4)), (1, .v (.slice a7 x1.length c8)), (5, .v (.int .i64 z.2))], fun z => .nil, fun z => [⟨.byte, ⟨a3, x0.length, c4⟩, x0⟩, ⟨.byte, ⟨a7, x1.length, c8⟩, x1⟩], fun z => [], fun z => z.1⟩ (FUEL, 0) h ⟨rfl, rfl, rfl, trivial⟩ trivial [0, 1] rfl [] rfl ?_
        rintro ⟨n21, x11⟩ h
        obtain ⟨n21, rfl, h⟩ := fixF_some h
        rw [M_l_eqByteS_L1] at h
        refine JS.seq ?_
        refine JS.seq ?_
        refine JS.region ?_
        refine JO.reg ttOk 4 [] [] [(14, .v (.bool (decide (x11 < (x0.length : Int)))))] _ rfl ⟨⟨rfl, trivial⟩, rfl⟩ ?_
        refine JO.done rfl ?_
        refine JS.cond rfl (fun ht42 => ?_) (fun ht42 => ?_)
        · have h := condT h ht42
          refine JS.skip ?_
          refine JS.seq ?_
          refine JS.block ?_
          refine JS.seq ?_
          obtain ⟨g13, h⟩ := guardO_some h
          obtain ⟨g15, h⟩ := guardO_some h
          refine JS.know 0 rfl fun hs39 => ?_
          refine JS.know 1 rfl fun hs40 => ?_
          refine JS.regionQ rfl (by kernel_rfl) ?_
          refine JQ.reg ttOk 3 [] [(19, .ep ⟨a3, x0.length, c4⟩ (Int.toNat x11 * 1))] rfl ⟨hs39.ix g13, ⟨rfl, trivial⟩⟩ ?_
          refine JQ.load ttOk rfl rfl rfl rfl rfl rfl rfl 0 rfl rfl (Int.toNat x11) 0 (at' x0 x11) ⟨at_some g13, rfl⟩ rfl rfl ?_
          refine JQ.reg ttOk 3 [] [(23, .ep ⟨a7, x1.length, c8⟩ (Int.toNat x11 * 1))] rfl ⟨hs40.ix g15, ⟨rfl, trivial⟩⟩ ?_
          refine JQ.load ttOk rfl rfl rfl rfl rfl rfl rfl 1 rfl rfl (Int.toNat x11) 0 (at' x1 x11) ⟨at_some g15, rfl⟩ rfl rfl ?_
          refine JQ.reg ttOk 1 [] [(25, .v (.bool (!(decide (((at' x0 x11).toNat : Int) = ((at' x1 x11).toNat : Int))))))] rfl ⟨rfl, trivial⟩ ?_
          refine JQ.done rfl ?_
          refine JS.cond rfl (fun ht41 => ?_) (fun ht41 => ?_)
          · have h := condT h ht41
            refine JS.seq ?_
            refine JS.region ?_
            refine JO.reg ttOk 1 [] [] [(4, .v (.bool false))] _ rfl ⟨⟨rfl, trivial⟩, rfl⟩ ?_
            refine JO.done rfl ?_
            cases h
            exact JS.ret ttOk () trivial rfl rfl [] rfl
          · have h := condF h ht41
            refine JS.skip ?_
            refine JS.endB ?_
            refine JS.region ?_
            refine JO.reg ttOk 3 [(W (x11 + 1))] [] [(5, .v (.int .i64 (W (x11 + 1))))] _ rfl ⟨⟨trivial, rfl⟩, ⟨rfl, trivial⟩, rfl⟩ ?_
            refine JO.done rfl ?_
            exact JS.endL (n21, (W (x11 + 1))) h (Nat.lt_succ_self _) ⟨rfl, rfl, rfl, trivial⟩ trivial [0, 1] rfl [] rfl
        · have h := condF h ht42
          refine JS.exit rfl ?_
          exact JS.endJ () h trivial trivial [] rfl [] rfl
      · rintro _ h
        subst hj43
        refine JS.seq ?_
        refine JS.region ?_
        refine JO.reg ttOk 1 [] [] [(4, .v (.bool true))] _ rfl ⟨⟨rfl, trivial⟩, rfl⟩ ?_
        refine JO.done rfl ?_
        cases h
        exact JS.ret ttOk () trivial rfl rfl [] rfl

def M_l_eqDec (x0 : Int × List UInt8) (x1 : Int × List UInt8) : Option Bool :=
  (bif (!(decide (x0.1 = x1.1))) then
  some false
  else
  (bindO (M_l_eqByteS x0.2 x1.2) fun (y11 : Bool) =>
  (bif (!y11) then
  some false
  else
  some true)))

theorem ok_l_eqDec (x0 : Int × List UInt8) (x1 : Int × List UInt8) (a3 : Option Addr) (c4 : Nat) (l5 : Nat) (hl6 : x0.2.length = l5) (a7 : Option Addr) (c8 : Nat) (l9 : Nat) (hl10 : x1.2.length = l9) (r : Bool) (h : M_l_eqDec x0 x1 = some r) :
    FC Try.prog 12 [.agg #[.int .i64 x0.1, .slice a3 l5 c4], .agg #[.int .i64 x1.1, .slice a7 l9 c8]] [⟨.byte, ⟨a3, l5, c4⟩, x0.2⟩, ⟨.byte, ⟨a7, l9, c8⟩, x1.2⟩] (fun _ : Unit => True) (fun _ => .bool r) (fun _ => []) :=
  by
    subst hl6
    subst hl10
    refine FC.of (T := TTx) Try.call12 Try.func12 rfl rfl fun w0 => ?_
    unfold M_l_eqDec at h
    refine JS.seq ?_
    refine JS.region ?_
    refine JO.regB ttOk 3 [] [3, 4] [(2, .bp 3 0), (3, .bp 4 0)] (.new 3 26 [.int .i64 x0.1, .slice a3 x0.2.length c4] (.new 4 26 [.int .i64 x1.1, .slice a7 x1.2.length c8] .nil)) rfl ⟨⟨rfl, rfl, trivial⟩, ⟨rfl, rfl, rfl, rfl, rfl, rfl, rfl, rfl, trivial⟩⟩ ?_
    refine JO.done rfl ?_
    refine JS.seq ?_
    refine JS.seq ?_
    refine JS.region ?_
    refine JO.reg ttOk 5 [] [] [(9, .v (.bool (!(decide (x0.1 = x1.1)))))] _ rfl ⟨⟨rfl, trivial⟩, rfl⟩ ?_
    refine JO.done rfl ?_
    refine JS.cond rfl (fun ht16 => ?_) (fun ht16 => ?_)
    · have h := condT h ht16
      refine JS.seq ?_
      refine JS.region ?_
      refine JO.reg ttOk 1 [] [] [(4, .v (.bool false))] _ rfl ⟨⟨rfl, trivial⟩, rfl⟩ ?_
      refine JO.done rfl ?_
      cases h
      exact JS.ret ttOk () trivial rfl rfl [] rfl
    · have h := condF h ht16
      refine JS.skip ?_
      refine JS.seq ?_
      refine JS.seq ?_
      refine JS.region ?_
      refine JO.reg ttOk 4 [] [] [(11, .v (.slice a3 x0.2.length c4)), (13, .v (.slice a7 x1.2.length c8))] _ rfl ⟨⟨rfl, rfl, trivial⟩, rfl⟩ ?_
      obtain ⟨y11, hy12, h⟩ := bindO_some h
      refine JO.call rfl rfl rfl rfl (ok_l_eqByteS x0.2 x1.2 a3 c4 x0.2.length rfl a7 c8 x1.2.length rfl _ hy12) rfl [0, 1] rfl rfl ?_
      intro _ _
      refine JO.reg ttOk 1 [] [] [(15, .v (.bool (!y11)))] _ rfl ⟨⟨rfl, trivial⟩, rfl⟩ ?_
      refine JO.done rfl ?_
      refine JS.cond rfl (fun ht15 => ?_) (fun ht15 => ?_)
      · have h := condT h ht15
        refine JS.seq ?_
        refine JS.region ?_
        refine JO.reg ttOk 1 [] [] [(4, .v (.bool false))] _ rfl ⟨⟨rfl, trivial⟩, rfl⟩ ?_
        refine JO.done rfl ?_
        cases h
        exact JS.ret ttOk () trivial rfl rfl [] rfl
      · have h := condF h ht15
        refine JS.skip ?_
        refine JS.seq ?_
        refine JS.region ?_
        refine JO.reg ttOk 1 [] [] [(4, .v (.bool true))] _ rfl ⟨⟨rfl, trivial⟩, rfl⟩ ?_
        refine JO.done rfl ?_
        cases h
        exact JS.ret ttOk () trivial rfl rfl [] rfl

def M_l_eqKey (x0 : Int × Int) (x1 : Int × Int) : Option Bool :=
  (bif (!(decide (x0.1 = x1.1))) then
  some false
  else
  (bif (!(decide (x0.2 = x1.2))) then
  some false
  else
  some true))

theorem ok_l_eqKey (x0 : Int × Int) (x1 : Int × Int) (r : Bool) (h : M_l_eqKey x0 x1 = some r) :
    FC Try.prog 34 [.agg #[.int .i64 x0.1, .int .i64 x0.2], .agg #[.int .i64 x1.1, .int .i64 x1.2]] [] (fun _ : Unit => True) (fun _ => .bool r) (fun _ => []) :=
  by
    refine FC.of (T := TTx) Try.call34 Try.func34 rfl rfl fun w0 => ?_
    unfold M_l_eqKey at h
    refine JS.seq ?_
    refine JS.region ?_
    refine JO.regB ttOk 3 [] [1, 2] [(2, .bp 1 0), (3, .bp 2 0)] (.new 1 40 [.int .i64 x0.1, .int .i64 x0.2] (.new 2 40 [.int .i64 x1.1, .int .i64 x1.2] .nil)) rfl ⟨⟨rfl, rfl, trivial⟩, ⟨rfl, rfl, rfl, rfl, rfl, rfl, rfl, rfl, trivial⟩⟩ ?_
    refine JO.done rfl ?_
    refine JS.seq ?_
    refine JS.seq ?_
    refine JS.region ?_
    refine JO.reg ttOk 5 [] [] [(9, .v (.bool (!(decide (x0.1 = x1.1)))))] _ rfl ⟨⟨rfl, trivial⟩, rfl⟩ ?_
    refine JO.done rfl ?_
    refine JS.cond rfl (fun ht6 => ?_) (fun ht6 => ?_)
    · have h := condT h ht6
      refine JS.seq ?_
      refine JS.region ?_
      refine JO.reg ttOk 1 [] [] [(4, .v (.bool false))] _ rfl ⟨⟨rfl, trivial⟩, rfl⟩ ?_
      refine JO.done rfl ?_
      cases h
      exact JS.ret ttOk () trivial rfl rfl [] rfl
    · have h := condF h ht6
      refine JS.skip ?_
      refine JS.seq ?_
      refine JS.seq ?_
      refine JS.region ?_
      refine JO.reg ttOk 5 [] [] [(14, .v (.bool (!(decide (x0.2 = x1.2)))))] _ rfl ⟨⟨rfl, trivial⟩, rfl⟩ ?_
      refine JO.done rfl ?_
      refine JS.cond rfl (fun ht5 => ?_) (fun ht5 => ?_)
      · have h := condT h ht5
        refine JS.seq ?_
        refine JS.region ?_
        refine JO.reg ttOk 1 [] [] [(4, .v (.bool false))] _ rfl ⟨⟨rfl, trivial⟩, rfl⟩ ?_
        refine JO.done rfl ?_
        cases h
        exact JS.ret ttOk () trivial rfl rfl [] rfl
      · have h := condF h ht5
        refine JS.skip ?_
        refine JS.seq ?_
        refine JS.region ?_
        refine JO.reg ttOk 1 [] [] [(4, .v (.bool true))] _ rfl ⟨⟨rfl, trivial⟩, rfl⟩ ?_
        refine JO.done rfl ?_
        cases h
        exact JS.ret ttOk () trivial rfl rfl [] rfl

def M_l_eqKeyS_L1 (x0 : List (Int × Int)) (x1 : List (Int × Int)) (j30 : Unit → Option Bool) (k22 : Int → Option Bool) : Int → Option Bool := fun x11 =>
  (bif (decide (x11 < (x0.length : Int))) then
  (guardO (0 ≤ x11 ∧ x11 < (x0.length : Int)) <|
  (guardO (0 ≤ x11 ∧ x11 < (x1.length : Int)) <|
  (bindO (M_l_eqKey (at' x0 x11) (at' x1 x11)) fun (y16 : Bool) =>
  (bif (!y16) then
  some false
  else
  k22 (W (x11 + 1))))))
  else
  j30 ())

def M_l_eqKeyS (x0 : List (Int × Int)) (x1 : List (Int × Int)) : Option Bool :=
  (bif (!(decide ((x0.length : Int) = (x1.length : Int)))) then
  some false
  else
  (joinO (fun (_ : Unit) =>
  some true) fun j30 =>
  (fixF (M_l_eqKeyS_L1 x0 x1 j30) FUEL 0)))

theorem ok_l_eqKeyS (x0 : List (Int × Int)) (x1 : List (Int × Int)) (a3 : Option Addr) (c4 : Nat) (l5 : Nat) (hl6 : x0.length = l5) (a7 : Option Addr) (c8 : Nat) (l9 : Nat) (hl10 : x1.length = l9) (r : Bool) (h : M_l_eqKeyS x0 x1 = some r) :
    FC Try.prog 13 [.slice a3 l5 c4, .slice a7 l9 c8] [⟨(.pair (.int .i64) (.int .i64)), ⟨a3, l5, c4⟩, x0⟩, ⟨(.pair (.int .i64) (.int .i64)), ⟨a7, l9, c8⟩, x1⟩] (fun _ : Unit => True) (fun _ => .bool r) (fun _ => []) :=
  by
    subst hl6
    subst hl10
    refine FC.of (T := TTx) Try.call13 Try.func13 rfl rfl fun w0 => ?_
    unfold M_l_eqKeyS at h
    refine JS.seq ?_
    refine JS.region ?_
    refine JO.reg ttOk 1 [] [] [] _ rfl ⟨trivial, rfl⟩ ?_
    refine JO.done rfl ?_
    refine JS.seq ?_
    refine JS.seq ?_
    refine JS.region ?_
    refine JO.reg ttOk 5 [] [] [(10, .v (.bool (!(decide ((x0.length : Int) = (x1.length : Int))))))] _ rfl ⟨⟨rfl, trivial⟩, rfl⟩ ?_
    refine JO.done rfl ?_
    refine JS.cond rfl (fun ht46 => ?_) (fun ht46 => ?_)
    · have h := condT h ht46
      refine JS.seq ?_
      refine JS.region ?_
      refine JO.reg ttOk 1 [] [] [(4, .v (.bool false))] _ rfl ⟨⟨rfl, trivial⟩, rfl⟩ ?_
      refine JO.done rfl ?_
      cases h
      exact JS.ret ttOk () trivial rfl rfl [] rfl
    · have h := condF h ht46
      refine JS.skip ?_
      refine JS.seq ?_
      refine JS.seq ?_
      refine JS.region ?_
      refine JO.reg ttOk 1 [] [] [(5, .v (.int .i64 0))] _ rfl ⟨⟨rfl, trivial⟩, rfl⟩ ?_
      refine JO.done rfl ?_
      obtain ⟨j30, hj45, h⟩ := joinO_some h
      refine JS.blockJ (ι := Unit) ⟨fun _ => j30 () = some r, fun _ => [], fun _ => .nil, fun _ => [], fun _ => [], fun _ => 0⟩ ?_ ?_
      · refine JS.loop (ι := Nat × Int) ⟨fun z => fixF (M_l_eqKeyS_L1 x0 x1 j30) z.1 z.2 = some r, fun z => [(0, .v (.slice a3 x0.length c4)), (1, .v (.slice a7 x1.length c8)), (5, .v (.int .i64 z.2))], fun z => .nil, fun z => [⟨(.pair (.int .i64) (.int .i64)), ⟨a3, x0.length, c4⟩, x0⟩, ⟨(.pair (.int .i64) (.int .i64)), ⟨a7, x1.length, c8⟩, x1⟩], fun z => [], fun z => z.1⟩ (FUEL, 0) h ⟨rfl, rfl, rfl, trivial⟩ trivial [0, 1] rfl [] rfl ?_
        rintro ⟨n23, x11⟩ h
        obtain ⟨n23, rfl, h⟩ := fixF_some h
        rw [M_l_eqKeyS_L1] at h
        refine JS.seq ?_
        refine JS.seq ?_
        refine JS.region ?_
        refine JO.reg ttOk 4 [] [] [(14, .v (.bool (decide (x11 < (x0.length : Int)))))] _ rfl ⟨⟨rfl, trivial⟩, rfl⟩ ?_
        refine JO.done rfl ?_
        refine JS.cond rfl (fun ht44 => ?_) (fun ht44 => ?_)
        · have h := condT h ht44
          refine JS.skip ?_
          refine JS.seq ?_
          refine JS.block ?_
          refine JS.seq ?_
          obtain ⟨g13, h⟩ := guardO_some h
          obtain ⟨g15, h⟩ := guardO_some h
          obtain ⟨y16, hy17, h⟩ := bindO_some h
          refine JS.know 0 rfl fun hs41 => ?_
          refine JS.know 1 rfl fun hs42 => ?_
          refine JS.regionQ rfl (by kernel_rfl) ?_
          refine JQ.reg ttOk 3 [] [(19, .ep ⟨a3, x0.length, c4⟩ (Int.toNat x11 * 2))] rfl ⟨hs41.ix g13, ⟨rfl, trivial⟩⟩ ?_
          refine JQ.loadV ttOk rfl rfl rfl rfl rfl rfl 0 rfl rfl (Int.toNat x11) 0 (at' x0 x11) ⟨at_some g13, rfl⟩ rfl rfl rfl ?_
          refine JQ.reg ttOk 3 [] [(23, .ep ⟨a7, x1.length, c8⟩ (Int.toNat x11 * 2))] rfl ⟨hs42.ix g15, ⟨rfl, trivial⟩⟩ ?_
          refine JQ.loadV ttOk rfl rfl rfl rfl rfl rfl 1 rfl rfl (Int.toNat x11) 0 (at' x1 x11) ⟨at_some g15, rfl⟩ rfl rfl rfl ?_
          refine JQ.call rfl rfl rfl rfl (ok_l_eqKey (at' x0 x11) (at' x1 x11) _ hy17) rfl [] rfl rfl ?_
          refine JQ.reg ttOk 1 [] [(26, .v (.bool (!y16)))] rfl ⟨rfl, trivial⟩ ?_
          refine JQ.done rfl ?_
          refine JS.cond rfl (fun ht43 => ?_) (fun ht43 => ?_)
          · have h := condT h ht43
            refine JS.seq ?_
            refine JS.region ?_
            refine JO.reg ttOk 1 [] [] [(4, .v (.bool false))] _ rfl ⟨⟨rfl, trivial⟩, rfl⟩ ?_
            refine JO.done rfl ?_
            cases h
            exact JS.ret ttOk () trivial rfl rfl [] rfl
          · have h := condF h ht43
            refine JS.skip ?_
            refine JS.endB ?_
            refine JS.region ?_
            refine JO.reg ttOk 3 [(W (x11 + 1))] [] [(5, .v (.int .i64 (W (x11 + 1))))] _ rfl ⟨⟨trivial, rfl⟩, ⟨rfl, trivial⟩, rfl⟩ ?_
            refine JO.done rfl ?_
            exact JS.endL (n23, (W (x11 + 1))) h (Nat.lt_succ_self _) ⟨rfl, rfl, rfl, trivial⟩ trivial [0, 1] rfl [] rfl
        · have h := condF h ht44
          refine JS.exit rfl ?_
          exact JS.endJ () h trivial trivial [] rfl [] rfl
      · rintro _ h
        subst hj45
        refine JS.seq ?_
        refine JS.region ?_
        refine JO.reg ttOk 1 [] [] [(4, .v (.bool true))] _ rfl ⟨⟨rfl, trivial⟩, rfl⟩ ?_
        refine JO.done rfl ?_
        cases h
        exact JS.ret ttOk () trivial rfl rfl [] rfl

def M_l_markByteS_L1 (x0 : List UInt8) (j19 : (List UInt8 × Int) → Option (Int × List UInt8)) (k13 : (List UInt8 × Int × Int) → Option (Int × List UInt8)) : (List UInt8 × Int × Int) → Option (Int × List UInt8) := fun (x7, x8, x9) =>
  (bif (decide (x9 < (x0.length : Int))) then
  (guardO (0 ≤ x9 ∧ x9 < (x0.length : Int)) <|
  k13 ((List.set x7 (Int.toNat x9) (u8 (x8))), (W (x8 + 1)), (W (x9 + 1))))
  else
  j19 (x7, x8))

def M_l_markByteS (x0 : List UInt8) (x1 : Int) : Option (Int × List UInt8) :=
  (joinO (fun ((x17, x18) : List UInt8 × Int) =>
  some (x18, x17)) fun j19 =>
  (fixF (M_l_markByteS_L1 x0 j19) FUEL (x0, x1, 0)))

theorem ok_l_markByteS (x0 : List UInt8) (x1 : Int) (a3 : Option Addr) (c4 : Nat) (l5 : Nat) (hl6 : x0.length = l5) (r : Int × List UInt8) (h : M_l_markByteS x0 x1 = some r) :
    FX Try.prog 29 [.slice a3 l5 c4, .int .i64 x1] [] [⟨.byte, ⟨a3, l5, c4⟩, x0⟩] (fun _ : Unit => True) (fun _ => .int .i64 r.1) (fun _ => [⟨.byte, ⟨a3, l5, c4⟩, r.2⟩]) :=
  by
    subst hl6
    refine FX.of (T := TTx) Try.call29 Try.func29 rfl rfl fun w0 L0 => ?_
    unfold M_l_markByteS at h
    refine JS.seq ?_
    refine JS.region ?_
    refine JO.reg ttOk 1 [] [] [] _ rfl ⟨trivial, rfl⟩ ?_
    refine JO.done rfl ?_
    refine JS.seq ?_
    refine JS.seq ?_
    refine JS.region ?_
    refine JO.reg ttOk 1 [] [] [(5, .v (.int .i64 0))] _ rfl ⟨⟨rfl, trivial⟩, rfl⟩ ?_
    refine JO.done rfl ?_
    obtain ⟨j19, hj27, h⟩ := joinO_some h
    refine JS.blockJ (ι := List UInt8 × Int) ⟨fun z => j19 (z.1, z.2) = some r, fun z => [(1, .v (.int .i64 z.2))], fun z => .nil, fun z => [], fun z => [⟨.byte, ⟨a3, x0.length, c4⟩, z.1⟩], fun z => 0⟩ ?_ ?_
    · refine JS.loop (ι := Nat × List UInt8 × Int × Int) ⟨fun z => fixF (M_l_markByteS_L1 x0 j19) z.1 (z.2.1, z.2.2.1, z.2.2.2) = some r, fun z => [(0, .v (.slice a3 x0.length c4)), (1, .v (.int .i64 z.2.2.1)), (5, .v (.int .i64 z.2.2.2))], fun z => .nil, fun z => [], fun z => [⟨.byte, ⟨a3, x0.length, c4⟩, z.2.1⟩], fun z => z.1⟩ (FUEL, x0, x1, 0) h ⟨rfl, rfl, rfl, trivial⟩ trivial [] rfl [0] rfl ?_
      rintro ⟨n14, x7, x8, x9⟩ h
      obtain ⟨n14, rfl, h⟩ := fixF_some h
      rw [M_l_markByteS_L1] at h
      refine JS.know 0 rfl fun hs24 => ?_
      refine JS.seq ?_
      refine JS.seq ?_
      refine JS.region ?_
      refine JO.reg ttOk 4 [] [] [(9, .v (.bool (decide (x9 < (x0.length : Int)))))] _ rfl ⟨⟨rfl, trivial⟩, rfl⟩ ?_
      refine JO.done rfl ?_
      refine JS.cond rfl (fun ht25 => ?_) (fun ht25 => ?_)
      · have h := condT h ht25
        refine JS.skip ?_
        refine JS.seq ?_
        refine JS.block ?_
        refine JS.seq ?_
        refine JS.region ?_
        obtain ⟨g11, h⟩ := guardO_some h
        refine JO.reg ttOk 5 [((u8 (x8)).toNat : Int)] [] [(15, .v (.int .u8 ((u8 (x8)).toNat : Int))), (16, .ep ⟨a3, x0.length, c4⟩ (Int.toNat x9 * 1))] _ rfl ⟨⟨trivial, u8_wrap _⟩, (hs24.cast hs24.len.symm).ix g11, ⟨rfl, rfl, trivial⟩, rfl⟩ ?_
        refine JO.storeE ttOk rfl rfl rfl rfl rfl rfl rfl rfl rfl [0] (fs := []) rfl (Int.toNat x9) 0 (at' x7 x9) (u8 (x8)) ⟨at_someL hs24.len.symm g11, rfl⟩ ⟨rfl, rfl, rfl⟩ ?_
        refine JO.done rfl ?_
        refine JS.region ?_
        refine JO.reg ttOk 3 [(W (x8 + 1))] [] [(1, .v (.int .i64 (W (x8 + 1))))] _ rfl ⟨⟨trivial, rfl⟩, ⟨rfl, trivial⟩, rfl⟩ ?_
        refine JO.done rfl ?_
        refine JS.endB ?_
        refine JS.region ?_
        refine JO.reg ttOk 3 [(W (x9 + 1))] [] [(5, .v (.int .i64 (W (x9 + 1))))] _ rfl ⟨⟨trivial, rfl⟩, ⟨rfl, trivial⟩, rfl⟩ ?_
        refine JO.done rfl ?_
        exact JS.endL (n14, (List.set x7 (Int.toNat x9) (u8 (x8))), (W (x8 + 1)), (W (x9 + 1))) h (Nat.lt_succ_self _) ⟨rfl, rfl, rfl, trivial⟩ trivial [] rfl [0] rfl
      · have h := condF h ht25
        refine JS.exit rfl ?_
        exact JS.endJ (x7, x8) h ⟨rfl, trivial⟩ trivial [] rfl [0] rfl
    · rintro ⟨x17, x18⟩ h
      subst hj27
      refine JS.know 0 rfl fun hs26 => ?_
      refine JS.seq ?_
      refine JS.region ?_
      refine JO.reg ttOk 2 [] [] [(4, .v (.int .i64 x18))] _ rfl ⟨⟨rfl, trivial⟩, rfl⟩ ?_
      refine JO.done rfl ?_
      cases h
      exact JS.retX ttOk () trivial rfl rfl [0] rfl

def M_l_markDec (x0 : Int × List UInt8) (x1 : Int) : Option (Int × List UInt8) :=
  (bindO (M_l_markByteS x0.2 x1) fun (y7, y8) =>
  some (y7, y8))

theorem ok_l_markDec (x0 : Int × List UInt8) (x1 : Int) (a3 : Option Addr) (c4 : Nat) (l5 : Nat) (hl6 : x0.2.length = l5) (r : Int × List UInt8) (h : M_l_markDec x0 x1 = some r) :
    FX Try.prog 14 [.agg #[.int .i64 x0.1, .slice a3 l5 c4], .int .i64 x1] [] [⟨.byte, ⟨a3, l5, c4⟩, x0.2⟩] (fun _ : Unit => True) (fun _ => .int .i64 r.1) (fun _ => [⟨.byte, ⟨a3, l5, c4⟩, r.2⟩]) :=
  by
    subst hl6
    refine FX.of (T := TTx) Try.call14 Try.func14 rfl rfl fun w0 L0 => ?_
    unfold M_l_markDec at h
    refine JS.seq ?_
    refine JS.region ?_
    refine JO.regB ttOk 2 [] [2] [(2, .bp 2 0)] (.new 2 26 [.int .i64 x0.1, .slice a3 x0.2.length c4] .nil) rfl ⟨⟨rfl, trivial⟩, ⟨rfl, rfl, rfl, rfl, trivial⟩⟩ ?_
    refine JO.done rfl ?_
    refine JS.seq ?_
    refine JS.region ?_
    refine JO.reg ttOk 3 [] [] [(6, .v (.slice a3 x0.2.length c4)), (7, .v (.int .i64 x1))] _ rfl ⟨⟨rfl, rfl, trivial⟩, rfl⟩ ?_
    obtain ⟨⟨y7, y8⟩, hy9, h⟩ := bindO_some h
    refine JO.callX rfl rfl rfl rfl (ok_l_markByteS x0.2 x1 a3 c4 x0.2.length rfl _ hy9) rfl [0] rfl [] rfl rfl ?_
    intro _ _
    refine JO.know 0 rfl fun hs10 => ?_
    refine JO.reg ttOk 1 [] [] [(1, .v (.int .i64 y7))] _ rfl ⟨⟨rfl, trivial⟩, rfl⟩ ?_
    refine JO.done rfl ?_
    refine JS.seq ?_
    refine JS.region ?_
    refine JO.reg ttOk 2 [] [] [(4, .v (.int .i64 y7))] _ rfl ⟨⟨rfl, trivial⟩, rfl⟩ ?_
    refine JO.done rfl ?_
    cases h
    exact JS.retX ttOk () trivial rfl rfl [0] rfl

def M_l_markKeyS_L1 (x0 : List (Int × Int)) (j20 : ((List (Int × Int)) × Int) → Option (Int × List (Int × Int))) (k14 : ((List (Int × Int)) × Int × Int) → Option (Int × List (Int × Int))) : ((List (Int × Int)) × Int × Int) → Option (Int × List (Int × Int)) := fun (x7, x8, x9) =>
  (bif (decide (x9 < (x0.length : Int))) then
  (guardO (0 ≤ x9 ∧ x9 < (x0.length : Int)) <|
  (guardO (0 ≤ x9 ∧ x9 < (x0.length : Int)) <|
  k14 ((List.set (List.set x7 (Int.toNat x9) (x8, (at' x7 x9).2)) (Int.toNat x9) ((at' (List.set x7 (Int.toNat x9) (x8, (at' x7 x9).2)) x9).1, (W (x8 + 1)))), (W ((W (x8 + 1)) + 1)), (W (x9 + 1)))))
  else
  j20 (x7, x8))

def M_l_markKeyS (x0 : List (Int × Int)) (x1 : Int) : Option (Int × List (Int × Int)) :=
  (joinO (fun ((x18, x19) : (List (Int × Int)) × Int) =>
  some (x19, x18)) fun j20 =>
  (fixF (M_l_markKeyS_L1 x0 j20) FUEL (x0, x1, 0)))

theorem ok_l_markKeyS (x0 : List (Int × Int)) (x1 : Int) (a3 : Option Addr) (c4 : Nat) (l5 : Nat) (hl6 : x0.length = l5) (r : Int × List (Int × Int)) (h : M_l_markKeyS x0 x1 = some r) :
    FX Try.prog 15 [.slice a3 l5 c4, .int .i64 x1] [] [⟨(.pair (.int .i64) (.int .i64)), ⟨a3, l5, c4⟩, x0⟩] (fun _ : Unit => True) (fun _ => .int .i64 r.1) (fun _ => [⟨(.pair (.int .i64) (.int .i64)), ⟨a3, l5, c4⟩, r.2⟩]) :=
  by
    subst hl6
    refine FX.of (T := TTx) Try.call15 Try.func15 rfl rfl fun w0 L0 => ?_
    unfold M_l_markKeyS at h
    refine JS.seq ?_
    refine JS.region ?_
    refine JO.reg ttOk 1 [] [] [] _ rfl ⟨trivial, rfl⟩ ?_
    refine JO.done rfl ?_
    refine JS.seq ?_
    refine JS.seq ?_
    refine JS.region ?_
    refine JO.reg ttOk 1 [] [] [(5, .v (.int .i64 0))] _ rfl ⟨⟨rfl, trivial⟩, rfl⟩ ?_
    refine JO.done rfl ?_
    obtain ⟨j20, hj28, h⟩ := joinO_some h
    refine JS.blockJ (ι := (List (Int × Int)) × Int) ⟨fun z => j20 (z.1, z.2) = some r, fun z => [(1, .v (.int .i64 z.2))], fun z => .nil, fun z => [], fun z => [⟨(.pair (.int .i64) (.int .i64)), ⟨a3, x0.length, c4⟩, z.1⟩], fun z => 0⟩ ?_ ?_
    · refine JS.loop (ι := Nat × (List (Int × Int)) × Int × Int) ⟨fun z => fixF (M_l_markKeyS_L1 x0 j20) z.1 (z.2.1, z.2.2.1, z.2.2.2) = some r, fun z => [(0, .v (.slice a3 x0.length c4)), (1, .v (.int .i64 z.2.2.1)), (5, .v (.int .i64 z.2.2.2))], fun z => .nil, fun z => [], fun z => [⟨(.pair (.int .i64) (.int .i64)), ⟨a3, x0.length, c4⟩, z.2.1⟩], fun z => z.1⟩ (FUEL, x0, x1, 0) h ⟨rfl, rfl, rfl, trivial⟩ trivial [] rfl [0] rfl ?_
      rintro ⟨n15, x7, x8, x9⟩ h
      obtain ⟨n15, rfl, h⟩ := fixF_some h
      rw [M_l_markKeyS_L1] at h
      refine JS.know 0 rfl fun hs25 => ?_
      refine JS.seq ?_
      refine JS.seq ?_
      refine JS.region ?_
      refine JO.reg ttOk 4 [] [] [(9, .v (.bool (decide (x9 < (x0.length : Int)))))] _ rfl ⟨⟨rfl, trivial⟩, rfl⟩ ?_
      refine JO.done rfl ?_
      refine JS.cond rfl (fun ht26 => ?_) (fun ht26 => ?_)
      · have h := condT h ht26
        refine JS.skip ?_
        refine JS.seq ?_
        refine JS.block ?_
        refine JS.seq ?_
        refine JS.region ?_
        obtain ⟨g11, h⟩ := guardO_some h
        refine JO.reg ttOk 5 [] [] [(14, .v (.int .i64 x8)), (16, .ep ⟨a3, x0.length, c4⟩ (Int.toNat x9 * 2))] _ rfl ⟨(hs25.cast hs25.len.symm).ix g11, (hs25.cast hs25.len.symm).fa g11, ⟨rfl, rfl, trivial⟩, rfl⟩ ?_
        refine JO.storeE ttOk rfl rfl rfl rfl rfl rfl rfl rfl rfl [0] (fs := []) rfl (Int.toNat x9) 0 (at' x7 x9) (x8, (at' x7 x9).2) ⟨at_someL hs25.len.symm g11, rfl⟩ ⟨⟨rfl, rfl, rfl⟩, rfl⟩ ?_
        refine JO.done rfl ?_
        refine JS.seq ?_
        refine JS.region ?_
        refine JO.reg ttOk 3 [(W (x8 + 1))] [] [(1, .v (.int .i64 (W (x8 + 1))))] _ rfl ⟨⟨trivial, rfl⟩, ⟨rfl, trivial⟩, rfl⟩ ?_
        refine JO.done rfl ?_
        refine JS.seq ?_
        refine JS.region ?_
        obtain ⟨g12, h⟩ := guardO_some h
        refine JO.reg ttOk 5 [] [] [(21, .v (.int .i64 (W (x8 + 1)))), (23, .ep ⟨a3, x0.length, c4⟩ (Int.toNat x9 * 2 + 1))] _ rfl ⟨(hs25.cast hs25.len.symm).ix g12, (hs25.cast hs25.len.symm).fa g12, ⟨rfl, rfl, trivial⟩, rfl⟩ ?_
        refine JO.storeE ttOk rfl rfl rfl rfl rfl rfl rfl rfl rfl [0] (fs := []) rfl (Int.toNat x9) 1 (at' (List.set x7 (Int.toNat x9) (x8, (at' x7 x9).2)) x9) ((at' (List.set x7 (Int.toNat x9) (x8, (at' x7 x9).2)) x9).1, (W (x8 + 1))) ⟨at_someL (List.length_set.trans hs25.len.symm) g12, rfl⟩ ⟨⟨rfl, rfl, rfl⟩, rfl⟩ ?_
        refine JO.done rfl ?_
        refine JS.region ?_
        refine JO.reg ttOk 3 [(W ((W (x8 + 1)) + 1))] [] [(1, .v (.int .i64 (W ((W (x8 + 1)) + 1))))] _ rfl ⟨⟨trivial, rfl⟩, ⟨rfl, trivial⟩, rfl⟩ ?_
        refine JO.done rfl ?_
        refine JS.endB ?_
        refine JS.region ?_
        refine JO.reg ttOk 3 [(W (x9 + 1))] [] [(5, .v (.int .i64 (W (x9 + 1))))] _ rfl ⟨⟨trivial, rfl⟩, ⟨rfl, trivial⟩, rfl⟩ ?_
        refine JO.done rfl ?_
        exact JS.endL (n15, (List.set (List.set x7 (Int.toNat x9) (x8, (at' x7 x9).2)) (Int.toNat x9) ((at' (List.set x7 (Int.toNat x9) (x8, (at' x7 x9).2)) x9).1, (W (x8 + 1)))), (W ((W (x8 + 1)) + 1)), (W (x9 + 1))) h (Nat.lt_succ_self _) ⟨rfl, rfl, rfl, trivial⟩ trivial [] rfl [0] rfl
      · have h := condF h ht26
        refine JS.exit rfl ?_
        exact JS.endJ (x7, x8) h ⟨rfl, trivial⟩ trivial [] rfl [0] rfl
    · rintro ⟨x18, x19⟩ h
      subst hj28
      refine JS.know 0 rfl fun hs27 => ?_
      refine JS.seq ?_
      refine JS.region ?_
      refine JO.reg ttOk 2 [] [] [(4, .v (.int .i64 x19))] _ rfl ⟨⟨rfl, trivial⟩, rfl⟩ ?_
      refine JO.done rfl ?_
      cases h
      exact JS.retX ttOk () trivial rfl rfl [0] rfl

def M_l_heldByteS_L1 (x0 : List UInt8) (j19 : Int → Option Int) (k13 : (Int × Int) → Option Int) : (Int × Int) → Option Int := fun (x7, x8) =>
  (bif (decide (x8 < (x0.length : Int))) then
  (guardO (0 ≤ x8 ∧ x8 < (x0.length : Int)) <|
  (bif (!(decide (((at' x0 x8).toNat : Int) = ((u8 (x7)).toNat : Int)))) then
  some (-1)
  else
  k13 ((W (x7 + 1)), (W (x8 + 1)))))
  else
  j19 x7)

def M_l_heldByteS (x0 : List UInt8) (x1 : Int) : Option Int :=
  (joinO (fun (x18 : Int) =>
  some x18) fun j19 =>
  (fixF (M_l_heldByteS_L1 x0 j19) FUEL (x1, 0)))

theorem ok_l_heldByteS (x0 : List UInt8) (x1 : Int) (a3 : Option Addr) (c4 : Nat) (l5 : Nat) (hl6 : x0.length = l5) (r : Int) (h : M_l_heldByteS x0 x1 = some r) :
    FC Try.prog 35 [.slice a3 l5 c4, .int .i64 x1] [⟨.byte, ⟨a3, l5, c4⟩, x0⟩] (fun _ : Unit => True) (fun _ => .int .i64 r) (fun _ => []) :=
  by
    subst hl6
    refine FC.of (T := TTx) Try.call35 Try.func35 rfl rfl fun w0 => ?_
    unfold M_l_heldByteS at h
    refine JS.seq ?_
    refine JS.region ?_
    refine JO.reg ttOk 1 [] [] [] _ rfl ⟨trivial, rfl⟩ ?_
    refine JO.done rfl ?_
    refine JS.seq ?_
    refine JS.seq ?_
    refine JS.region ?_
    refine JO.reg ttOk 1 [] [] [(5, .v (.int .i64 0))] _ rfl ⟨⟨rfl, trivial⟩, rfl⟩ ?_
    refine JO.done rfl ?_
    obtain ⟨j19, hj27, h⟩ := joinO_some h
    refine JS.blockJ (ι := Int) ⟨fun z => j19 z = some r, fun z => [(1, .v (.int .i64 z))], fun z => .nil, fun z => [], fun z => [], fun z => 0⟩ ?_ ?_
    · refine JS.loop (ι := Nat × Int × Int) ⟨fun z => fixF (M_l_heldByteS_L1 x0 j19) z.1 (z.2.1, z.2.2) = some r, fun z => [(0, .v (.slice a3 x0.length c4)), (1, .v (.int .i64 z.2.1)), (5, .v (.int .i64 z.2.2))], fun z => .nil, fun z => [⟨.byte, ⟨a3, x0.length, c4⟩, x0⟩], fun z => [], fun z => z.1⟩ (FUEL, x1, 0) h ⟨rfl, rfl, rfl, trivial⟩ trivial [0] rfl [] rfl ?_
      rintro ⟨n14, x7, x8⟩ h
      obtain ⟨n14, rfl, h⟩ := fixF_some h
      rw [M_l_heldByteS_L1] at h
      refine JS.seq ?_
      refine JS.seq ?_
      refine JS.region ?_
      refine JO.reg ttOk 4 [] [] [(9, .v (.bool (decide (x8 < (x0.length : Int)))))] _ rfl ⟨⟨rfl, trivial⟩, rfl⟩ ?_
      refine JO.done rfl ?_
      refine JS.cond rfl (fun ht26 => ?_) (fun ht26 => ?_)
      · have h := condT h ht26
        refine JS.skip ?_
        refine JS.seq ?_
        refine JS.block ?_
        refine JS.seq ?_
        refine JS.seq ?_
        refine JS.region ?_
        refine JO.know 0 rfl fun hs24 => ?_
        obtain ⟨g10, h⟩ := guardO_some h
        refine JO.reg ttOk 3 [] [] [(14, .ep ⟨a3, x0.length, c4⟩ (Int.toNat x8 * 1))] _ rfl ⟨hs24.ix g10, ⟨rfl, trivial⟩, rfl⟩ ?_
        refine JO.load ttOk rfl rfl rfl rfl rfl rfl rfl 0 rfl rfl (Int.toNat x8) 0 (at' x0 x8) ⟨at_some g10, rfl⟩ rfl rfl ?_
        refine JO.reg ttOk 3 [((u8 (x7)).toNat : Int)] [] [(18, .v (.bool (!(decide (((at' x0 x8).toNat : Int) = ((u8 (x7)).toNat : Int))))))] _ rfl ⟨⟨trivial, u8_wrap _⟩, ⟨rfl, trivial⟩, rfl⟩ ?_
        refine JO.done rfl ?_
        refine JS.cond rfl (fun ht25 => ?_) (fun ht25 => ?_)
        · have h := condT h ht25
          refine JS.seq ?_
          refine JS.region ?_
          refine JO.reg ttOk 1 [] [] [(4, .v (.int .i64 (-1)))] _ rfl ⟨⟨rfl, trivial⟩, rfl⟩ ?_
          refine JO.done rfl ?_
          cases h
          exact JS.ret ttOk () trivial rfl rfl [] rfl
        · have h := condF h ht25
          refine JS.skip ?_
          refine JS.region ?_
          refine JO.reg ttOk 3 [(W (x7 + 1))] [] [(1, .v (.int .i64 (W (x7 + 1))))] _ rfl ⟨⟨trivial, rfl⟩, ⟨rfl, trivial⟩, rfl⟩ ?_
          refine JO.done rfl ?_
          refine JS.endB ?_
          refine JS.region ?_
          refine JO.reg ttOk 3 [(W (x8 + 1))] [] [(5, .v (.int .i64 (W (x8 + 1))))] _ rfl ⟨⟨trivial, rfl⟩, ⟨rfl, trivial⟩, rfl⟩ ?_
          refine JO.done rfl ?_
          exact JS.endL (n14, (W (x7 + 1)), (W (x8 + 1))) h (Nat.lt_succ_self _) ⟨rfl, rfl, rfl, trivial⟩ trivial [0] rfl [] rfl
      · have h := condF h ht26
        refine JS.exit rfl ?_
        exact JS.endJ x7 h ⟨rfl, trivial⟩ trivial [] rfl [] rfl
    · rintro x18 h
      subst hj27
      refine JS.seq ?_
      refine JS.region ?_
      refine JO.reg ttOk 2 [] [] [(4, .v (.int .i64 x18))] _ rfl ⟨⟨rfl, trivial⟩, rfl⟩ ?_
      refine JO.done rfl ?_
      cases h
      exact JS.ret ttOk () trivial rfl rfl [] rfl

def M_l_heldDec (x0 : Int × List UInt8) (x1 : Int) : Option Int :=
  (bindO (M_l_heldByteS x0.2 x1) fun (y7 : Int) =>
  (bif (decide (y7 < 0)) then
  some (-1)
  else
  some y7))

theorem ok_l_heldDec (x0 : Int × List UInt8) (x1 : Int) (a3 : Option Addr) (c4 : Nat) (l5 : Nat) (hl6 : x0.2.length = l5) (r : Int) (h : M_l_heldDec x0 x1 = some r) :
    FC Try.prog 16 [.agg #[.int .i64 x0.1, .slice a3 l5 c4], .int .i64 x1] [⟨.byte, ⟨a3, l5, c4⟩, x0.2⟩] (fun _ : Unit => True) (fun _ => .int .i64 r) (fun _ => []) :=
  by
    subst hl6
    refine FC.of (T := TTx) Try.call16 Try.func16 rfl rfl fun w0 => ?_
    unfold M_l_heldDec at h
    refine JS.seq ?_
    refine JS.region ?_
    refine JO.regB ttOk 2 [] [2] [(2, .bp 2 0)] (.new 2 26 [.int .i64 x0.1, .slice a3 x0.2.length c4] .nil) rfl ⟨⟨rfl, trivial⟩, ⟨rfl, rfl, rfl, rfl, trivial⟩⟩ ?_
    refine JO.done rfl ?_
    refine JS.seq ?_
    refine JS.region ?_
    refine JO.reg ttOk 3 [] [] [(6, .v (.slice a3 x0.2.length c4)), (7, .v (.int .i64 x1))] _ rfl ⟨⟨rfl, rfl, trivial⟩, rfl⟩ ?_
    obtain ⟨y7, hy8, h⟩ := bindO_some h
    refine JO.call rfl rfl rfl rfl (ok_l_heldByteS x0.2 x1 a3 c4 x0.2.length rfl _ hy8) rfl [0] rfl rfl ?_
    intro _ _
    refine JO.reg ttOk 1 [] [] [(1, .v (.int .i64 y7))] _ rfl ⟨⟨rfl, trivial⟩, rfl⟩ ?_
    refine JO.done rfl ?_
    refine JS.seq ?_
    refine JS.seq ?_
    refine JS.region ?_
    refine JO.reg ttOk 2 [] [] [(10, .v (.bool (decide (y7 < 0))))] _ rfl ⟨⟨rfl, trivial⟩, rfl⟩ ?_
    refine JO.done rfl ?_
    refine JS.cond rfl (fun ht10 => ?_) (fun ht10 => ?_)
    · have h := condT h ht10
      refine JS.seq ?_
      refine JS.region ?_
      refine JO.reg ttOk 1 [] [] [(4, .v (.int .i64 (-1)))] _ rfl ⟨⟨rfl, trivial⟩, rfl⟩ ?_
      refine JO.done rfl ?_
      cases h
      exact JS.ret ttOk () trivial rfl rfl [] rfl
    · have h := condF h ht10
      refine JS.skip ?_
      refine JS.seq ?_
      refine JS.region ?_
      refine JO.reg ttOk 2 [] [] [(4, .v (.int .i64 y7))] _ rfl ⟨⟨rfl, trivial⟩, rfl⟩ ?_
      refine JO.done rfl ?_
      cases h
      exact JS.ret ttOk () trivial rfl rfl [] rfl

def M_l_heldKeyS_L1 (x0 : List (Int × Int)) (j22 : Int → Option Int) (k15 : (Int × Int) → Option Int) : (Int × Int) → Option Int := fun (x7, x8) =>
  (bif (decide (x8 < (x0.length : Int))) then
  (guardO (0 ≤ x8 ∧ x8 < (x0.length : Int)) <|
  (bif (!(decide ((at' x0 x8).1 = x7))) then
  some (-1)
  else
  (guardO (0 ≤ x8 ∧ x8 < (x0.length : Int)) <|
  (bif (!(decide ((at' x0 x8).2 = (W (x7 + 1))))) then
  some (-1)
  else
  k15 ((W ((W (x7 + 1)) + 1)), (W (x8 + 1)))))))
  else
  j22 x7)

def M_l_heldKeyS (x0 : List (Int × Int)) (x1 : Int) : Option Int :=
  (joinO (fun (x21 : Int) =>
  some x21) fun j22 =>
  (fixF (M_l_heldKeyS_L1 x0 j22) FUEL (x1, 0)))

theorem ok_l_heldKeyS (x0 : List (Int × Int)) (x1 : Int) (a3 : Option Addr) (c4 : Nat) (l5 : Nat) (hl6 : x0.length = l5) (r : Int) (h : M_l_heldKeyS x0 x1 = some r) :
    FC Try.prog 17 [.slice a3 l5 c4, .int .i64 x1] [⟨(.pair (.int .i64) (.int .i64)), ⟨a3, l5, c4⟩, x0⟩] (fun _ : Unit => True) (fun _ => .int .i64 r) (fun _ => []) :=
  by
    subst hl6
    refine FC.of (T := TTx) Try.call17 Try.func17 rfl rfl fun w0 => ?_
    unfold M_l_heldKeyS at h
    refine JS.seq ?_
    refine JS.region ?_
    refine JO.reg ttOk 1 [] [] [] _ rfl ⟨trivial, rfl⟩ ?_
    refine JO.done rfl ?_
    refine JS.seq ?_
    refine JS.seq ?_
    refine JS.region ?_
    refine JO.reg ttOk 1 [] [] [(5, .v (.int .i64 0))] _ rfl ⟨⟨rfl, trivial⟩, rfl⟩ ?_
    refine JO.done rfl ?_
    obtain ⟨j22, hj32, h⟩ := joinO_some h
    refine JS.blockJ (ι := Int) ⟨fun z => j22 z = some r, fun z => [(1, .v (.int .i64 z))], fun z => .nil, fun z => [], fun z => [], fun z => 0⟩ ?_ ?_
    · refine JS.loop (ι := Nat × Int × Int) ⟨fun z => fixF (M_l_heldKeyS_L1 x0 j22) z.1 (z.2.1, z.2.2) = some r, fun z => [(0, .v (.slice a3 x0.length c4)), (1, .v (.int .i64 z.2.1)), (5, .v (.int .i64 z.2.2))], fun z => .nil, fun z => [⟨(.pair (.int .i64) (.int .i64)), ⟨a3, x0.length, c4⟩, x0⟩], fun z => [], fun z => z.1⟩ (FUEL, x1, 0) h ⟨rfl, rfl, rfl, trivial⟩ trivial [0] rfl [] rfl ?_
      rintro ⟨n16, x7, x8⟩ h
      obtain ⟨n16, rfl, h⟩ := fixF_some h
      rw [M_l_heldKeyS_L1] at h
      refine JS.seq ?_
      refine JS.seq ?_
      refine JS.region ?_
      refine JO.reg ttOk 4 [] [] [(9, .v (.bool (decide (x8 < (x0.length : Int)))))] _ rfl ⟨⟨rfl, trivial⟩, rfl⟩ ?_
      refine JO.done rfl ?_
      refine JS.cond rfl (fun ht31 => ?_) (fun ht31 => ?_)
      · have h := condT h ht31
        refine JS.skip ?_
        refine JS.seq ?_
        refine JS.block ?_
        refine JS.seq ?_
        refine JS.seq ?_
        refine JS.region ?_
        refine JO.know 0 rfl fun hs28 => ?_
        obtain ⟨g10, h⟩ := guardO_some h
        refine JO.reg ttOk 4 [] [] [(15, .ep ⟨a3, x0.length, c4⟩ (Int.toNat x8 * 2))] _ rfl ⟨hs28.ix g10, hs28.fa g10, ⟨rfl, trivial⟩, rfl⟩ ?_
        refine JO.load ttOk rfl rfl rfl rfl rfl rfl rfl 0 rfl rfl (Int.toNat x8) 0 (at' x0 x8) ⟨at_some g10, rfl⟩ rfl rfl ?_
        refine JO.reg ttOk 2 [] [] [(18, .v (.bool (!(decide ((at' x0 x8).1 = x7)))))] _ rfl ⟨⟨rfl, trivial⟩, rfl⟩ ?_
        refine JO.done rfl ?_
        refine JS.cond rfl (fun ht30 => ?_) (fun ht30 => ?_)
        · have h := condT h ht30
          refine JS.seq ?_
          refine JS.region ?_
          refine JO.reg ttOk 1 [] [] [(4, .v (.int .i64 (-1)))] _ rfl ⟨⟨rfl, trivial⟩, rfl⟩ ?_
          refine JO.done rfl ?_
          cases h
          exact JS.ret ttOk () trivial rfl rfl [] rfl
        · have h := condF h ht30
          refine JS.skip ?_
          refine JS.seq ?_
          refine JS.region ?_
          refine JO.reg ttOk 3 [(W (x7 + 1))] [] [(1, .v (.int .i64 (W (x7 + 1))))] _ rfl ⟨⟨trivial, rfl⟩, ⟨rfl, trivial⟩, rfl⟩ ?_
          refine JO.done rfl ?_
          refine JS.seq ?_
          refine JS.seq ?_
          refine JS.region ?_
          obtain ⟨g11, h⟩ := guardO_some h
          refine JO.reg ttOk 4 [] [] [(24, .ep ⟨a3, x0.length, c4⟩ (Int.toNat x8 * 2 + 1))] _ rfl ⟨hs28.ix g11, hs28.fa g11, ⟨rfl, trivial⟩, rfl⟩ ?_
          refine JO.load ttOk rfl rfl rfl rfl rfl rfl rfl 0 rfl rfl (Int.toNat x8) 1 (at' x0 x8) ⟨at_some g11, rfl⟩ rfl rfl ?_
          refine JO.reg ttOk 2 [] [] [(27, .v (.bool (!(decide ((at' x0 x8).2 = (W (x7 + 1)))))))] _ rfl ⟨⟨rfl, trivial⟩, rfl⟩ ?_
          refine JO.done rfl ?_
          refine JS.cond rfl (fun ht29 => ?_) (fun ht29 => ?_)
          · have h := condT h ht29
            refine JS.seq ?_
            refine JS.region ?_
            refine JO.reg ttOk 1 [] [] [(4, .v (.int .i64 (-1)))] _ rfl ⟨⟨rfl, trivial⟩, rfl⟩ ?_
            refine JO.done rfl ?_
            cases h
            exact JS.ret ttOk () trivial rfl rfl [] rfl
          · have h := condF h ht29
            refine JS.skip ?_
            refine JS.region ?_
            refine JO.reg ttOk 3 [(W ((W (x7 + 1)) + 1))] [] [(1, .v (.int .i64 (W ((W (x7 + 1)) + 1))))] _ rfl ⟨⟨trivial, rfl⟩, ⟨rfl, trivial⟩, rfl⟩ ?_
            refine JO.done rfl ?_
            refine JS.endB ?_
            refine JS.region ?_
            refine JO.reg ttOk 3 [(W (x8 + 1))] [] [(5, .v (.int .i64 (W (x8 + 1))))] _ rfl ⟨⟨trivial, rfl⟩, ⟨rfl, trivial⟩, rfl⟩ ?_
            refine JO.done rfl ?_
            exact JS.endL (n16, (W ((W (x7 + 1)) + 1)), (W (x8 + 1))) h (Nat.lt_succ_self _) ⟨rfl, rfl, rfl, trivial⟩ trivial [0] rfl [] rfl
      · have h := condF h ht31
        refine JS.exit rfl ?_
        exact JS.endJ x7 h ⟨rfl, trivial⟩ trivial [] rfl [] rfl
    · rintro x21 h
      subst hj32
      refine JS.seq ?_
      refine JS.region ?_
      refine JO.reg ttOk 2 [] [] [(4, .v (.int .i64 x21))] _ rfl ⟨⟨rfl, trivial⟩, rfl⟩ ?_
      refine JO.done rfl ?_
      cases h
      exact JS.ret ttOk () trivial rfl rfl [] rfl

def M_l_FnExactDecTick (x0 : Int × List UInt8) : Option Bool :=
  (bindO (M_l_szDec x0 1048576) fun (y6 : Int) =>
  (bif (decide (y6 < 0)) then
  some true
  else
  (bindO (M_l_toDec x0) fun (y8 : Int × List UInt8) =>
  (bindO (M_s_DecTick y8) fun (y12, y13) =>
  (bindO (M_l_toDec x0) fun (y17 : Int × List UInt8) =>
  (bindO (M_i_DecTick y17) fun (y21, y22) =>
  (bindO (M_l_eqDec (y21.1, ([] : List UInt8)) (y12.1, ([] : List UInt8))) fun (y26 : Bool) =>
  (callO ((!y26) = false) (M_l_eqKeyS y22 y13) false fun (y28 : Bool) =>
  (bif (bif (!y26) then true else (!y28)) then
  some false
  else
  (bindO (M_l_toDec x0) fun (y31 : Int × List UInt8) =>
  (bindO (M_l_eqDec y17 y31) fun (y35 : Bool) =>
  (bif (!y35) then
  some false
  else
  (bindO (M_l_markDec y17 1) fun (y38, y39) =>
  (callO ((decide (y38 < 0)) = false) (M_l_eqDec (y21.1, ([] : List UInt8)) (y12.1, ([] : List UInt8))) false fun (y42 : Bool) =>
  (callO ((bif (decide (y38 < 0)) then true else (!y42)) = false) (M_l_eqKeyS y22 y13) false fun (y45 : Bool) =>
  (bif (bif (bif (decide (y38 < 0)) then true else (!y42)) then true else (!y45)) then
  some false
  else
  (bindO (M_l_markDec (y21.1, ([] : List UInt8)) 1) fun (y48, y49) =>
  (bindO (M_l_markKeyS y22 y48) fun (y52, y53) =>
  (bindO (M_l_heldDec (y21.1, ([] : List UInt8)) 1) fun (y56 : Int) =>
  (bif (decide (y56 < 0)) then
  some false
  else
  (bindO (M_l_heldKeyS y53 y56) fun (y58 : Int) =>
  (bif (decide (y58 < 0)) then
  some false
  else
  (bif (!(decide (y58 = y52))) then
  some false
  else
  (bindO (M_l_toDec x0) fun (y60 : Int × List UInt8) =>
  (bindO (M_i_DecTick y60) fun (y64, y65) =>
  (bindO (M_l_eqDec (y64.1, ([] : List UInt8)) (y12.1, ([] : List UInt8))) fun (y69 : Bool) =>
  (callO ((!y69) = false) (M_l_eqKeyS y65 y13) false fun (y71 : Bool) =>
  (bif (bif (!y69) then true else (!y71)) then
  some false
  else
  (bindO (M_l_heldDec (y21.1, ([] : List UInt8)) 1) fun (y74 : Int) =>
  (bif (decide (y74 < 0)) then
  some false
  else
  (bindO (M_l_heldKeyS y53 y74) fun (y76 : Int) =>
  (bif (decide (y76 < 0)) then
  some false
  else
  (bif (!(decide (y76 = y52))) then
  some false
  else
  some true)))))))))))))))))))))))))))))))))

theorem ok_l_FnExactDecTick (x0 : Int × List UInt8) (a2 : Option Addr) (c3 : Nat) (l4 : Nat) (hl5 : x0.2.length = l4) (r : Bool) (h : M_l_FnExactDecTick x0 = some r) :
    FC Try.prog 3 [.agg #[.int .i64 x0.1, .slice a2 l4 c3]] [⟨.byte, ⟨a2, l4, c3⟩, x0.2⟩] (fun _ : Unit => True) (fun _ => .bool r) (fun _ => []) :=
  by
    subst hl5
    refine FC.of (T := TTx) Try.call3 Try.func3 rfl rfl fun w0 => ?_
    unfold M_l_FnExactDecTick at h
    refine JS.seq ?_
    refine JS.region ?_
    refine JO.regB ttOk 2 [] [2] [(1, .bp 2 0)] (.new 2 24 [.int .i64 x0.1, .slice a2 x0.2.length c3] .nil) rfl ⟨⟨rfl, trivial⟩, ⟨rfl, rfl, rfl, rfl, trivial⟩⟩ ?_
    refine JO.done rfl ?_
    refine JS.seq ?_
    refine JS.region ?_
    refine JO.reg ttOk 1 [] [] [(3, .v (.int .i64 1048576))] _ rfl ⟨⟨rfl, trivial⟩, rfl⟩ ?_
    refine JO.done rfl ?_
    refine JS.seq ?_
    refine JS.region ?_
    refine JO.reg ttOk 2 [] [] [(14, .v (.agg #[.int .i64 x0.1, .slice a2 x0.2.length c3])), (15, .v (.int .i64 1048576))] _ rfl ⟨⟨rfl, rfl, trivial⟩, rfl⟩ ?_
    obtain ⟨y6, hy7, h⟩ := bindO_some h
    refine JO.call rfl rfl rfl rfl (ok_l_szDec x0 1048576 a2 c3 x0.2.length rfl _ hy7) rfl [0] rfl rfl ?_
    intro _ _
    refine JO.reg ttOk 1 [] [] [(3, .v (.int .i64 y6))] _ rfl ⟨⟨rfl, trivial⟩, rfl⟩ ?_
    refine JO.done rfl ?_
    refine JS.seq ?_
    refine JS.seq ?_
    refine JS.region ?_
    refine JO.reg ttOk 2 [] [] [(18, .v (.bool (decide (y6 < 0))))] _ rfl ⟨⟨rfl, trivial⟩, rfl⟩ ?_
    refine JO.done rfl ?_
    refine JS.cond rfl (fun ht103 => ?_) (fun ht103 => ?_)
    · have h := condT h ht103
      refine JS.seq ?_
      refine JS.region ?_
      refine JO.reg ttOk 1 [] [] [(2, .v (.bool true))] _ rfl ⟨⟨rfl, trivial⟩, rfl⟩ ?_
      refine JO.done rfl ?_
      cases h
      exact JS.ret ttOk () trivial rfl rfl [] rfl
    · have h := condF h ht103
      refine JS.skip ?_
      refine JS.seq ?_
      refine JS.region ?_
      refine JO.reg ttOk 1 [] [] [(20, .v (.agg #[.int .i64 x0.1, .slice a2 x0.2.length c3]))] _ rfl ⟨⟨rfl, trivial⟩, rfl⟩ ?_
      obtain ⟨y8, hy9, h⟩ := bindO_some h
      refine JO.call rfl rfl rfl rfl (ok_l_toDec x0 a2 c3 x0.2.length rfl _ hy9) rfl [0] rfl rfl ?_
      rintro ⟨a10, c11⟩ -
      obtain ⟨⟨y12, y13⟩, hy14, h⟩ := bindO_some h
      refine JO.call rfl rfl rfl rfl (ok_s_DecTick y8 a10 c11 y8.2.length rfl _ hy14) rfl [1] rfl rfl ?_
      rintro ⟨a15, c16⟩ -
      refine JO.regB ttOk 6 [] [16] [(4, .bp 16 0), (5, .v (.slice a15 y13.length c16))] (.new 2 24 [.int .i64 x0.1, .slice a2 x0.2.length c3] (.new 16 26 [.int .i64 y12.1, .slice none 0 0] .nil)) rfl ⟨⟨rfl, rfl, trivial⟩, ⟨rfl, rfl, rfl, rfl, rfl, rfl, rfl, rfl, trivial⟩⟩ ?_
      refine JO.done rfl ?_
      refine JS.seq ?_
      refine JS.region ?_
      refine JO.reg ttOk 1 [] [] [(25, .v (.agg #[.int .i64 x0.1, .slice a2 x0.2.length c3]))] _ rfl ⟨⟨rfl, trivial⟩, rfl⟩ ?_
      obtain ⟨y17, hy18, h⟩ := bindO_some h
      refine JO.call rfl rfl rfl rfl (ok_l_toDec x0 a2 c3 x0.2.length rfl _ hy18) rfl [0] rfl rfl ?_
      rintro ⟨a19, c20⟩ -
      refine JO.regB ttOk 2 [] [22] [(6, .bp 22 0)] (.new 2 24 [.int .i64 x0.1, .slice a2 x0.2.length c3] (.new 16 26 [.int .i64 y12.1, .slice none 0 0] (.new 22 26 [.int .i64 y17.1, .slice a19 y17.2.length c20] .nil))) rfl ⟨⟨rfl, trivial⟩, ⟨rfl, rfl, rfl, rfl, rfl, rfl, rfl, rfl, rfl, rfl, rfl, rfl, trivial⟩⟩ ?_
      refine JO.done rfl ?_
      refine JS.seq ?_
      refine JS.region ?_
      refine JO.reg ttOk 1 [] [] [(28, .v (.agg #[.int .i64 y17.1, .slice a19 y17.2.length c20]))] _ rfl ⟨⟨rfl, trivial⟩, rfl⟩ ?_
      obtain ⟨⟨y21, y22⟩, hy23, h⟩ := bindO_some h
      refine JO.call rfl rfl rfl rfl (ok_i_DecTick y17 a19 c20 y17.2.length rfl _ hy23) rfl [1] rfl rfl ?_
      rintro ⟨a24, c25⟩ -
      refine JO.regB ttOk 6 [] [29] [(7, .bp 29 0), (8, .v (.slice a24 y22.length c25))] (.new 2 24 [.int .i64 x0.1, .slice a2 x0.2.length c3] (.new 16 26 [.int .i64 y12.1, .slice none 0 0] (.new 22 26 [.int .i64 y17.1, .slice a19 y17.2.length c20] (.new 29 26 [.int .i64 y21.1, .slice none 0 0] .nil)))) rfl ⟨⟨rfl, rfl, trivial⟩, ⟨rfl, rfl, rfl, rfl, rfl, rfl, rfl, rfl, rfl, rfl, rfl, rfl, rfl, rfl, rfl, rfl, trivial⟩⟩ ?_
      refine JO.done rfl ?_
      refine JS.seq ?_
      refine JS.seq ?_
      refine JS.region ?_
      refine JO.reg ttOk 2 [] [] [(32, .v (.agg #[.int .i64 y21.1, .slice none 0 0])), (33, .v (.agg #[.int .i64 y12.1, .slice none 0 0]))] _ rfl ⟨⟨rfl, rfl, trivial⟩, rfl⟩ ?_
      obtain ⟨y26, hy27, h⟩ := bindO_some h
      refine JO.nilR .byte Sl.nil rfl rfl ?_
      refine JO.nilR .byte Sl.nil rfl rfl ?_
      refine JO.call rfl rfl rfl rfl (ok_l_eqDec (y21.1, ([] : List UInt8)) (y12.1, ([] : List UInt8)) none 0 (([] : List UInt8).length) rfl none 0 (([] : List UInt8).length) rfl _ hy27) rfl [1, 0] rfl rfl ?_
      intro _ _
      refine JO.reg ttOk 4 [] [] [(36, .v (.bool (!y26))), (37, .cd [(36, false)] (.v (.slice a24 y22.length c25))), (38, .cd [(36, false)] (.v (.slice a15 y13.length c16)))] _ rfl ⟨⟨rfl, rfl, rfl, trivial⟩, rfl⟩ ?_
      obtain ⟨y28, hy29, -, h⟩ := callO_some h
      refine JO.callg rfl rfl rfl rfl (fun q89 => ok_l_eqKeyS y22 y13 a24 c25 y22.length rfl a15 c16 y13.length rfl _ (hy29 q89)) rfl [3, 5] rfl rfl ?_
      refine JO.reg ttOk 2 [] [] [(41, .v (.bool (bif (!y26) then true else (!y28))))] _ rfl ⟨⟨rfl, trivial⟩, rfl⟩ ?_
      refine JO.done rfl ?_
      refine JS.cond rfl (fun ht102 => ?_) (fun ht102 => ?_)
      · have h := condT h ht102
        refine JS.seq ?_
        refine JS.region ?_
        refine JO.reg ttOk 1 [] [] [(2, .v (.bool false))] _ rfl ⟨⟨rfl, trivial⟩, rfl⟩ ?_
        refine JO.done rfl ?_
        cases h
        exact JS.ret ttOk () trivial rfl rfl [] rfl
      · have h := condF h ht102
        refine JS.skip ?_
        refine JS.seq ?_
        refine JS.seq ?_
        obtain ⟨y31, hy32, h⟩ := bindO_some h
        obtain ⟨y35, hy36, h⟩ := bindO_some h
        refine JS.regionA rfl (.new 2 24 [.int .i64 x0.1, .slice a2 x0.2.length c3] (.new 22 26 [.int .i64 y17.1, .slice a19 y17.2.length c20] .nil)) [] [] ⟨rfl, rfl, rfl, rfl, rfl, rfl, rfl, rfl, trivial⟩ rfl (fun be37 => ?_)
        refine JA.reg ttOk panic_cx true 3 [0, 1] rfl (by kernel_rfl) [] [(42, .v (.agg #[.int .i64 y17.1, .slice a19 y17.2.length c20])), (43, .v (.agg #[.int .i64 x0.1, .slice a2 x0.2.length c3]))] ⟨rfl, rfl, rfl, rfl, rfl, rfl, rfl, rfl, trivial⟩ [] rfl rfl ⟨rfl, rfl, trivial⟩ ?_
        refine JA.one 2 (by kernel_rfl) ?_
        refine JK.call rfl rfl rfl rfl (ok_l_toDec x0 a2 c3 x0.2.length rfl _ hy32) rfl [2] rfl rfl ?_
        rintro ⟨a33, c34⟩ -
        refine JA.next ⟨rfl, rfl, rfl, rfl, rfl, rfl, rfl, rfl, trivial⟩ [] rfl ?_
        refine JA.one 3 (by kernel_rfl) ?_
        refine JK.call rfl rfl rfl rfl (ok_l_eqDec y17 y31 a19 c20 y17.2.length rfl a33 c34 y31.2.length rfl _ hy36) rfl [5, 3] rfl rfl ?_
        intro _ _
        refine JA.next ⟨rfl, rfl, rfl, rfl, rfl, rfl, rfl, rfl, trivial⟩ [] rfl ?_
        refine JA.reg ttOk panic_cx true 0 [4] rfl (by kernel_rfl) [] [(42, .v (.agg #[.int .i64 y17.1, .slice a19 y17.2.length c20])), (43, .v (.agg #[.int .i64 x0.1, .slice a2 x0.2.length c3])), (44, .v (.agg #[.int .i64 y31.1, .slice a33 y31.2.length c34])), (45, .v (.bool y35)), (46, .v (.bool (!y35)))] ⟨rfl, rfl, rfl, rfl, rfl, rfl, rfl, rfl, trivial⟩ [] rfl rfl ⟨rfl, rfl, rfl, rfl, rfl, trivial⟩ ?_
        refine JA.done (by kernel_rfl) ?_
        refine JS.boxes (B' := (.new 2 24 [.int .i64 x0.1, .slice a2 x0.2.length c3] (.new 16 26 [.int .i64 y12.1, .slice none 0 0] (.new 22 26 [.int .i64 y17.1, .slice a19 y17.2.length c20] (.new 29 26 [.int .i64 y21.1, .slice none 0 0] .nil))))) ⟨rfl, rfl, rfl, rfl, rfl, rfl, rfl, rfl, rfl, rfl, rfl, rfl, rfl, rfl, rfl, rfl, trivial⟩ ?_
        refine JS.cond rfl (fun ht101 => ?_) (fun ht101 => ?_)
        · have h := condT h ht101
          refine JS.seq ?_
          refine JS.region ?_
          refine JO.reg ttOk 1 [] [] [(2, .v (.bool false))] _ rfl ⟨⟨rfl, trivial⟩, rfl⟩ ?_
          refine JO.done rfl ?_
          cases h
          exact JS.ret ttOk () trivial rfl rfl [] rfl
        · have h := condF h ht101
          refine JS.skip ?_
          refine JS.seq ?_
          refine JS.region ?_
          refine JO.reg ttOk 1 [] [] [(9, .v (.int .i64 1))] _ rfl ⟨⟨rfl, trivial⟩, rfl⟩ ?_
          refine JO.done rfl ?_
          refine JS.seq ?_
          refine JS.region ?_
          refine JO.reg ttOk 2 [] [] [(47, .v (.agg #[.int .i64 y17.1, .slice a19 y17.2.length c20])), (48, .v (.int .i64 1))] _ rfl ⟨⟨rfl, rfl, trivial⟩, rfl⟩ ?_
          obtain ⟨⟨y38, y39⟩, hy40, h⟩ := bindO_some h
          refine JO.callX rfl rfl rfl rfl (ok_l_markDec y17 1 a19 c20 y17.2.length rfl _ hy40) rfl [2] rfl [] rfl rfl ?_
          intro _ _
          refine JO.know 3 rfl fun hs41 => ?_
          refine JO.reg ttOk 1 [] [] [(9, .v (.int .i64 y38))] _ rfl ⟨⟨rfl, trivial⟩, rfl⟩ ?_
          refine JO.done rfl ?_
          refine JS.seq ?_
          refine JS.seq ?_
          refine JS.region ?_
          refine JO.reg ttOk 5 [] [] [(52, .v (.bool (decide (y38 < 0)))), (53, .cd [(52, false)] (.v (.agg #[.int .i64 y21.1, .slice none 0 0]))), (54, .cd [(52, false)] (.v (.agg #[.int .i64 y12.1, .slice none 0 0])))] _ rfl ⟨⟨rfl, rfl, rfl, trivial⟩, rfl⟩ ?_
          obtain ⟨y42, hy43, -, h⟩ := callO_some h
          refine JO.nilR .byte Sl.nil rfl rfl ?_
          refine JO.nilR .byte Sl.nil rfl rfl ?_
          refine JO.callg rfl rfl rfl rfl (fun q90 => ok_l_eqDec (y21.1, ([] : List UInt8)) (y12.1, ([] : List UInt8)) none 0 (([] : List UInt8).length) rfl none 0 (([] : List UInt8).length) rfl _ (hy43 q90)) rfl [1, 0] rfl rfl ?_
          refine JO.reg ttOk 5 [] [] [(58, .v (.bool (bif (decide (y38 < 0)) then true else (!y42)))), (59, .cd [(58, false)] (.v (.slice a24 y22.length c25))), (60, .cd [(58, false)] (.v (.slice a15 y13.length c16)))] _ rfl ⟨⟨rfl, rfl, rfl, trivial⟩, rfl⟩ ?_
          obtain ⟨y45, hy46, -, h⟩ := callO_some h
          refine JO.callg rfl rfl rfl rfl (fun q91 => ok_l_eqKeyS y22 y13 a24 c25 y22.length rfl a15 c16 y13.length rfl _ (hy46 q91)) rfl [7, 8] rfl rfl ?_
          refine JO.reg ttOk 2 [] [] [(63, .v (.bool (bif (bif (decide (y38 < 0)) then true else (!y42)) then true else (!y45))))] _ rfl ⟨⟨rfl, trivial⟩, rfl⟩ ?_
          refine JO.done rfl ?_
          refine JS.cond rfl (fun ht100 => ?_) (fun ht100 => ?_)
          · have h := condT h ht100
            refine JS.seq ?_
            refine JS.region ?_
            refine JO.reg ttOk 1 [] [] [(2, .v (.bool false))] _ rfl ⟨⟨rfl, trivial⟩, rfl⟩ ?_
            refine JO.done rfl ?_
            cases h
            exact JS.ret ttOk () trivial rfl rfl [] rfl
          · have h := condF h ht100
            refine JS.skip ?_
            refine JS.seq ?_
            refine JS.region ?_
            refine JO.reg ttOk 1 [] [] [(10, .v (.int .i64 1))] _ rfl ⟨⟨rfl, trivial⟩, rfl⟩ ?_
            refine JO.done rfl ?_
            refine JS.seq ?_
            refine JS.region ?_
            refine JO.reg ttOk 2 [] [] [(64, .v (.agg #[.int .i64 y21.1, .slice none 0 0])), (65, .v (.int .i64 1))] _ rfl ⟨⟨rfl, rfl, trivial⟩, rfl⟩ ?_
            obtain ⟨⟨y48, y49⟩, hy50, h⟩ := bindO_some h
            refine JO.nilO .byte Sl.nil rfl rfl ?_
            refine JO.callX rfl rfl rfl rfl (ok_l_markDec (y21.1, ([] : List UInt8)) 1 none 0 (([] : List UInt8).length) rfl _ hy50) rfl [0] rfl [] rfl rfl ?_
            intro _ _
            refine JO.know 5 rfl fun hs51 => ?_
            refine JO.reg ttOk 1 [] [] [(10, .v (.int .i64 y48))] _ rfl ⟨⟨rfl, trivial⟩, rfl⟩ ?_
            refine JO.done rfl ?_
            refine JS.seq ?_
            refine JS.region ?_
            refine JO.reg ttOk 2 [] [] [(67, .v (.slice a24 y22.length c25)), (68, .v (.int .i64 y48))] _ rfl ⟨⟨rfl, rfl, trivial⟩, rfl⟩ ?_
            obtain ⟨⟨y52, y53⟩, hy54, h⟩ := bindO_some h
            refine JO.callX rfl rfl rfl rfl (ok_l_markKeyS y22 y48 a24 c25 y22.length rfl _ hy54) rfl [3] rfl [] rfl rfl ?_
            intro _ _
            refine JO.know 5 rfl fun hs55 => ?_
            refine JO.reg ttOk 1 [] [] [(10, .v (.int .i64 y52))] _ rfl ⟨⟨rfl, trivial⟩, rfl⟩ ?_
            refine JO.done rfl ?_
            refine JS.seq ?_
            refine JS.region ?_
            refine JO.reg ttOk 1 [] [] [(11, .v (.int .i64 1))] _ rfl ⟨⟨rfl, trivial⟩, rfl⟩ ?_
            refine JO.done rfl ?_
            refine JS.seq ?_
            refine JS.region ?_
            refine JO.reg ttOk 2 [] [] [(70, .v (.agg #[.int .i64 y21.1, .slice none 0 0])), (71, .v (.int .i64 1))] _ rfl ⟨⟨rfl, rfl, trivial⟩, rfl⟩ ?_
            obtain ⟨y56, hy57, h⟩ := bindO_some h
            refine JO.nilR .byte Sl.nil rfl rfl ?_
            refine JO.call rfl rfl rfl rfl (ok_l_heldDec (y21.1, ([] : List UInt8)) 1 none 0 (([] : List UInt8).length) rfl _ hy57) rfl [0] rfl rfl ?_
            intro _ _
            refine JO.reg ttOk 1 [] [] [(11, .v (.int .i64 y56))] _ rfl ⟨⟨rfl, trivial⟩, rfl⟩ ?_
            refine JO.done rfl ?_
            refine JS.seq ?_
            refine JS.seq ?_
            refine JS.region ?_
            refine JO.reg ttOk 2 [] [] [(74, .v (.bool (decide (y56 < 0))))] _ rfl ⟨⟨rfl, trivial⟩, rfl⟩ ?_
            refine JO.done rfl ?_
            refine JS.cond rfl (fun ht99 => ?_) (fun ht99 => ?_)
            · have h := condT h ht99
              refine JS.seq ?_
              refine JS.region ?_
              refine JO.reg ttOk 1 [] [] [(2, .v (.bool false))] _ rfl ⟨⟨rfl, trivial⟩, rfl⟩ ?_
              refine JO.done rfl ?_
              cases h
              exact JS.ret ttOk () trivial rfl rfl [] rfl
            · have h := condF h ht99
              refine JS.skip ?_
              refine JS.seq ?_
              refine JS.region ?_
              refine JO.reg ttOk 2 [] [] [(75, .v (.slice a24 y22.length c25)), (76, .v (.int .i64 y56))] _ rfl ⟨⟨rfl, rfl, trivial⟩, rfl⟩ ?_
              obtain ⟨y58, hy59, h⟩ := bindO_some h
              refine JO.call rfl rfl rfl rfl (ok_l_heldKeyS y53 y56 a24 c25 y22.length hs55.len.symm _ hy59) rfl [6] rfl rfl ?_
              intro _ _
              refine JO.reg ttOk 1 [] [] [(11, .v (.int .i64 y58))] _ rfl ⟨⟨rfl, trivial⟩, rfl⟩ ?_
              refine JO.done rfl ?_
              refine JS.seq ?_
              refine JS.seq ?_
              refine JS.region ?_
              refine JO.reg ttOk 2 [] [] [(79, .v (.bool (decide (y58 < 0))))] _ rfl ⟨⟨rfl, trivial⟩, rfl⟩ ?_
              refine JO.done rfl ?_
              refine JS.cond rfl (fun ht98 => ?_) (fun ht98 => ?_)
              · have h := condT h ht98
                refine JS.seq ?_
                refine JS.region ?_
                refine JO.reg ttOk 1 [] [] [(2, .v (.bool false))] _ rfl ⟨⟨rfl, trivial⟩, rfl⟩ ?_
                refine JO.done rfl ?_
                cases h
                exact JS.ret ttOk () trivial rfl rfl [] rfl
              · have h := condF h ht98
                refine JS.skip ?_
                refine JS.seq ?_
                refine JS.seq ?_
                refine JS.region ?_
                refine JO.reg ttOk 3 [] [] [(82, .v (.bool (!(decide (y58 = y52)))))] _ rfl ⟨⟨rfl, trivial⟩, rfl⟩ ?_
                refine JO.done rfl ?_
                refine JS.cond rfl (fun ht97 => ?_) (fun ht97 => ?_)
                · have h := condT h ht97
                  refine JS.seq ?_
                  refine JS.region ?_
                  refine JO.reg ttOk 1 [] [] [(2, .v (.bool false))] _ rfl ⟨⟨rfl, trivial⟩, rfl⟩ ?_
                  refine JO.done rfl ?_
                  cases h
                  exact JS.ret ttOk () trivial rfl rfl [] rfl
                · have h := condF h ht97
                  refine JS.skip ?_
                  refine JS.seq ?_
                  refine JS.region ?_
                  refine JO.reg ttOk 1 [] [] [(84, .v (.agg #[.int .i64 x0.1, .slice a2 x0.2.length c3]))] _ rfl ⟨⟨rfl, trivial⟩, rfl⟩ ?_
                  obtain ⟨y60, hy61, h⟩ := bindO_some h
                  refine JO.call rfl rfl rfl rfl (ok_l_toDec x0 a2 c3 x0.2.length rfl _ hy61) rfl [5] rfl rfl ?_
                  rintro ⟨a62, c63⟩ -
                  obtain ⟨⟨y64, y65⟩, hy66, h⟩ := bindO_some h
                  refine JO.call rfl rfl rfl rfl (ok_i_DecTick y60 a62 c63 y60.2.length rfl _ hy66) rfl [6] rfl rfl ?_
                  rintro ⟨a67, c68⟩ -
                  refine JO.regB ttOk 6 [] [79] [(12, .bp 79 0), (13, .v (.slice a67 y65.length c68))] (.new 16 26 [.int .i64 y12.1, .slice none 0 0] (.new 29 26 [.int .i64 y21.1, .slice none 0 0] (.new 79 26 [.int .i64 y64.1, .slice none 0 0] .nil))) rfl ⟨⟨rfl, rfl, trivial⟩, ⟨rfl, rfl, rfl, rfl, rfl, rfl, rfl, rfl, rfl, rfl, rfl, rfl, trivial⟩⟩ ?_
                  refine JO.done rfl ?_
                  refine JS.seq ?_
                  refine JS.seq ?_
                  refine JS.region ?_
                  refine JO.reg ttOk 2 [] [] [(89, .v (.agg #[.int .i64 y64.1, .slice none 0 0])), (90, .v (.agg #[.int .i64 y12.1, .slice none 0 0]))] _ rfl ⟨⟨rfl, rfl, trivial⟩, rfl⟩ ?_
                  obtain ⟨y69, hy70, h⟩ := bindO_some h
                  refine JO.nilR .byte Sl.nil rfl rfl ?_
                  refine JO.nilR .byte Sl.nil rfl rfl ?_
                  refine JO.call rfl rfl rfl rfl (ok_l_eqDec (y64.1, ([] : List UInt8)) (y12.1, ([] : List UInt8)) none 0 (([] : List UInt8).length) rfl none 0 (([] : List UInt8).length) rfl _ hy70) rfl [1, 0] rfl rfl ?_
                  intro _ _
                  refine JO.reg ttOk 4 [] [] [(93, .v (.bool (!y69))), (94, .cd [(93, false)] (.v (.slice a67 y65.length c68))), (95, .cd [(93, false)] (.v (.slice a15 y13.length c16)))] _ rfl ⟨⟨rfl, rfl, rfl, trivial⟩, rfl⟩ ?_
                  obtain ⟨y71, hy72, -, h⟩ := callO_some h
                  refine JO.callg rfl rfl rfl rfl (fun q92 => ok_l_eqKeyS y65 y13 a67 c68 y65.length rfl a15 c16 y13.length rfl _ (hy72 q92)) rfl [8, 14] rfl rfl ?_
                  refine JO.reg ttOk 2 [] [] [(98, .v (.bool (bif (!y69) then true else (!y71))))] _ rfl ⟨⟨rfl, trivial⟩, rfl⟩ ?_
                  refine JO.done rfl ?_
                  refine JS.cond rfl (fun ht96 => ?_) (fun ht96 => ?_)
                  · have h := condT h ht96
                    refine JS.seq ?_
                    refine JS.region ?_
                    refine JO.reg ttOk 1 [] [] [(2, .v (.bool false))] _ rfl ⟨⟨rfl, trivial⟩, rfl⟩ ?_
                    refine JO.done rfl ?_
                    cases h
                    exact JS.ret ttOk () trivial rfl rfl [] rfl
                  · have h := condF h ht96
                    refine JS.skip ?_
                    refine JS.seq ?_
                    refine JS.region ?_
                    refine JO.reg ttOk 1 [] [] [(11, .v (.int .i64 1))] _ rfl ⟨⟨rfl, trivial⟩, rfl⟩ ?_
                    refine JO.done rfl ?_
                    refine JS.seq ?_
                    refine JS.region ?_
                    refine JO.reg ttOk 2 [] [] [(99, .v (.agg #[.int .i64 y21.1, .slice none 0 0])), (100, .v (.int .i64 1))] _ rfl ⟨⟨rfl, rfl, trivial⟩, rfl⟩ ?_
                    obtain ⟨y74, hy75, h⟩ := bindO_some h
                    refine JO.nilR .byte Sl.nil rfl rfl ?_
                    refine JO.call rfl rfl rfl rfl (ok_l_heldDec (y21.1, ([] : List UInt8)) 1 none 0 (([] : List UInt8).length) rfl _ hy75) rfl [0] rfl rfl ?_
                    intro _ _
                    refine JO.reg ttOk 1 [] [] [(11, .v (.int .i64 y74))] _ rfl ⟨⟨rfl, trivial⟩, rfl⟩ ?_
                    refine JO.done rfl ?_
                    refine JS.seq ?_
                    refine JS.seq ?_
                    refine JS.region ?_
                    refine JO.reg ttOk 2 [] [] [(103, .v (.bool (decide (y74 < 0))))] _ rfl ⟨⟨rfl, trivial⟩, rfl⟩ ?_
                    refine JO.done rfl ?_
                    refine JS.cond rfl (fun ht95 => ?_) (fun ht95 => ?_)
                    · have h := condT h ht95
                      refine JS.seq ?_
                      refine JS.region ?_
                      refine JO.reg ttOk 1 [] [] [(2, .v (.bool false))] _ rfl ⟨⟨rfl, trivial⟩, rfl⟩ ?_
                      refine JO.done rfl ?_
                      cases h
                      exact JS.ret ttOk () trivial rfl rfl [] rfl
                    · have h := condF h ht95
                      refine JS.skip ?_
                      refine JS.seq ?_
                      refine JS.region ?_
                      refine JO.reg ttOk 2 [] [] [(104, .v (.slice a24 y22.length c25)), (105, .v (.int .i64 y74))] _ rfl ⟨⟨rfl, rfl, trivial⟩, rfl⟩ ?_
                      obtain ⟨y76, hy77, h⟩ := bindO_some h
                      refine JO.call rfl rfl rfl rfl (ok_l_heldKeyS y53 y74 a24 c25 y22.length hs55.len.symm _ hy77) rfl [11] rfl rfl ?_
                      intro _ _
                      refine JO.reg ttOk 1 [] [] [(11, .v (.int .i64 y76))] _ rfl ⟨⟨rfl, trivial⟩, rfl⟩ ?_
                      refine JO.done rfl ?_
                      refine JS.seq ?_
                      refine JS.seq ?_
                      refine JS.region ?_
                      refine JO.reg ttOk 2 [] [] [(108, .v (.bool (decide (y76 < 0))))] _ rfl ⟨⟨rfl, trivial⟩, rfl⟩ ?_
                      refine JO.done rfl ?_
                      refine JS.cond rfl (fun ht94 => ?_) (fun ht94 => ?_)
                      · have h := condT h ht94
                        refine JS.seq ?_
                        refine JS.region ?_
                        refine JO.reg ttOk 1 [] [] [(2, .v (.bool false))] _ rfl ⟨⟨rfl, trivial⟩, rfl⟩ ?_
                        refine JO.done rfl ?_
                        cases h
                        exact JS.ret ttOk () trivial rfl rfl [] rfl
                      · have h := condF h ht94
                        refine JS.skip ?_
                        refine JS.seq ?_
                        refine JS.seq ?_
                        refine JS.region ?_
                        refine JO.reg ttOk 3 [] [] [(111, .v (.bool (!(decide (y76 = y52)))))] _ rfl ⟨⟨rfl, trivial⟩, rfl⟩ ?_
                        refine JO.done rfl ?_
                        refine JS.cond rfl (fun ht93 => ?_) (fun ht93 => ?_)
                        · have h := condT h ht93
                          refine JS.seq ?_
                          refine JS.region ?_
                          refine JO.reg ttOk 1 [] [] [(2, .v (.bool false))] _ rfl ⟨⟨rfl, trivial⟩, rfl⟩ ?_
                          refine JO.done rfl ?_
                          cases h
                          exact JS.ret ttOk () trivial rfl rfl [] rfl
                        · have h := condF h ht93
                          refine JS.skip ?_
                          refine JS.seq ?_
                          refine JS.region ?_
                          refine JO.reg ttOk 1 [] [] [(2, .v (.bool true))] _ rfl ⟨⟨rfl, trivial⟩, rfl⟩ ?_
                          refine JO.done rfl ?_
                          cases h
                          exact JS.ret ttOk () trivial rfl rfl [] rfl

end
end Go.Eng
