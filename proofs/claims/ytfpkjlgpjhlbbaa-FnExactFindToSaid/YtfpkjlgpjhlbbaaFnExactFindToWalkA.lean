/- The walks of the functions that FnExactFindTo reaches: what each computes, as a plain function (M_..), and that the model computes it (ok_..). Condition of each: that the plain function answers. -/
import Derived.Test.YtfpkjlgpjhlbbaaEngA
import Derived.Test.YtfpkjlgpjhlbbaaChecked
set_option linter.unusedVariables false
set_option linter.unusedSimpArgs false
namespace Go.Eng
open Go Go.Proofs
noncomputable section

def TTx : TT := [
  (2, ⟨.int .i64, 1, 8, [.int .i64 0]⟩),
  (3, ⟨.int .i64, 1, 8, [.int .i64 0]⟩),
  (4, ⟨.bool, 1, 1, [.bool false]⟩),
  (5, ⟨.int .u8, 1, 1, [.int .u8 0]⟩),
  (6, ⟨.int .u8, 1, 1, [.int .u8 0]⟩),
  (7, ⟨.struct [(0, 2), (1, 3), (2, 4), (3, 6)], 4, 24, [.int .i64 0, .int .i64 0, .bool false, .int .u8 0]⟩),
  (8, ⟨.struct [(0, 2), (1, 3), (2, 4), (3, 6)], 4, 24, [.int .i64 0, .int .i64 0, .bool false, .int .u8 0]⟩),
  (9, ⟨.str, 1, 16, [.string ByteArray.empty]⟩),
  (10, ⟨.str, 1, 16, [.string ByteArray.empty]⟩),
  (11, ⟨.str, 1, 16, [.string ByteArray.empty]⟩),
  (12, ⟨.int .u64, 1, 8, [.int .u64 0]⟩),
  (13, ⟨.struct [(0, 9), (1, 12)], 2, 24, [.string ByteArray.empty, .int .u64 0]⟩),
  (14, ⟨.struct [(0, 9), (1, 12)], 2, 24, [.string ByteArray.empty, .int .u64 0]⟩),
  (21, ⟨.int .i32, 1, 4, [.int .i32 0]⟩),
  (29, ⟨.struct [(0, 3), (1, 3), (2, 9), (3, 3)], 4, 40, [.int .i64 0, .int .i64 0, .string ByteArray.empty, .int .i64 0]⟩),
  (30, ⟨.struct [(0, 3), (1, 3), (2, 9), (3, 3)], 4, 40, [.int .i64 0, .int .i64 0, .string ByteArray.empty, .int .i64 0]⟩),
  (34, ⟨.slice 3, 1, 24, [.slice none 0 0]⟩),
  (52, ⟨.int .u32, 1, 4, [.int .u32 0]⟩),
  (53, ⟨.int .u8, 1, 1, [.int .u8 0]⟩),
  (54, ⟨.int .u8, 1, 1, [.int .u8 0]⟩),
  (57, ⟨.int .i32, 1, 4, [.int .i32 0]⟩),
  (58, ⟨.int .i32, 1, 4, [.int .i32 0]⟩)]

theorem ttOk : TTok Try.prog TTx := TTok.of (by
  simp only [TTx, List.forall_mem_cons]
  exact ⟨⟨⟨_, _, rfl, rfl, rfl, rfl, rfl⟩, rfl⟩, ⟨⟨_, _, rfl, rfl, rfl, rfl, rfl⟩, rfl⟩, ⟨⟨_, _, rfl, rfl, rfl, rfl, rfl⟩, rfl⟩, ⟨⟨_, _, rfl, rfl, rfl, rfl, rfl⟩, rfl⟩, ⟨⟨_, _, rfl, rfl, rfl, rfl, rfl⟩, rfl⟩, ⟨⟨_, _, rfl, rfl, rfl, rfl, rfl⟩, ⟨_, rfl, rfl⟩⟩, ⟨⟨_, _, rfl, rfl, rfl, rfl, rfl⟩, ⟨_, rfl, rfl⟩⟩, ⟨⟨_, _, rfl, rfl, rfl, rfl, rfl⟩, rfl⟩, ⟨⟨_, _, rfl, rfl, rfl, rfl, rfl⟩, rfl⟩, ⟨⟨_, _, rfl, rfl, rfl, rfl, rfl⟩, rfl⟩, ⟨⟨_, _, rfl, rfl, rfl, rfl, rfl⟩, rfl⟩, ⟨⟨_, _, rfl, rfl, rfl, rfl, rfl⟩, ⟨_, rfl, rfl⟩⟩, ⟨⟨_, _, rfl, rfl, rfl, rfl, rfl⟩, ⟨_, rfl, rfl⟩⟩, ⟨⟨_, _, rfl, rfl, rfl, rfl, rfl⟩, rfl⟩, ⟨⟨_, _, rfl, rfl, rfl, rfl, rfl⟩, ⟨_, rfl, rfl⟩⟩, ⟨⟨_, _, rfl, rfl, rfl, rfl, rfl⟩, ⟨_, rfl, rfl⟩⟩, ⟨⟨_, _, rfl, rfl, rfl, rfl, rfl⟩, rfl⟩, ⟨⟨_, _, rfl, rfl, rfl, rfl, rfl⟩, rfl⟩, ⟨⟨_, _, rfl, rfl, rfl, rfl, rfl⟩, rfl⟩, ⟨⟨_, _, rfl, rfl, rfl, rfl, rfl⟩, rfl⟩, ⟨⟨_, _, rfl, rfl, rfl, rfl, rfl⟩, rfl⟩, ⟨⟨_, _, rfl, rfl, rfl, rfl, rfl⟩, rfl⟩, by simp⟩)

def M_l_toIntS_L1 (x0 : List Int) (j25 : (List Int) → Option (List Int)) (k15 : (List Int × Int) → Option (List Int)) : (List Int × Int) → Option (List Int) := fun (x6, x9) =>
  (bif (decide (x9 < (x0.length : Int))) then
  (guardO (0 ≤ x9 ∧ x9 < (x0.length : Int)) <|
  (guardO (0 ≤ x9 ∧ x9 < (x6.length : Int)) <|
  k15 ((List.set x6 (Int.toNat x9) (at' x0 x9)), (W (x9 + 1)))))
  else
  j25 x6)

def M_l_toIntS (x0 : List Int) : Option (List Int) :=
  (guardO (x0.length ≤ 536870912) <|
  (joinO (fun (x22 : List Int) =>
  some x22) fun j25 =>
  (fixF (M_l_toIntS_L1 x0 j25) FUEL ((List.replicate x0.length (0 : Int)), 0))))

theorem ok_l_toIntS (x0 : List Int) (a2 : Option Addr) (c3 : Nat) (r : List Int) (h : M_l_toIntS x0 = some r) :
    FC Try.prog 24 [.slice a2 x0.length c3] [⟨(.int .i64), ⟨a2, x0.length, c3⟩, x0⟩] (fun _ : Option Addr × Nat => True) (fun q => .slice q.1 r.length q.2) (fun q => [⟨(.int .i64), ⟨q.1, r.length, q.2⟩, r⟩]) :=
  FC.of (T := TTx) Try.call24 Try.func24 rfl rfl fun w0 => by
    unfold M_l_toIntS at h
    refine JS.seq ?_
    refine JS.region ?_
    refine JO.reg ttOk 1 [] [] [] _ rfl ⟨trivial, rfl⟩ ?_
    refine JO.done rfl ?_
    refine JS.seq ?_
    refine JS.region ?_
    refine JO.reg ttOk 2 [] [] [(6, .v (.int .i64 (x0.length : Int)))] _ rfl ⟨⟨rfl, trivial⟩, rfl⟩ ?_
    obtain ⟨g32, h⟩ := guardO_some h
    refine JO.makeSlice ttOk rfl rfl rfl rfl rfl rfl rfl rfl x0.length rfl g32 (.int .i64) rfl rfl rfl rfl rfl ?_
    intro a5
    refine JO.reg ttOk 1 [] [] [(3, .v (.slice a5 x0.length x0.length))] _ rfl ⟨⟨rfl, trivial⟩, rfl⟩ ?_
    refine JO.done rfl ?_
    refine JS.seq ?_
    refine JS.seq ?_
    refine JS.region ?_
    refine JO.reg ttOk 1 [] [] [(4, .v (.int .i64 0))] _ rfl ⟨⟨rfl, trivial⟩, rfl⟩ ?_
    refine JO.done rfl ?_
    obtain ⟨j25, hj38, h⟩ := joinO_some h
    refine JS.blockJ (ι := List Int × Option Addr × Nat) ⟨fun z => j25 z.1 = some r, fun z => [(3, .v (.slice z.2.1 z.1.length z.2.2))], fun z => .nil, fun z => [], fun z => [⟨(.int .i64), ⟨z.2.1, z.1.length, z.2.2⟩, z.1⟩], fun z => 0⟩ ?_ ?_
    · refine JS.loop (ι := Nat × List Int × Int × Option Addr × Nat) ⟨fun z => fixF (M_l_toIntS_L1 x0 j25) z.1 (z.2.1, z.2.2.1) = some r, fun z => [(0, .v (.slice a2 x0.length c3)), (3, .v (.slice z.2.2.2.1 z.2.1.length z.2.2.2.2)), (4, .v (.int .i64 z.2.2.1))], fun z => .nil, fun z => [⟨(.int .i64), ⟨a2, x0.length, c3⟩, x0⟩], fun z => [⟨(.int .i64), ⟨z.2.2.2.1, z.2.1.length, z.2.2.2.2⟩, z.2.1⟩], fun z => z.1⟩ (FUEL, (List.replicate x0.length (0 : Int)), 0, a5, x0.length) h ⟨rfl, (by simp only [List.length_set, List.length_replicate, pickO, getF]; rfl), rfl, trivial⟩ trivial [0] rfl [0] (by simp only [List.length_set, List.length_replicate, pickO, getF]; rfl) ?_
      rintro ⟨n16, x6, x9, a7, c8⟩ h
      obtain ⟨n16, rfl, h⟩ := fixF_some h
      rw [M_l_toIntS_L1] at h
      refine JS.seq ?_
      refine JS.seq ?_
      refine JS.region ?_
      refine JO.reg ttOk 4 [] [] [(11, .v (.bool (decide (x9 < (x0.length : Int)))))] _ rfl ⟨⟨rfl, trivial⟩, rfl⟩ ?_
      refine JO.done rfl ?_
      refine JS.cond rfl (fun ht37 => ?_) (fun ht37 => ?_)
      · have h := condT h ht37
        refine JS.skip ?_
        refine JS.seq ?_
        refine JS.block ?_
        refine JS.region ?_
        refine JO.know 0 rfl fun hs33 => ?_
        obtain ⟨g34, h⟩ := guardO_some h
        refine JO.reg ttOk 5 [] [] [(14, .v (.slice a7 x6.length c8)), (15, .v (.int .i64 x9)), (18, .ep ⟨a2, x0.length, c3⟩ (Int.toNat x9 * 1))] _ rfl ⟨hs33.ix g34, ⟨rfl, rfl, rfl, trivial⟩, rfl⟩ ?_
        refine JO.load ttOk rfl rfl rfl rfl rfl rfl rfl 0 rfl rfl (Int.toNat x9) 0 (at' x0 x9) ⟨at_some g34, rfl⟩ rfl rfl ?_
        refine JO.know 1 rfl fun hs35 => ?_
        obtain ⟨g36, h⟩ := guardO_some h
        refine JO.reg ttOk 1 [] [] [(20, .ep ⟨a7, x6.length, c8⟩ (Int.toNat x9 * 1))] _ rfl ⟨hs35.ix g36, ⟨rfl, trivial⟩, rfl⟩ ?_
        refine JO.storeE ttOk rfl rfl rfl rfl rfl rfl rfl rfl rfl [0] (fs := []) rfl (Int.toNat x9) 0 (at' x6 x9) (at' x0 x9) ⟨at_some g36, rfl⟩ ⟨rfl, rfl, rfl⟩ ?_
        refine JO.done rfl ?_
        refine JS.endB ?_
        refine JS.region ?_
        refine JO.reg ttOk 3 [(W (x9 + 1))] [] [(4, .v (.int .i64 (W (x9 + 1))))] _ rfl ⟨⟨trivial, rfl⟩, ⟨rfl, trivial⟩, rfl⟩ ?_
        refine JO.done rfl ?_
        exact JS.endL (n16, (List.set x6 (Int.toNat x9) (at' x0 x9)), (W (x9 + 1)), a7, c8) h (Nat.lt_succ_self _) ⟨rfl, (by simp only [List.length_set, List.length_replicate, pickO, getF]; rfl), rfl, trivial⟩ trivial [0] rfl [0] (by simp only [List.length_set, List.length_replicate, pickO, getF]; rfl)
      · have h := condF h ht37
        refine JS.exit rfl ?_
        exact JS.endJ (x6, a7, c8) h ⟨rfl, trivial⟩ trivial [] rfl [0] rfl
    · rintro ⟨x22, a23, c24⟩ h
      subst hj38
      refine JS.seq ?_
      refine JS.region ?_
      refine JO.reg ttOk 2 [] [] [(2, .v (.slice a23 x22.length c24))] _ rfl ⟨⟨rfl, trivial⟩, rfl⟩ ?_
      refine JO.done rfl ?_
      cases h
      exact JS.ret ttOk (a23, c24) trivial rfl rfl [0] rfl

def M_s_l08Clamp (x0 : Int) (x1 : Int) : Option Int :=
  (bif (decide (x0 < 0)) then
  some 0
  else
  (bif (decide (x1 < x0)) then
  some x1
  else
  some x0))

theorem ok_s_l08Clamp (x0 : Int) (x1 : Int) (r : Int) (h : M_s_l08Clamp x0 x1 = some r) :
    FC Try.prog 30 [.int .i64 x0, .int .i64 x1] [] (fun _ : Unit => True) (fun _ => .int .i64 r) (fun _ => []) :=
  FC.of (T := TTx) Try.call30 Try.func30 rfl rfl fun w0 => by
    unfold M_s_l08Clamp at h
    refine JS.seq ?_
    refine JS.region ?_
    refine JO.reg ttOk 1 [] [] [] _ rfl ⟨trivial, rfl⟩ ?_
    refine JO.done rfl ?_
    refine JS.seq ?_
    refine JS.seq ?_
    refine JS.region ?_
    refine JO.reg ttOk 2 [] [] [(6, .v (.bool (decide (x0 < 0))))] _ rfl ⟨⟨rfl, trivial⟩, rfl⟩ ?_
    refine JO.done rfl ?_
    refine JS.cond rfl (fun ht6 => ?_) (fun ht6 => ?_)
    · have h := condT h ht6
      refine JS.seq ?_
      refine JS.region ?_
      refine JO.reg ttOk 1 [] [] [(4, .v (.int .i64 0))] _ rfl ⟨⟨rfl, trivial⟩, rfl⟩ ?_
      refine JO.done rfl ?_
      cases h
      exact JS.ret ttOk () trivial rfl rfl [] rfl
    · have h := condF h ht6
      refine JS.skip ?_
      refine JS.seq ?_
      refine JS.seq ?_
      refine JS.region ?_
      refine JO.reg ttOk 3 [] [] [(9, .v (.bool (decide (x1 < x0))))] _ rfl ⟨⟨rfl, trivial⟩, rfl⟩ ?_
      refine JO.done rfl ?_
      refine JS.cond rfl (fun ht5 => ?_) (fun ht5 => ?_)
      · have h := condT h ht5
        refine JS.seq ?_
        refine JS.region ?_
        refine JO.reg ttOk 2 [] [] [(4, .v (.int .i64 x1))] _ rfl ⟨⟨rfl, trivial⟩, rfl⟩ ?_
        refine JO.done rfl ?_
        cases h
        exact JS.ret ttOk () trivial rfl rfl [] rfl
      · have h := condF h ht5
        refine JS.skip ?_
        refine JS.seq ?_
        refine JS.region ?_
        refine JO.reg ttOk 2 [] [] [(4, .v (.int .i64 x0))] _ rfl ⟨⟨rfl, trivial⟩, rfl⟩ ?_
        refine JO.done rfl ?_
        cases h
        exact JS.ret ttOk () trivial rfl rfl [] rfl

def M_s_l22Times (x0 : Int) : Option Int :=
  (bif (decide (x0 < 1)) then
  some 1
  else
  (bif (decide (999 < x0)) then
  some 999
  else
  some x0))

theorem ok_s_l22Times (x0 : Int) (r : Int) (h : M_s_l22Times x0 = some r) :
    FC Try.prog 37 [.int .i64 x0] [] (fun _ : Unit => True) (fun _ => .int .i64 r) (fun _ => []) :=
  FC.of (T := TTx) Try.call37 Try.func37 rfl rfl fun w0 => by
    unfold M_s_l22Times at h
    refine JS.seq ?_
    refine JS.region ?_
    refine JO.reg ttOk 1 [] [] [] _ rfl ⟨trivial, rfl⟩ ?_
    refine JO.done rfl ?_
    refine JS.seq ?_
    refine JS.seq ?_
    refine JS.region ?_
    refine JO.reg ttOk 2 [] [] [(4, .v (.bool (decide (x0 < 1))))] _ rfl ⟨⟨rfl, trivial⟩, rfl⟩ ?_
    refine JO.done rfl ?_
    refine JS.cond rfl (fun ht5 => ?_) (fun ht5 => ?_)
    · have h := condT h ht5
      refine JS.seq ?_
      refine JS.region ?_
      refine JO.reg ttOk 1 [] [] [(2, .v (.int .i64 1))] _ rfl ⟨⟨rfl, trivial⟩, rfl⟩ ?_
      refine JO.done rfl ?_
      cases h
      exact JS.ret ttOk () trivial rfl rfl [] rfl
    · have h := condF h ht5
      refine JS.skip ?_
      refine JS.seq ?_
      refine JS.seq ?_
      refine JS.region ?_
      refine JO.reg ttOk 2 [] [] [(6, .v (.bool (decide (999 < x0))))] _ rfl ⟨⟨rfl, trivial⟩, rfl⟩ ?_
      refine JO.done rfl ?_
      refine JS.cond rfl (fun ht4 => ?_) (fun ht4 => ?_)
      · have h := condT h ht4
        refine JS.seq ?_
        refine JS.region ?_
        refine JO.reg ttOk 1 [] [] [(2, .v (.int .i64 999))] _ rfl ⟨⟨rfl, trivial⟩, rfl⟩ ?_
        refine JO.done rfl ?_
        cases h
        exact JS.ret ttOk () trivial rfl rfl [] rfl
      · have h := condF h ht4
        refine JS.skip ?_
        refine JS.seq ?_
        refine JS.region ?_
        refine JO.reg ttOk 2 [] [] [(2, .v (.int .i64 x0))] _ rfl ⟨⟨rfl, trivial⟩, rfl⟩ ?_
        refine JO.done rfl ?_
        cases h
        exact JS.ret ttOk () trivial rfl rfl [] rfl

def M_s_FindRune_L1 (x0 : List Int) (x2 : Int) (x10 : Int) (x14 : Int) (j32 : Unit → Option Int) (k24 : Int → Option Int) : Int → Option Int := fun x17 =>
  (bif (bif (decide (0 ≤ x17)) then (decide (x17 < (x0.length : Int))) else false) then
  (guardO (((bif (decide (0 ≤ (W (x17 + x14)))) then (decide ((W (x17 + x14)) < (x0.length : Int))) else false) = true) → 0 ≤ (W (x17 + x14)) ∧ (W (x17 + x14)) < (x0.length : Int)) <|
  (bif (bif (bif (decide (0 ≤ (W (x17 + x14)))) then (decide ((W (x17 + x14)) < (x0.length : Int))) else false) then (decide ((at' x0 (W (x17 + x14))) = x2)) else false) then
  some x17
  else
  k24 (W (x17 + x10))))
  else
  j32 ())

def M_s_FindRune (x0 : List Int) (x1 : Int) (x2 : Int) (x3 : Int) : Option Int :=
  (bindO (M_s_l08Clamp x1 (x0.length : Int)) fun (y7 : Int) =>
  (bif (bif (decide (x3 < 0)) then true else (decide (3 < x3))) then
  some (-1)
  else
  (joinO (fun (x10 : Int) =>
  (joinO (fun (x14 : Int) =>
  (joinO (fun (_ : Unit) =>
  some (-1)) fun j32 =>
  (fixF (M_s_FindRune_L1 x0 x2 x10 x14 j32) FUEL (W (y7 + x10))))) fun j15 =>
  (bif (decide (2 ≤ x3)) then
  j15 x10
  else
  j15 0))) fun j11 =>
  (bif (bif (decide (x3 = 1)) then true else (decide (x3 = 3))) then
  j11 (-1)
  else
  j11 1))))

theorem ok_s_FindRune (x0 : List Int) (x1 : Int) (x2 : Int) (x3 : Int) (a5 : Option Addr) (c6 : Nat) (r : Int) (h : M_s_FindRune x0 x1 x2 x3 = some r) :
    FC Try.prog 38 [.slice a5 x0.length c6, .int .i64 x1, .int .i64 x2, .int .i64 x3] [⟨(.int .i64), ⟨a5, x0.length, c6⟩, x0⟩] (fun _ : Unit => True) (fun _ => .int .i64 r) (fun _ => []) :=
  FC.of (T := TTx) Try.call38 Try.func38 rfl rfl fun w0 => by
    unfold M_s_FindRune at h
    refine JS.seq ?_
    refine JS.region ?_
    refine JO.reg ttOk 1 [] [] [] _ rfl ⟨trivial, rfl⟩ ?_
    refine JO.done rfl ?_
    refine JS.seq ?_
    refine JS.region ?_
    refine JO.reg ttOk 3 [] [] [(13, .v (.int .i64 x1)), (15, .v (.int .i64 (x0.length : Int)))] _ rfl ⟨⟨rfl, rfl, trivial⟩, rfl⟩ ?_
    obtain ⟨y7, hy43, h⟩ := bindO_some h
    refine JO.call rfl rfl rfl rfl (ok_s_l08Clamp x1 (x0.length : Int) _ hy43) rfl [] rfl rfl ?_
    intro _ _
    refine JO.reg ttOk 1 [] [] [(1, .v (.int .i64 y7))] _ rfl ⟨⟨rfl, trivial⟩, rfl⟩ ?_
    refine JO.done rfl ?_
    refine JS.seq ?_
    refine JS.seq ?_
    refine JS.region ?_
    refine JO.reg ttOk 6 [] [] [(22, .v (.bool (bif (decide (x3 < 0)) then true else (decide (3 < x3)))))] _ rfl ⟨⟨rfl, trivial⟩, rfl⟩ ?_
    refine JO.done rfl ?_
    refine JS.cond rfl (fun ht55 => ?_) (fun ht55 => ?_)
    · have h := condT h ht55
      refine JS.seq ?_
      refine JS.region ?_
      refine JO.reg ttOk 1 [] [] [(8, .v (.int .i64 (-1)))] _ rfl ⟨⟨rfl, trivial⟩, rfl⟩ ?_
      refine JO.done rfl ?_
      cases h
      exact JS.ret ttOk () trivial rfl rfl [] rfl
    · have h := condF h ht55
      refine JS.skip ?_
      refine JS.seq ?_
      refine JS.region ?_
      refine JO.reg ttOk 1 [] [] [(9, .v (.int .i64 1))] _ rfl ⟨⟨rfl, trivial⟩, rfl⟩ ?_
      refine JO.done rfl ?_
      refine JS.seq ?_
      refine JS.region ?_
      refine JO.reg ttOk 1 [] [] [(10, .v (.int .i64 0))] _ rfl ⟨⟨rfl, trivial⟩, rfl⟩ ?_
      refine JO.done rfl ?_
      obtain ⟨j11, hj54, h⟩ := joinO_some h
      refine JS.seqJ (ι := Int) ⟨fun z => j11 z = some r, fun z => [(0, .v (.slice a5 x0.length c6)), (1, .v (.int .i64 y7)), (2, .v (.int .i64 x2)), (3, .v (.int .i64 x3)), (9, .v (.int .i64 z)), (10, .v (.int .i64 0))], fun z => .nil, fun z => [⟨(.int .i64), ⟨a5, x0.length, c6⟩, x0⟩], fun z => [], fun z => 0⟩ ?_ ?_
      · refine JS.seq ?_
        refine JS.region ?_
        refine JO.reg ttOk 6 [] [] [(28, .v (.bool (bif (decide (x3 = 1)) then true else (decide (x3 = 3)))))] _ rfl ⟨⟨rfl, trivial⟩, rfl⟩ ?_
        refine JO.done rfl ?_
        refine JS.cond rfl (fun ht44 => ?_) (fun ht44 => ?_)
        · have h := condT h ht44
          refine JS.region ?_
          refine JO.reg ttOk 1 [] [] [(9, .v (.int .i64 (-1)))] _ rfl ⟨⟨rfl, trivial⟩, rfl⟩ ?_
          refine JO.done rfl ?_
          exact JS.endJ (-1) h ⟨rfl, rfl, rfl, rfl, rfl, rfl, trivial⟩ trivial [0] rfl [] rfl
        · have h := condF h ht44
          refine JS.skip ?_
          exact JS.endJ 1 h ⟨rfl, rfl, rfl, rfl, rfl, rfl, trivial⟩ trivial [0] rfl [] rfl
      · rintro x10 h
        subst hj54
        obtain ⟨j15, hj53, h⟩ := joinO_some h
        refine JS.seqJ (ι := Int) ⟨fun z => j15 z = some r, fun z => [(0, .v (.slice a5 x0.length c6)), (1, .v (.int .i64 y7)), (2, .v (.int .i64 x2)), (9, .v (.int .i64 x10)), (10, .v (.int .i64 z))], fun z => .nil, fun z => [⟨(.int .i64), ⟨a5, x0.length, c6⟩, x0⟩], fun z => [], fun z => 0⟩ ?_ ?_
        · refine JS.seq ?_
          refine JS.region ?_
          refine JO.reg ttOk 2 [] [] [(30, .v (.bool (decide (2 ≤ x3))))] _ rfl ⟨⟨rfl, trivial⟩, rfl⟩ ?_
          refine JO.done rfl ?_
          refine JS.cond rfl (fun ht45 => ?_) (fun ht45 => ?_)
          · have h := condT h ht45
            refine JS.region ?_
            refine JO.reg ttOk 2 [] [] [(10, .v (.int .i64 x10))] _ rfl ⟨⟨rfl, trivial⟩, rfl⟩ ?_
            refine JO.done rfl ?_
            exact JS.endJ x10 h ⟨rfl, rfl, rfl, rfl, rfl, trivial⟩ trivial [0] rfl [] rfl
          · have h := condF h ht45
            refine JS.skip ?_
            exact JS.endJ 0 h ⟨rfl, rfl, rfl, rfl, rfl, trivial⟩ trivial [0] rfl [] rfl
        · rintro x14 h
          subst hj53
          refine JS.seq ?_
          refine JS.seq ?_
          refine JS.region ?_
          refine JO.reg ttOk 4 [(W (y7 + x10))] [] [(11, .v (.int .i64 (W (y7 + x10))))] _ rfl ⟨⟨trivial, rfl⟩, ⟨rfl, trivial⟩, rfl⟩ ?_
          refine JO.done rfl ?_
          obtain ⟨j32, hj52, h⟩ := joinO_some h
          refine JS.blockJ (ι := Unit) ⟨fun _ => j32 () = some r, fun _ => [], fun _ => .nil, fun _ => [], fun _ => [], fun _ => 0⟩ ?_ ?_
          · refine JS.loop (ι := Nat × Int) ⟨fun z => fixF (M_s_FindRune_L1 x0 x2 x10 x14 j32) z.1 z.2 = some r, fun z => [(0, .v (.slice a5 x0.length c6)), (2, .v (.int .i64 x2)), (9, .v (.int .i64 x10)), (10, .v (.int .i64 x14)), (11, .v (.int .i64 z.2))], fun z => .nil, fun z => [⟨(.int .i64), ⟨a5, x0.length, c6⟩, x0⟩], fun z => [], fun z => z.1⟩ (FUEL, (W (y7 + x10))) h ⟨rfl, rfl, rfl, rfl, rfl, trivial⟩ trivial [0] rfl [] rfl ?_
            rintro ⟨n25, x17⟩ h
            obtain ⟨n25, rfl, h⟩ := fixF_some h
            rw [M_s_FindRune_L1] at h
            refine JS.seq ?_
            refine JS.seq ?_
            refine JS.region ?_
            refine JO.reg ttOk 8 [] [] [(42, .v (.bool (bif (decide (0 ≤ x17)) then (decide (x17 < (x0.length : Int))) else false)))] _ rfl ⟨⟨rfl, trivial⟩, rfl⟩ ?_
            refine JO.done rfl ?_
            refine JS.cond rfl (fun ht51 => ?_) (fun ht51 => ?_)
            · have h := condT h ht51
              refine JS.skip ?_
              refine JS.seq ?_
              refine JS.block ?_
              refine JS.seq ?_
              refine JS.region ?_
              refine JO.reg ttOk 4 [(W (x17 + x14))] [] [(12, .v (.int .i64 (W (x17 + x14))))] _ rfl ⟨⟨trivial, rfl⟩, ⟨rfl, trivial⟩, rfl⟩ ?_
              refine JO.done rfl ?_
              refine JS.seq ?_
              refine JS.region ?_
              refine JO.know 0 rfl fun hs46 => ?_
              obtain ⟨g47, h⟩ := guardO_some h
              refine JO.reg ttOk 12 [] [] [(57, .v (.bool (bif (decide (0 ≤ (W (x17 + x14)))) then (decide ((W (x17 + x14)) < (x0.length : Int))) else false))), (60, .cd [(57, true)] (.ep ⟨a5, x0.length, c6⟩ (Int.toNat (W (x17 + x14)) * 1)))] _ rfl ⟨(fun q48 => hs46.ix (g47 q48)), ⟨rfl, rfl, trivial⟩, rfl⟩ ?_
              refine JO.load ttOk rfl rfl rfl rfl rfl rfl rfl 0 rfl rfl (Int.toNat (W (x17 + x14))) 0 (at' x0 (W (x17 + x14))) (fun q49 => ⟨at_some (g47 q49), rfl⟩) rfl rfl ?_
              refine JO.reg ttOk 3 [] [] [(64, .v (.bool (bif (bif (decide (0 ≤ (W (x17 + x14)))) then (decide ((W (x17 + x14)) < (x0.length : Int))) else false) then (decide ((at' x0 (W (x17 + x14))) = x2)) else false)))] _ rfl ⟨⟨rfl, trivial⟩, rfl⟩ ?_
              refine JO.done rfl ?_
              refine JS.cond rfl (fun ht50 => ?_) (fun ht50 => ?_)
              · have h := condT h ht50
                refine JS.seq ?_
                refine JS.region ?_
                refine JO.reg ttOk 2 [] [] [(8, .v (.int .i64 x17))] _ rfl ⟨⟨rfl, trivial⟩, rfl⟩ ?_
                refine JO.done rfl ?_
                cases h
                exact JS.ret ttOk () trivial rfl rfl [] rfl
              · have h := condF h ht50
                refine JS.skip ?_
                refine JS.endB ?_
                refine JS.region ?_
                refine JO.reg ttOk 4 [(W (x17 + x10))] [] [(11, .v (.int .i64 (W (x17 + x10))))] _ rfl ⟨⟨trivial, rfl⟩, ⟨rfl, trivial⟩, rfl⟩ ?_
                refine JO.done rfl ?_
                exact JS.endL (n25, (W (x17 + x10))) h (Nat.lt_succ_self _) ⟨rfl, rfl, rfl, rfl, rfl, trivial⟩ trivial [0] rfl [] rfl
            · have h := condF h ht51
              refine JS.exit rfl ?_
              exact JS.endJ () h trivial trivial [] rfl [] rfl
          · rintro _ h
            subst hj52
            refine JS.seq ?_
            refine JS.region ?_
            refine JO.reg ttOk 1 [] [] [(8, .v (.int .i64 (-1)))] _ rfl ⟨⟨rfl, trivial⟩, rfl⟩ ?_
            refine JO.done rfl ?_
            cases h
            exact JS.ret ttOk () trivial rfl rfl [] rfl

def M_s_FindTo_L1 (x0 : List Int) (x2 : Int) (x3 : Int) (x4 : Int) (j25 : Int → Option (Int × Bool)) (k18 : (Int × Int) → Option (Int × Bool)) : (Int × Int) → Option (Int × Bool) := fun (x10, x11) =>
  (bindO (M_s_l22Times x4) fun (y12 : Int) =>
  (bif (decide (x11 < y12)) then
  (bindO (M_s_FindRune x0 x10 x2 x3) fun (y14 : Int) =>
  (bif (decide (y14 < 0)) then
  some ((-1), false)
  else
  k18 (y14, (W (x11 + 1)))))
  else
  j25 x10))

def M_s_FindTo (x0 : List Int) (x1 : Int) (x2 : Int) (x3 : Int) (x4 : Int) : Option (Int × Bool) :=
  (bindO (M_s_l08Clamp x1 (x0.length : Int)) fun (y8 : Int) =>
  (joinO (fun (x24 : Int) =>
  some (x24, true)) fun j25 =>
  (fixF (M_s_FindTo_L1 x0 x2 x3 x4 j25) FUEL (y8, 0))))

theorem ok_s_FindTo (x0 : List Int) (x1 : Int) (x2 : Int) (x3 : Int) (x4 : Int) (a6 : Option Addr) (c7 : Nat) (r : Int × Bool) (h : M_s_FindTo x0 x1 x2 x3 x4 = some r) :
    FC Try.prog 23 [.slice a6 x0.length c7, .int .i64 x1, .int .i64 x2, .int .i64 x3, .int .i64 x4] [⟨(.int .i64), ⟨a6, x0.length, c7⟩, x0⟩] (fun _ : Unit => True) (fun _ => .tuple #[.int .i64 r.1, .bool r.2]) (fun _ => []) :=
  FC.of (T := TTx) Try.call23 Try.func23 rfl rfl fun w0 => by
    unfold M_s_FindTo at h
    refine JS.seq ?_
    refine JS.region ?_
    refine JO.reg ttOk 2 [] [] [] _ rfl ⟨trivial, rfl⟩ ?_
    refine JO.done rfl ?_
    refine JS.seq ?_
    refine JS.region ?_
    refine JO.reg ttOk 3 [] [] [(13, .v (.int .i64 x1)), (15, .v (.int .i64 (x0.length : Int)))] _ rfl ⟨⟨rfl, rfl, trivial⟩, rfl⟩ ?_
    obtain ⟨y8, hy31, h⟩ := bindO_some h
    refine JO.call rfl rfl rfl rfl (ok_s_l08Clamp x1 (x0.length : Int) _ hy31) rfl [] rfl rfl ?_
    intro _ _
    refine JO.reg ttOk 1 [] [] [(1, .v (.int .i64 y8))] _ rfl ⟨⟨rfl, trivial⟩, rfl⟩ ?_
    refine JO.done rfl ?_
    refine JS.seq ?_
    refine JS.seq ?_
    refine JS.region ?_
    refine JO.reg ttOk 1 [] [] [(12, .v (.int .i64 0))] _ rfl ⟨⟨rfl, trivial⟩, rfl⟩ ?_
    refine JO.done rfl ?_
    obtain ⟨j25, hj36, h⟩ := joinO_some h
    refine JS.blockJ (ι := Int) ⟨fun z => j25 z = some r, fun z => [(1, .v (.int .i64 z))], fun z => .nil, fun z => [], fun z => [], fun z => 0⟩ ?_ ?_
    · refine JS.loop (ι := Nat × Int × Int) ⟨fun z => fixF (M_s_FindTo_L1 x0 x2 x3 x4 j25) z.1 (z.2.1, z.2.2) = some r, fun z => [(0, .v (.slice a6 x0.length c7)), (1, .v (.int .i64 z.2.1)), (2, .v (.int .i64 x2)), (3, .v (.int .i64 x3)), (4, .v (.int .i64 x4)), (12, .v (.int .i64 z.2.2))], fun z => .nil, fun z => [⟨(.int .i64), ⟨a6, x0.length, c7⟩, x0⟩], fun z => [], fun z => z.1⟩ (FUEL, y8, 0) h ⟨rfl, rfl, rfl, rfl, rfl, rfl, trivial⟩ trivial [0] rfl [] rfl ?_
      rintro ⟨n19, x10, x11⟩ h
      obtain ⟨n19, rfl, h⟩ := fixF_some h
      rw [M_s_FindTo_L1] at h
      refine JS.seq ?_
      refine JS.seq ?_
      refine JS.region ?_
      refine JO.reg ttOk 2 [] [] [(17, .v (.int .i64 x11)), (18, .v (.int .i64 x4))] _ rfl ⟨⟨rfl, rfl, trivial⟩, rfl⟩ ?_
      obtain ⟨y12, hy32, h⟩ := bindO_some h
      refine JO.call rfl rfl rfl rfl (ok_s_l22Times x4 _ hy32) rfl [] rfl rfl ?_
      intro _ _
      refine JO.reg ttOk 1 [] [] [(20, .v (.bool (decide (x11 < y12))))] _ rfl ⟨⟨rfl, trivial⟩, rfl⟩ ?_
      refine JO.done rfl ?_
      refine JS.cond rfl (fun ht35 => ?_) (fun ht35 => ?_)
      · have h := condT h ht35
        refine JS.skip ?_
        refine JS.seq ?_
        refine JS.block ?_
        refine JS.seq ?_
        refine JS.region ?_
        refine JO.reg ttOk 4 [] [] [(23, .v (.slice a6 x0.length c7)), (24, .v (.int .i64 x10)), (25, .v (.int .i64 x2)), (26, .v (.int .i64 x3))] _ rfl ⟨⟨rfl, rfl, rfl, rfl, trivial⟩, rfl⟩ ?_
        obtain ⟨y14, hy33, h⟩ := bindO_some h
        refine JO.call rfl rfl rfl rfl (ok_s_FindRune x0 x10 x2 x3 a6 c7 _ hy33) rfl [0] rfl rfl ?_
        intro _ _
        refine JO.reg ttOk 1 [] [] [(1, .v (.int .i64 y14))] _ rfl ⟨⟨rfl, trivial⟩, rfl⟩ ?_
        refine JO.done rfl ?_
        refine JS.seq ?_
        refine JS.region ?_
        refine JO.reg ttOk 2 [] [] [(29, .v (.bool (decide (y14 < 0))))] _ rfl ⟨⟨rfl, trivial⟩, rfl⟩ ?_
        refine JO.done rfl ?_
        refine JS.cond rfl (fun ht34 => ?_) (fun ht34 => ?_)
        · have h := condT h ht34
          refine JS.seq ?_
          refine JS.region ?_
          refine JO.reg ttOk 2 [] [] [(10, .v (.int .i64 (-1))), (11, .v (.bool false))] _ rfl ⟨⟨rfl, rfl, trivial⟩, rfl⟩ ?_
          refine JO.done rfl ?_
          cases h
          exact JS.ret ttOk () trivial rfl rfl [] rfl
        · have h := condF h ht34
          refine JS.skip ?_
          refine JS.endB ?_
          refine JS.region ?_
          refine JO.reg ttOk 3 [(W (x11 + 1))] [] [(12, .v (.int .i64 (W (x11 + 1))))] _ rfl ⟨⟨trivial, rfl⟩, ⟨rfl, trivial⟩, rfl⟩ ?_
          refine JO.done rfl ?_
          exact JS.endL (n19, y14, (W (x11 + 1))) h (Nat.lt_succ_self _) ⟨rfl, rfl, rfl, rfl, rfl, rfl, trivial⟩ trivial [0] rfl [] rfl
      · have h := condF h ht35
        refine JS.exit rfl ?_
        exact JS.endJ x10 h ⟨rfl, trivial⟩ trivial [] rfl [] rfl
    · rintro x24 h
      subst hj36
      refine JS.seq ?_
      refine JS.region ?_
      refine JO.reg ttOk 3 [] [] [(10, .v (.int .i64 x24)), (11, .v (.bool true))] _ rfl ⟨⟨rfl, rfl, trivial⟩, rfl⟩ ?_
      refine JO.done rfl ?_
      cases h
      exact JS.ret ttOk () trivial rfl rfl [] rfl

def M_i_within (x0 : Int) (x1 : Int) : Option Int :=
  some (max (0 : Int) (min x0 x1))

theorem ok_i_within (x0 : Int) (x1 : Int) (r : Int) (h : M_i_within x0 x1 = some r) :
    FC Try.prog 31 [.int .i64 x0, .int .i64 x1] [] (fun _ : Unit => True) (fun _ => .int .i64 r) (fun _ => []) :=
  FC.of (T := TTx) Try.call31 Try.func31 rfl rfl fun w0 => by
    unfold M_i_within at h
    refine JS.seq ?_
    refine JS.region ?_
    refine JO.reg ttOk 1 [] [] [] _ rfl ⟨trivial, rfl⟩ ?_
    refine JO.done rfl ?_
    refine JS.seq ?_
    refine JS.region ?_
    refine JO.reg ttOk 5 [] [] [(4, .v (.int .i64 (max (0 : Int) (min x0 x1))))] _ rfl ⟨⟨rfl, trivial⟩, rfl⟩ ?_
    refine JO.done rfl ?_
    cases h
    exact JS.ret ttOk () trivial rfl rfl [] rfl

def M_i_FindRune_L1 (x0 : List Int) (x2 : Int) (j20 : Unit → Option Int) (k14 : Int → Option Int) : Int → Option Int := fun x9 =>
  (bif (decide (x9 < (x0.length : Int))) then
  (guardO (0 ≤ x9 ∧ x9 < (x0.length : Int)) <|
  (bif (decide ((at' x0 x9) = x2)) then
  some x9
  else
  k14 (W (x9 + 1))))
  else
  j20 ())

def M_i_FindRune_L2 (x0 : List Int) (x2 : Int) (j37 : Unit → Option Int) (k31 : Int → Option Int) : Int → Option Int := fun x26 =>
  (bif (decide (0 ≤ x26)) then
  (guardO (0 ≤ x26 ∧ x26 < (x0.length : Int)) <|
  (bif (decide ((at' x0 x26) = x2)) then
  some x26
  else
  k31 (W (x26 - 1))))
  else
  j37 ())

def M_i_FindRune_L3 (x0 : List Int) (x2 : Int) (j54 : Unit → Option Int) (k48 : Int → Option Int) : Int → Option Int := fun x43 =>
  (bif (decide ((W (x43 + 1)) < (x0.length : Int))) then
  (guardO (0 ≤ (W (x43 + 1)) ∧ (W (x43 + 1)) < (x0.length : Int)) <|
  (bif (decide ((at' x0 (W (x43 + 1))) = x2)) then
  some x43
  else
  k48 (W (x43 + 1))))
  else
  j54 ())

def M_i_FindRune_L4 (x0 : List Int) (x2 : Int) (j71 : Unit → Option Int) (k65 : Int → Option Int) : Int → Option Int := fun x60 =>
  (bif (decide (1 ≤ x60)) then
  (guardO (0 ≤ (W (x60 - 1)) ∧ (W (x60 - 1)) < (x0.length : Int)) <|
  (bif (decide ((at' x0 (W (x60 - 1))) = x2)) then
  some x60
  else
  k65 (W (x60 - 1))))
  else
  j71 ())

def M_i_FindRune (x0 : List Int) (x1 : Int) (x2 : Int) (x3 : Int) : Option Int :=
  (bindO (M_i_within x1 (x0.length : Int)) fun (y7 : Int) =>
  (joinO (fun (_ : Unit) =>
  some (-1)) fun j81 =>
  (bif (decide (x3 = 0)) then
  (joinO (fun (_ : Unit) =>
  j81 ()) fun j20 =>
  (fixF (M_i_FindRune_L1 x0 x2 j20) FUEL (W (y7 + 1))))
  else
  (bif (decide (x3 = 1)) then
  (joinO (fun (_ : Unit) =>
  j81 ()) fun j37 =>
  (fixF (M_i_FindRune_L2 x0 x2 j37) FUEL (W (y7 - 1))))
  else
  (bif (decide (x3 = 2)) then
  (joinO (fun (_ : Unit) =>
  j81 ()) fun j54 =>
  (fixF (M_i_FindRune_L3 x0 x2 j54) FUEL (W (y7 + 1))))
  else
  (bif (decide (x3 = 3)) then
  (joinO (fun (_ : Unit) =>
  j81 ()) fun j71 =>
  (fixF (M_i_FindRune_L4 x0 x2 j71) FUEL (W (y7 - 1))))
  else
  j81 ()))))))

theorem ok_i_FindRune (x0 : List Int) (x1 : Int) (x2 : Int) (x3 : Int) (a5 : Option Addr) (c6 : Nat) (r : Int) (h : M_i_FindRune x0 x1 x2 x3 = some r) :
    FC Try.prog 39 [.slice a5 x0.length c6, .int .i64 x1, .int .i64 x2, .int .i64 x3] [⟨(.int .i64), ⟨a5, x0.length, c6⟩, x0⟩] (fun _ : Unit => True) (fun _ => .int .i64 r) (fun _ => []) :=
  FC.of (T := TTx) Try.call39 Try.func39 rfl rfl fun w0 => by
    unfold M_i_FindRune at h
    refine JS.seq ?_
    refine JS.region ?_
    refine JO.reg ttOk 1 [] [] [] _ rfl ⟨trivial, rfl⟩ ?_
    refine JO.done rfl ?_
    refine JS.seq ?_
    refine JS.region ?_
    refine JO.reg ttOk 3 [] [] [(9, .v (.int .i64 (x0.length : Int)))] _ rfl ⟨⟨rfl, trivial⟩, rfl⟩ ?_
    refine JO.done rfl ?_
    refine JS.seq ?_
    refine JS.region ?_
    refine JO.reg ttOk 2 [] [] [(16, .v (.int .i64 x1)), (17, .v (.int .i64 (x0.length : Int)))] _ rfl ⟨⟨rfl, rfl, trivial⟩, rfl⟩ ?_
    obtain ⟨y7, hy107, h⟩ := bindO_some h
    refine JO.call rfl rfl rfl rfl (ok_i_within x1 (x0.length : Int) _ hy107) rfl [] rfl rfl ?_
    intro _ _
    refine JO.reg ttOk 1 [] [] [(1, .v (.int .i64 y7))] _ rfl ⟨⟨rfl, trivial⟩, rfl⟩ ?_
    refine JO.done rfl ?_
    refine JS.seq ?_
    refine JS.seq ?_
    refine JS.region ?_
    refine JO.reg ttOk 1 [] [] [(19, .v (.int .i64 x3))] _ rfl ⟨⟨rfl, trivial⟩, rfl⟩ ?_
    refine JO.done rfl ?_
    obtain ⟨j81, hj132, h⟩ := joinO_some h
    refine JS.blockJ (ι := Unit) ⟨fun _ => j81 () = some r, fun _ => [], fun _ => .nil, fun _ => [], fun _ => [], fun _ => 0⟩ ?_ ?_
    · refine JS.seq ?_
      refine JS.region ?_
      refine JO.reg ttOk 2 [] [] [(20, .v (.bool (decide (x3 = 0))))] _ rfl ⟨⟨rfl, trivial⟩, rfl⟩ ?_
      refine JO.done rfl ?_
      refine JS.cond rfl (fun ht131 => ?_) (fun ht131 => ?_)
      · have h := condT h ht131
        refine JS.seq ?_
        refine JS.region ?_
        refine JO.reg ttOk 3 [(W (y7 + 1))] [] [(10, .v (.int .i64 (W (y7 + 1))))] _ rfl ⟨⟨trivial, rfl⟩, ⟨rfl, trivial⟩, rfl⟩ ?_
        refine JO.done rfl ?_
        obtain ⟨j20, hj112, h⟩ := joinO_some h
        refine JS.blockJ (ι := Unit) ⟨fun _ => j20 () = some r, fun _ => [], fun _ => .nil, fun _ => [], fun _ => [], fun _ => 0⟩ ?_ ?_
        · refine JS.loop (ι := Nat × Int) ⟨fun z => fixF (M_i_FindRune_L1 x0 x2 j20) z.1 z.2 = some r, fun z => [(0, .v (.slice a5 x0.length c6)), (2, .v (.int .i64 x2)), (9, .v (.int .i64 (x0.length : Int))), (10, .v (.int .i64 z.2))], fun z => .nil, fun z => [⟨(.int .i64), ⟨a5, x0.length, c6⟩, x0⟩], fun z => [], fun z => z.1⟩ (FUEL, (W (y7 + 1))) h ⟨rfl, rfl, rfl, rfl, trivial⟩ trivial [0] rfl [] rfl ?_
          rintro ⟨n15, x9⟩ h
          obtain ⟨n15, rfl, h⟩ := fixF_some h
          rw [M_i_FindRune_L1] at h
          refine JS.seq ?_
          refine JS.seq ?_
          refine JS.region ?_
          refine JO.reg ttOk 3 [] [] [(26, .v (.bool (decide (x9 < (x0.length : Int)))))] _ rfl ⟨⟨rfl, trivial⟩, rfl⟩ ?_
          refine JO.done rfl ?_
          refine JS.cond rfl (fun ht111 => ?_) (fun ht111 => ?_)
          · have h := condT h ht111
            refine JS.skip ?_
            refine JS.seq ?_
            refine JS.block ?_
            refine JS.seq ?_
            refine JS.region ?_
            refine JO.know 0 rfl fun hs108 => ?_
            obtain ⟨g109, h⟩ := guardO_some h
            refine JO.reg ttOk 3 [] [] [(31, .ep ⟨a5, x0.length, c6⟩ (Int.toNat x9 * 1))] _ rfl ⟨hs108.ix g109, ⟨rfl, trivial⟩, rfl⟩ ?_
            refine JO.load ttOk rfl rfl rfl rfl rfl rfl rfl 0 rfl rfl (Int.toNat x9) 0 (at' x0 x9) ⟨at_some g109, rfl⟩ rfl rfl ?_
            refine JO.reg ttOk 2 [] [] [(34, .v (.bool (decide ((at' x0 x9) = x2))))] _ rfl ⟨⟨rfl, trivial⟩, rfl⟩ ?_
            refine JO.done rfl ?_
            refine JS.cond rfl (fun ht110 => ?_) (fun ht110 => ?_)
            · have h := condT h ht110
              refine JS.seq ?_
              refine JS.region ?_
              refine JO.reg ttOk 2 [] [] [(8, .v (.int .i64 x9))] _ rfl ⟨⟨rfl, trivial⟩, rfl⟩ ?_
              refine JO.done rfl ?_
              cases h
              exact JS.ret ttOk () trivial rfl rfl [] rfl
            · have h := condF h ht110
              refine JS.skip ?_
              refine JS.endB ?_
              refine JS.region ?_
              refine JO.reg ttOk 3 [(W (x9 + 1))] [] [(10, .v (.int .i64 (W (x9 + 1))))] _ rfl ⟨⟨trivial, rfl⟩, ⟨rfl, trivial⟩, rfl⟩ ?_
              refine JO.done rfl ?_
              exact JS.endL (n15, (W (x9 + 1))) h (Nat.lt_succ_self _) ⟨rfl, rfl, rfl, rfl, trivial⟩ trivial [0] rfl [] rfl
          · have h := condF h ht111
            refine JS.exit rfl ?_
            exact JS.endJ () h trivial trivial [] rfl [] rfl
        · rintro _ h
          subst hj112
          refine JS.endB ?_
          exact JS.endJ () h trivial trivial [] rfl [] rfl
      · have h := condF h ht131
        refine JS.seq ?_
        refine JS.region ?_
        refine JO.reg ttOk 2 [] [] [(36, .v (.bool (decide (x3 = 1))))] _ rfl ⟨⟨rfl, trivial⟩, rfl⟩ ?_
        refine JO.done rfl ?_
        refine JS.cond rfl (fun ht130 => ?_) (fun ht130 => ?_)
        · have h := condT h ht130
          refine JS.seq ?_
          refine JS.region ?_
          refine JO.reg ttOk 3 [(W (y7 - 1))] [] [(11, .v (.int .i64 (W (y7 - 1))))] _ rfl ⟨⟨trivial, rfl⟩, ⟨rfl, trivial⟩, rfl⟩ ?_
          refine JO.done rfl ?_
          obtain ⟨j37, hj117, h⟩ := joinO_some h
          refine JS.blockJ (ι := Unit) ⟨fun _ => j37 () = some r, fun _ => [], fun _ => .nil, fun _ => [], fun _ => [], fun _ => 0⟩ ?_ ?_
          · refine JS.loop (ι := Nat × Int) ⟨fun z => fixF (M_i_FindRune_L2 x0 x2 j37) z.1 z.2 = some r, fun z => [(0, .v (.slice a5 x0.length c6)), (2, .v (.int .i64 x2)), (11, .v (.int .i64 z.2))], fun z => .nil, fun z => [⟨(.int .i64), ⟨a5, x0.length, c6⟩, x0⟩], fun z => [], fun z => z.1⟩ (FUEL, (W (y7 - 1))) h ⟨rfl, rfl, rfl, trivial⟩ trivial [0] rfl [] rfl ?_
            rintro ⟨n32, x26⟩ h
            obtain ⟨n32, rfl, h⟩ := fixF_some h
            rw [M_i_FindRune_L2] at h
            refine JS.seq ?_
            refine JS.seq ?_
            refine JS.region ?_
            refine JO.reg ttOk 2 [] [] [(41, .v (.bool (decide (0 ≤ x26))))] _ rfl ⟨⟨rfl, trivial⟩, rfl⟩ ?_
            refine JO.done rfl ?_
            refine JS.cond rfl (fun ht116 => ?_) (fun ht116 => ?_)
            · have h := condT h ht116
              refine JS.skip ?_
              refine JS.seq ?_
              refine JS.block ?_
              refine JS.seq ?_
              refine JS.region ?_
              refine JO.know 0 rfl fun hs113 => ?_
              obtain ⟨g114, h⟩ := guardO_some h
              refine JO.reg ttOk 3 [] [] [(46, .ep ⟨a5, x0.length, c6⟩ (Int.toNat x26 * 1))] _ rfl ⟨hs113.ix g114, ⟨rfl, trivial⟩, rfl⟩ ?_
              refine JO.load ttOk rfl rfl rfl rfl rfl rfl rfl 0 rfl rfl (Int.toNat x26) 0 (at' x0 x26) ⟨at_some g114, rfl⟩ rfl rfl ?_
              refine JO.reg ttOk 2 [] [] [(49, .v (.bool (decide ((at' x0 x26) = x2))))] _ rfl ⟨⟨rfl, trivial⟩, rfl⟩ ?_
              refine JO.done rfl ?_
              refine JS.cond rfl (fun ht115 => ?_) (fun ht115 => ?_)
              · have h := condT h ht115
                refine JS.seq ?_
                refine JS.region ?_
                refine JO.reg ttOk 2 [] [] [(8, .v (.int .i64 x26))] _ rfl ⟨⟨rfl, trivial⟩, rfl⟩ ?_
                refine JO.done rfl ?_
                cases h
                exact JS.ret ttOk () trivial rfl rfl [] rfl
              · have h := condF h ht115
                refine JS.skip ?_
                refine JS.endB ?_
                refine JS.region ?_
                refine JO.reg ttOk 3 [(W (x26 - 1))] [] [(11, .v (.int .i64 (W (x26 - 1))))] _ rfl ⟨⟨trivial, rfl⟩, ⟨rfl, trivial⟩, rfl⟩ ?_
                refine JO.done rfl ?_
                exact JS.endL (n32, (W (x26 - 1))) h (Nat.lt_succ_self _) ⟨rfl, rfl, rfl, trivial⟩ trivial [0] rfl [] rfl
            · have h := condF h ht116
              refine JS.exit rfl ?_
              exact JS.endJ () h trivial trivial [] rfl [] rfl
          · rintro _ h
            subst hj117
            refine JS.endB ?_
            exact JS.endJ () h trivial trivial [] rfl [] rfl
        · have h := condF h ht130
          refine JS.seq ?_
          refine JS.region ?_
          refine JO.reg ttOk 2 [] [] [(51, .v (.bool (decide (x3 = 2))))] _ rfl ⟨⟨rfl, trivial⟩, rfl⟩ ?_
          refine JO.done rfl ?_
          refine JS.cond rfl (fun ht129 => ?_) (fun ht129 => ?_)
          · have h := condT h ht129
            refine JS.seq ?_
            refine JS.region ?_
            refine JO.reg ttOk 3 [(W (y7 + 1))] [] [(12, .v (.int .i64 (W (y7 + 1))))] _ rfl ⟨⟨trivial, rfl⟩, ⟨rfl, trivial⟩, rfl⟩ ?_
            refine JO.done rfl ?_
            obtain ⟨j54, hj122, h⟩ := joinO_some h
            refine JS.blockJ (ι := Unit) ⟨fun _ => j54 () = some r, fun _ => [], fun _ => .nil, fun _ => [], fun _ => [], fun _ => 0⟩ ?_ ?_
            · refine JS.loop (ι := Nat × Int) ⟨fun z => fixF (M_i_FindRune_L3 x0 x2 j54) z.1 z.2 = some r, fun z => [(0, .v (.slice a5 x0.length c6)), (2, .v (.int .i64 x2)), (9, .v (.int .i64 (x0.length : Int))), (12, .v (.int .i64 z.2))], fun z => .nil, fun z => [⟨(.int .i64), ⟨a5, x0.length, c6⟩, x0⟩], fun z => [], fun z => z.1⟩ (FUEL, (W (y7 + 1))) h ⟨rfl, rfl, rfl, rfl, trivial⟩ trivial [0] rfl [] rfl ?_
              rintro ⟨n49, x43⟩ h
              obtain ⟨n49, rfl, h⟩ := fixF_some h
              rw [M_i_FindRune_L3] at h
              refine JS.seq ?_
              refine JS.seq ?_
              refine JS.region ?_
              refine JO.reg ttOk 4 [(W (x43 + 1))] [] [(58, .v (.bool (decide ((W (x43 + 1)) < (x0.length : Int)))))] _ rfl ⟨⟨trivial, rfl⟩, ⟨rfl, trivial⟩, rfl⟩ ?_
              refine JO.done rfl ?_
              refine JS.cond rfl (fun ht121 => ?_) (fun ht121 => ?_)
              · have h := condT h ht121
                refine JS.skip ?_
                refine JS.seq ?_
                refine JS.block ?_
                refine JS.seq ?_
                refine JS.region ?_
                refine JO.know 0 rfl fun hs118 => ?_
                obtain ⟨g119, h⟩ := guardO_some h
                refine JO.reg ttOk 4 [(W (x43 + 1))] [] [(64, .ep ⟨a5, x0.length, c6⟩ (Int.toNat (W (x43 + 1)) * 1))] _ rfl ⟨⟨trivial, rfl⟩, hs118.ix g119, ⟨rfl, trivial⟩, rfl⟩ ?_
                refine JO.load ttOk rfl rfl rfl rfl rfl rfl rfl 0 rfl rfl (Int.toNat (W (x43 + 1))) 0 (at' x0 (W (x43 + 1))) ⟨at_some g119, rfl⟩ rfl rfl ?_
                refine JO.reg ttOk 2 [] [] [(67, .v (.bool (decide ((at' x0 (W (x43 + 1))) = x2))))] _ rfl ⟨⟨rfl, trivial⟩, rfl⟩ ?_
                refine JO.done rfl ?_
                refine JS.cond rfl (fun ht120 => ?_) (fun ht120 => ?_)
                · have h := condT h ht120
                  refine JS.seq ?_
                  refine JS.region ?_
                  refine JO.reg ttOk 2 [] [] [(8, .v (.int .i64 x43))] _ rfl ⟨⟨rfl, trivial⟩, rfl⟩ ?_
                  refine JO.done rfl ?_
                  cases h
                  exact JS.ret ttOk () trivial rfl rfl [] rfl
                · have h := condF h ht120
                  refine JS.skip ?_
                  refine JS.endB ?_
                  refine JS.region ?_
                  refine JO.reg ttOk 3 [(W (x43 + 1))] [] [(12, .v (.int .i64 (W (x43 + 1))))] _ rfl ⟨⟨trivial, rfl⟩, ⟨rfl, trivial⟩, rfl⟩ ?_
                  refine JO.done rfl ?_
                  exact JS.endL (n49, (W (x43 + 1))) h (Nat.lt_succ_self _) ⟨rfl, rfl, rfl, rfl, trivial⟩ trivial [0] rfl [] rfl
              · have h := condF h ht121
                refine JS.exit rfl ?_
                exact JS.endJ () h trivial trivial [] rfl [] rfl
            · rintro _ h
              subst hj122
              refine JS.endB ?_
              exact JS.endJ () h trivial trivial [] rfl [] rfl
          · have h := condF h ht129
            refine JS.seq ?_
            refine JS.region ?_
            refine JO.reg ttOk 2 [] [] [(69, .v (.bool (decide (x3 = 3))))] _ rfl ⟨⟨rfl, trivial⟩, rfl⟩ ?_
            refine JO.done rfl ?_
            refine JS.cond rfl (fun ht128 => ?_) (fun ht128 => ?_)
            · have h := condT h ht128
              refine JS.seq ?_
              refine JS.region ?_
              refine JO.reg ttOk 3 [(W (y7 - 1))] [] [(13, .v (.int .i64 (W (y7 - 1))))] _ rfl ⟨⟨trivial, rfl⟩, ⟨rfl, trivial⟩, rfl⟩ ?_
              refine JO.done rfl ?_
              obtain ⟨j71, hj127, h⟩ := joinO_some h
              refine JS.blockJ (ι := Unit) ⟨fun _ => j71 () = some r, fun _ => [], fun _ => .nil, fun _ => [], fun _ => [], fun _ => 0⟩ ?_ ?_
              · refine JS.loop (ι := Nat × Int) ⟨fun z => fixF (M_i_FindRune_L4 x0 x2 j71) z.1 z.2 = some r, fun z => [(0, .v (.slice a5 x0.length c6)), (2, .v (.int .i64 x2)), (13, .v (.int .i64 z.2))], fun z => .nil, fun z => [⟨(.int .i64), ⟨a5, x0.length, c6⟩, x0⟩], fun z => [], fun z => z.1⟩ (FUEL, (W (y7 - 1))) h ⟨rfl, rfl, rfl, trivial⟩ trivial [0] rfl [] rfl ?_
                rintro ⟨n66, x60⟩ h
                obtain ⟨n66, rfl, h⟩ := fixF_some h
                rw [M_i_FindRune_L4] at h
                refine JS.seq ?_
                refine JS.seq ?_
                refine JS.region ?_
                refine JO.reg ttOk 2 [] [] [(74, .v (.bool (decide (1 ≤ x60))))] _ rfl ⟨⟨rfl, trivial⟩, rfl⟩ ?_
                refine JO.done rfl ?_
                refine JS.cond rfl (fun ht126 => ?_) (fun ht126 => ?_)
                · have h := condT h ht126
                  refine JS.skip ?_
                  refine JS.seq ?_
                  refine JS.block ?_
                  refine JS.seq ?_
                  refine JS.region ?_
                  refine JO.know 0 rfl fun hs123 => ?_
                  obtain ⟨g124, h⟩ := guardO_some h
                  refine JO.reg ttOk 4 [(W (x60 - 1))] [] [(80, .ep ⟨a5, x0.length, c6⟩ (Int.toNat (W (x60 - 1)) * 1))] _ rfl ⟨⟨trivial, rfl⟩, hs123.ix g124, ⟨rfl, trivial⟩, rfl⟩ ?_
                  refine JO.load ttOk rfl rfl rfl rfl rfl rfl rfl 0 rfl rfl (Int.toNat (W (x60 - 1))) 0 (at' x0 (W (x60 - 1))) ⟨at_some g124, rfl⟩ rfl rfl ?_
                  refine JO.reg ttOk 2 [] [] [(83, .v (.bool (decide ((at' x0 (W (x60 - 1))) = x2))))] _ rfl ⟨⟨rfl, trivial⟩, rfl⟩ ?_
                  refine JO.done rfl ?_
                  refine JS.cond rfl (fun ht125 => ?_) (fun ht125 => ?_)
                  · have h := condT h ht125
                    refine JS.seq ?_
                    refine JS.region ?_
                    refine JO.reg ttOk 2 [] [] [(8, .v (.int .i64 x60))] _ rfl ⟨⟨rfl, trivial⟩, rfl⟩ ?_
                    refine JO.done rfl ?_
                    cases h
                    exact JS.ret ttOk () trivial rfl rfl [] rfl
                  · have h := condF h ht125
                    refine JS.skip ?_
                    refine JS.endB ?_
                    refine JS.region ?_
                    refine JO.reg ttOk 3 [(W (x60 - 1))] [] [(13, .v (.int .i64 (W (x60 - 1))))] _ rfl ⟨⟨trivial, rfl⟩, ⟨rfl, trivial⟩, rfl⟩ ?_
                    refine JO.done rfl ?_
                    exact JS.endL (n66, (W (x60 - 1))) h (Nat.lt_succ_self _) ⟨rfl, rfl, rfl, trivial⟩ trivial [0] rfl [] rfl
                · have h := condF h ht126
                  refine JS.exit rfl ?_
                  exact JS.endJ () h trivial trivial [] rfl [] rfl
              · rintro _ h
                subst hj127
                refine JS.endB ?_
                exact JS.endJ () h trivial trivial [] rfl [] rfl
            · have h := condF h ht128
              refine JS.skip ?_
              refine JS.endB ?_
              exact JS.endJ () h trivial trivial [] rfl [] rfl
    · rintro _ h
      subst hj132
      refine JS.seq ?_
      refine JS.region ?_
      refine JO.reg ttOk 1 [] [] [(8, .v (.int .i64 (-1)))] _ rfl ⟨⟨rfl, trivial⟩, rfl⟩ ?_
      refine JO.done rfl ?_
      cases h
      exact JS.ret ttOk () trivial rfl rfl [] rfl

def M_i_FindTo_L1 (x0 : List Int) (x2 : Int) (x3 : Int) (x4 : Int) (j22 : Int → Option (Int × Bool)) (k16 : (Int × Int) → Option (Int × Bool)) : (Int × Int) → Option (Int × Bool) := fun (x10, x11) =>
  (bif (decide (x11 < (max (1 : Int) (min x4 999)))) then
  (bindO (M_i_FindRune x0 x10 x2 x3) fun (y12 : Int) =>
  (bif (decide (y12 < 0)) then
  some ((-1), false)
  else
  k16 (y12, (W (x11 + 1)))))
  else
  j22 x10)

def M_i_FindTo (x0 : List Int) (x1 : Int) (x2 : Int) (x3 : Int) (x4 : Int) : Option (Int × Bool) :=
  (bindO (M_i_within x1 (x0.length : Int)) fun (y8 : Int) =>
  (joinO (fun (x21 : Int) =>
  some (x21, true)) fun j22 =>
  (fixF (M_i_FindTo_L1 x0 x2 x3 x4 j22) FUEL (y8, 0))))

theorem ok_i_FindTo (x0 : List Int) (x1 : Int) (x2 : Int) (x3 : Int) (x4 : Int) (a6 : Option Addr) (c7 : Nat) (r : Int × Bool) (h : M_i_FindTo x0 x1 x2 x3 x4 = some r) :
    FC Try.prog 25 [.slice a6 x0.length c7, .int .i64 x1, .int .i64 x2, .int .i64 x3, .int .i64 x4] [⟨(.int .i64), ⟨a6, x0.length, c7⟩, x0⟩] (fun _ : Unit => True) (fun _ => .tuple #[.int .i64 r.1, .bool r.2]) (fun _ => []) :=
  FC.of (T := TTx) Try.call25 Try.func25 rfl rfl fun w0 => by
    unfold M_i_FindTo at h
    refine JS.seq ?_
    refine JS.region ?_
    refine JO.reg ttOk 2 [] [] [] _ rfl ⟨trivial, rfl⟩ ?_
    refine JO.done rfl ?_
    refine JS.seq ?_
    refine JS.region ?_
    refine JO.reg ttOk 3 [] [] [(12, .v (.int .i64 x1)), (14, .v (.int .i64 (x0.length : Int)))] _ rfl ⟨⟨rfl, rfl, trivial⟩, rfl⟩ ?_
    obtain ⟨y8, hy27, h⟩ := bindO_some h
    refine JO.call rfl rfl rfl rfl (ok_i_within x1 (x0.length : Int) _ hy27) rfl [] rfl rfl ?_
    intro _ _
    refine JO.reg ttOk 1 [] [] [(1, .v (.int .i64 y8))] _ rfl ⟨⟨rfl, trivial⟩, rfl⟩ ?_
    refine JO.done rfl ?_
    refine JS.seq ?_
    refine JS.seq ?_
    refine JS.region ?_
    refine JO.reg ttOk 4 [] [] [(18, .v (.int .i64 (max (1 : Int) (min x4 999)))), (19, .v (.int .i64 0))] _ rfl ⟨⟨rfl, rfl, trivial⟩, rfl⟩ ?_
    refine JO.done rfl ?_
    obtain ⟨j22, hj31, h⟩ := joinO_some h
    refine JS.blockJ (ι := Int) ⟨fun z => j22 z = some r, fun z => [(1, .v (.int .i64 z))], fun z => .nil, fun z => [], fun z => [], fun z => 0⟩ ?_ ?_
    · refine JS.loop (ι := Nat × Int × Int) ⟨fun z => fixF (M_i_FindTo_L1 x0 x2 x3 x4 j22) z.1 (z.2.1, z.2.2) = some r, fun z => [(0, .v (.slice a6 x0.length c7)), (1, .v (.int .i64 z.2.1)), (2, .v (.int .i64 x2)), (3, .v (.int .i64 x3)), (18, .v (.int .i64 (max (1 : Int) (min x4 999)))), (19, .v (.int .i64 z.2.2))], fun z => .nil, fun z => [⟨(.int .i64), ⟨a6, x0.length, c7⟩, x0⟩], fun z => [], fun z => z.1⟩ (FUEL, y8, 0) h ⟨rfl, rfl, rfl, rfl, rfl, rfl, trivial⟩ trivial [0] rfl [] rfl ?_
      rintro ⟨n17, x10, x11⟩ h
      obtain ⟨n17, rfl, h⟩ := fixF_some h
      rw [M_i_FindTo_L1] at h
      refine JS.seq ?_
      refine JS.region ?_
      refine JO.reg ttOk 1 [] [] [(20, .v (.bool (decide (x11 < (max (1 : Int) (min x4 999))))))] _ rfl ⟨⟨rfl, trivial⟩, rfl⟩ ?_
      refine JO.done rfl ?_
      refine JS.seq ?_
      refine JS.cond rfl (fun ht30 => ?_) (fun ht30 => ?_)
      · have h := condT h ht30
        refine JS.skip ?_
        refine JS.seq ?_
        refine JS.block ?_
        refine JS.seq ?_
        refine JS.region ?_
        refine JO.reg ttOk 4 [] [] [(21, .v (.slice a6 x0.length c7)), (22, .v (.int .i64 x10)), (23, .v (.int .i64 x2)), (24, .v (.int .i64 x3))] _ rfl ⟨⟨rfl, rfl, rfl, rfl, trivial⟩, rfl⟩ ?_
        obtain ⟨y12, hy28, h⟩ := bindO_some h
        refine JO.call rfl rfl rfl rfl (ok_i_FindRune x0 x10 x2 x3 a6 c7 _ hy28) rfl [0] rfl rfl ?_
        intro _ _
        refine JO.reg ttOk 1 [] [] [(1, .v (.int .i64 y12))] _ rfl ⟨⟨rfl, trivial⟩, rfl⟩ ?_
        refine JO.done rfl ?_
        refine JS.seq ?_
        refine JS.region ?_
        refine JO.reg ttOk 2 [] [] [(27, .v (.bool (decide (y12 < 0))))] _ rfl ⟨⟨rfl, trivial⟩, rfl⟩ ?_
        refine JO.done rfl ?_
        refine JS.cond rfl (fun ht29 => ?_) (fun ht29 => ?_)
        · have h := condT h ht29
          refine JS.seq ?_
          refine JS.region ?_
          refine JO.reg ttOk 2 [] [] [(10, .v (.int .i64 (-1))), (11, .v (.bool false))] _ rfl ⟨⟨rfl, rfl, trivial⟩, rfl⟩ ?_
          refine JO.done rfl ?_
          cases h
          exact JS.ret ttOk () trivial rfl rfl [] rfl
        · have h := condF h ht29
          refine JS.skip ?_
          refine JS.endB ?_
          refine JS.region ?_
          refine JO.reg ttOk 2 [(W (x11 + 1))] [] [(19, .v (.int .i64 (W (x11 + 1))))] _ rfl ⟨⟨trivial, rfl⟩, ⟨rfl, trivial⟩, rfl⟩ ?_
          refine JO.done rfl ?_
          exact JS.endL (n17, y12, (W (x11 + 1))) h (Nat.lt_succ_self _) ⟨rfl, rfl, rfl, rfl, rfl, rfl, trivial⟩ trivial [0] rfl [] rfl
      · have h := condF h ht30
        refine JS.exit rfl ?_
        exact JS.endJ x10 h ⟨rfl, trivial⟩ trivial [] rfl [] rfl
    · rintro x21 h
      subst hj31
      refine JS.seq ?_
      refine JS.region ?_
      refine JO.reg ttOk 3 [] [] [(10, .v (.int .i64 x21)), (11, .v (.bool true))] _ rfl ⟨⟨rfl, rfl, trivial⟩, rfl⟩ ?_
      refine JO.done rfl ?_
      cases h
      exact JS.ret ttOk () trivial rfl rfl [] rfl

def M_l_eqIntS_L1 (x0 : List Int) (x1 : List Int) (j22 : Unit → Option Bool) (k14 : Int → Option Bool) : Int → Option Bool := fun x7 =>
  (bif (decide (x7 < (x0.length : Int))) then
  (guardO (0 ≤ x7 ∧ x7 < (x0.length : Int)) <|
  (guardO (0 ≤ x7 ∧ x7 < (x1.length : Int)) <|
  (bif (!(decide ((at' x0 x7) = (at' x1 x7)))) then
  some false
  else
  k14 (W (x7 + 1)))))
  else
  j22 ())

def M_l_eqIntS (x0 : List Int) (x1 : List Int) : Option Bool :=
  (bif (!(decide ((x0.length : Int) = (x1.length : Int)))) then
  some false
  else
  (joinO (fun (_ : Unit) =>
  some true) fun j22 =>
  (fixF (M_l_eqIntS_L1 x0 x1 j22) FUEL 0)))

theorem ok_l_eqIntS (x0 : List Int) (x1 : List Int) (a3 : Option Addr) (c4 : Nat) (a5 : Option Addr) (c6 : Nat) (r : Bool) (h : M_l_eqIntS x0 x1 = some r) :
    FC Try.prog 26 [.slice a3 x0.length c4, .slice a5 x1.length c6] [⟨(.int .i64), ⟨a3, x0.length, c4⟩, x0⟩, ⟨(.int .i64), ⟨a5, x1.length, c6⟩, x1⟩] (fun _ : Unit => True) (fun _ => .bool r) (fun _ => []) :=
  FC.of (T := TTx) Try.call26 Try.func26 rfl rfl fun w0 => by
    unfold M_l_eqIntS at h
    refine JS.seq ?_
    refine JS.region ?_
    refine JO.reg ttOk 1 [] [] [] _ rfl ⟨trivial, rfl⟩ ?_
    refine JO.done rfl ?_
    refine JS.seq ?_
    refine JS.seq ?_
    refine JS.region ?_
    refine JO.reg ttOk 5 [] [] [(10, .v (.bool (!(decide ((x0.length : Int) = (x1.length : Int))))))] _ rfl ⟨⟨rfl, trivial⟩, rfl⟩ ?_
    refine JO.done rfl ?_
    refine JS.cond rfl (fun ht38 => ?_) (fun ht38 => ?_)
    · have h := condT h ht38
      refine JS.seq ?_
      refine JS.region ?_
      refine JO.reg ttOk 1 [] [] [(4, .v (.bool false))] _ rfl ⟨⟨rfl, trivial⟩, rfl⟩ ?_
      refine JO.done rfl ?_
      cases h
      exact JS.ret ttOk () trivial rfl rfl [] rfl
    · have h := condF h ht38
      refine JS.skip ?_
      refine JS.seq ?_
      refine JS.seq ?_
      refine JS.region ?_
      refine JO.reg ttOk 1 [] [] [(5, .v (.int .i64 0))] _ rfl ⟨⟨rfl, trivial⟩, rfl⟩ ?_
      refine JO.done rfl ?_
      obtain ⟨j22, hj37, h⟩ := joinO_some h
      refine JS.blockJ (ι := Unit) ⟨fun _ => j22 () = some r, fun _ => [], fun _ => .nil, fun _ => [], fun _ => [], fun _ => 0⟩ ?_ ?_
      · refine JS.loop (ι := Nat × Int) ⟨fun z => fixF (M_l_eqIntS_L1 x0 x1 j22) z.1 z.2 = some r, fun z => [(0, .v (.slice a3 x0.length c4)), (1, .v (.slice a5 x1.length c6)), (5, .v (.int .i64 z.2))], fun z => .nil, fun z => [⟨(.int .i64), ⟨a3, x0.length, c4⟩, x0⟩, ⟨(.int .i64), ⟨a5, x1.length, c6⟩, x1⟩], fun z => [], fun z => z.1⟩ (FUEL, 0) h ⟨rfl, rfl, rfl, trivial⟩ trivial [0, 1] rfl [] rfl ?_
        rintro ⟨n15, x7⟩ h
        obtain ⟨n15, rfl, h⟩ := fixF_some h
        rw [M_l_eqIntS_L1] at h
        refine JS.seq ?_
        refine JS.seq ?_
        refine JS.region ?_
        refine JO.reg ttOk 4 [] [] [(14, .v (.bool (decide (x7 < (x0.length : Int)))))] _ rfl ⟨⟨rfl, trivial⟩, rfl⟩ ?_
        refine JO.done rfl ?_
        refine JS.cond rfl (fun ht36 => ?_) (fun ht36 => ?_)
        · have h := condT h ht36
          refine JS.skip ?_
          refine JS.seq ?_
          refine JS.block ?_
          refine JS.seq ?_
          refine JS.know 0 rfl fun hs31 => ?_
          refine JS.know 1 rfl fun hs33 => ?_
          refine JS.regionQ rfl (by kernel_rfl) ?_
          obtain ⟨g32, h⟩ := guardO_some h
          refine JQ.reg ttOk 3 [] [(19, .ep ⟨a3, x0.length, c4⟩ (Int.toNat x7 * 1))] rfl ⟨hs31.ix g32, ⟨rfl, trivial⟩⟩ ?_
          refine JQ.load ttOk rfl rfl rfl rfl rfl rfl rfl 0 rfl rfl (Int.toNat x7) 0 (at' x0 x7) ⟨at_some g32, rfl⟩ rfl rfl ?_
          obtain ⟨g34, h⟩ := guardO_some h
          refine JQ.reg ttOk 3 [] [(23, .ep ⟨a5, x1.length, c6⟩ (Int.toNat x7 * 1))] rfl ⟨hs33.ix g34, ⟨rfl, trivial⟩⟩ ?_
          refine JQ.load ttOk rfl rfl rfl rfl rfl rfl rfl 1 rfl rfl (Int.toNat x7) 0 (at' x1 x7) ⟨at_some g34, rfl⟩ rfl rfl ?_
          refine JQ.reg ttOk 1 [] [(25, .v (.bool (!(decide ((at' x0 x7) = (at' x1 x7))))))] rfl ⟨rfl, trivial⟩ ?_
          refine JQ.done rfl ?_
          refine JS.cond rfl (fun ht35 => ?_) (fun ht35 => ?_)
          · have h := condT h ht35
            refine JS.seq ?_
            refine JS.region ?_
            refine JO.reg ttOk 1 [] [] [(4, .v (.bool false))] _ rfl ⟨⟨rfl, trivial⟩, rfl⟩ ?_
            refine JO.done rfl ?_
            cases h
            exact JS.ret ttOk () trivial rfl rfl [] rfl
          · have h := condF h ht35
            refine JS.skip ?_
            refine JS.endB ?_
            refine JS.region ?_
            refine JO.reg ttOk 3 [(W (x7 + 1))] [] [(5, .v (.int .i64 (W (x7 + 1))))] _ rfl ⟨⟨trivial, rfl⟩, ⟨rfl, trivial⟩, rfl⟩ ?_
            refine JO.done rfl ?_
            exact JS.endL (n15, (W (x7 + 1))) h (Nat.lt_succ_self _) ⟨rfl, rfl, rfl, trivial⟩ trivial [0, 1] rfl [] rfl
        · have h := condF h ht36
          refine JS.exit rfl ?_
          exact JS.endJ () h trivial trivial [] rfl [] rfl
      · rintro _ h
        subst hj37
        refine JS.seq ?_
        refine JS.region ?_
        refine JO.reg ttOk 1 [] [] [(4, .v (.bool true))] _ rfl ⟨⟨rfl, trivial⟩, rfl⟩ ?_
        refine JO.done rfl ?_
        cases h
        exact JS.ret ttOk () trivial rfl rfl [] rfl

def M_l_FnExactFindTo (x0 : List Int) (x1 : Int) (x2 : Int) (x3 : Int) (x4 : Int) : Option Bool :=
  (bif (decide (1048576 < (x0.length : Int))) then
  some true
  else
  (bindO (M_l_toIntS x0) fun (y8 : List Int) =>
  (bindO (M_s_FindTo y8 x1 x2 x3 x4) fun (y12, y13) =>
  (bindO (M_l_toIntS x0) fun (y15 : List Int) =>
  (bindO (M_i_FindTo y15 x1 x2 x3 x4) fun (y19, y20) =>
  (bif (bif (!(decide (y19 = y12))) then true else (!(y20 == y13))) then
  some false
  else
  (bindO (M_l_toIntS x0) fun (y22 : List Int) =>
  (bindO (M_l_eqIntS y15 y22) fun (y26 : Bool) =>
  (bif (!y26) then
  some false
  else
  some true)))))))))

theorem ok_l_FnExactFindTo (x0 : List Int) (x1 : Int) (x2 : Int) (x3 : Int) (x4 : Int) (a6 : Option Addr) (c7 : Nat) (r : Bool) (h : M_l_FnExactFindTo x0 x1 x2 x3 x4 = some r) :
    FC Try.prog 9 [.slice a6 x0.length c7, .int .i64 x1, .int .i64 x2, .int .i64 x3, .int .i64 x4] [⟨(.int .i64), ⟨a6, x0.length, c7⟩, x0⟩] (fun _ : Unit => True) (fun _ => .bool r) (fun _ => []) :=
  FC.of (T := TTx) Try.call9 Try.func9 rfl rfl fun w0 => by
    unfold M_l_FnExactFindTo at h
    refine JS.seq ?_
    refine JS.region ?_
    refine JO.reg ttOk 1 [] [] [] _ rfl ⟨trivial, rfl⟩ ?_
    refine JO.done rfl ?_
    refine JS.seq ?_
    refine JS.seq ?_
    refine JS.region ?_
    refine JO.reg ttOk 3 [] [] [(18, .v (.bool (decide (1048576 < (x0.length : Int)))))] _ rfl ⟨⟨rfl, trivial⟩, rfl⟩ ?_
    refine JO.done rfl ?_
    refine JS.cond rfl (fun ht39 => ?_) (fun ht39 => ?_)
    · have h := condT h ht39
      refine JS.seq ?_
      refine JS.region ?_
      refine JO.reg ttOk 1 [] [] [(10, .v (.bool true))] _ rfl ⟨⟨rfl, trivial⟩, rfl⟩ ?_
      refine JO.done rfl ?_
      cases h
      exact JS.ret ttOk () trivial rfl rfl [] rfl
    · have h := condF h ht39
      refine JS.skip ?_
      refine JS.seq ?_
      refine JS.region ?_
      refine JO.reg ttOk 1 [] [] [(20, .v (.slice a6 x0.length c7))] _ rfl ⟨⟨rfl, trivial⟩, rfl⟩ ?_
      obtain ⟨y8, hy31, h⟩ := bindO_some h
      refine JO.call rfl rfl rfl rfl (ok_l_toIntS x0 a6 c7 _ hy31) rfl [0] rfl rfl ?_
      rintro ⟨a10, c11⟩ -
      refine JO.reg ttOk 4 [] [] [(22, .v (.int .i64 x1)), (23, .v (.int .i64 x2)), (24, .v (.int .i64 x3)), (25, .v (.int .i64 x4))] _ rfl ⟨⟨rfl, rfl, rfl, rfl, trivial⟩, rfl⟩ ?_
      obtain ⟨⟨y12, y13⟩, hy32, h⟩ := bindO_some h
      refine JO.call rfl rfl rfl rfl (ok_s_FindTo y8 x1 x2 x3 x4 a10 c11 _ hy32) rfl [1] rfl rfl ?_
      intro _ _
      refine JO.reg ttOk 5 [] [] [(11, .v (.int .i64 y12)), (12, .v (.bool y13))] _ rfl ⟨⟨rfl, rfl, trivial⟩, rfl⟩ ?_
      refine JO.done rfl ?_
      refine JS.seq ?_
      refine JS.region ?_
      refine JO.reg ttOk 1 [] [] [(29, .v (.slice a6 x0.length c7))] _ rfl ⟨⟨rfl, trivial⟩, rfl⟩ ?_
      obtain ⟨y15, hy33, h⟩ := bindO_some h
      refine JO.call rfl rfl rfl rfl (ok_l_toIntS x0 a6 c7 _ hy33) rfl [0] rfl rfl ?_
      rintro ⟨a17, c18⟩ -
      refine JO.reg ttOk 1 [] [] [(13, .v (.slice a17 y15.length c18))] _ rfl ⟨⟨rfl, trivial⟩, rfl⟩ ?_
      refine JO.done rfl ?_
      refine JS.seq ?_
      refine JS.region ?_
      refine JO.reg ttOk 5 [] [] [(32, .v (.slice a17 y15.length c18)), (33, .v (.int .i64 x1)), (34, .v (.int .i64 x2)), (35, .v (.int .i64 x3)), (36, .v (.int .i64 x4))] _ rfl ⟨⟨rfl, rfl, rfl, rfl, rfl, trivial⟩, rfl⟩ ?_
      obtain ⟨⟨y19, y20⟩, hy34, h⟩ := bindO_some h
      refine JO.call rfl rfl rfl rfl (ok_i_FindTo y15 x1 x2 x3 x4 a17 c18 _ hy34) rfl [1] rfl rfl ?_
      intro _ _
      refine JO.reg ttOk 5 [] [] [(14, .v (.int .i64 y19)), (15, .v (.bool y20))] _ rfl ⟨⟨rfl, rfl, trivial⟩, rfl⟩ ?_
      refine JO.done rfl ?_
      refine JS.seq ?_
      refine JS.seq ?_
      refine JS.region ?_
      refine JO.reg ttOk 8 [] [] [(47, .v (.bool (bif (!(decide (y19 = y12))) then true else (!(y20 == y13)))))] _ rfl ⟨⟨rfl, trivial⟩, rfl⟩ ?_
      refine JO.done rfl ?_
      refine JS.cond rfl (fun ht38 => ?_) (fun ht38 => ?_)
      · have h := condT h ht38
        refine JS.seq ?_
        refine JS.region ?_
        refine JO.reg ttOk 1 [] [] [(10, .v (.bool false))] _ rfl ⟨⟨rfl, trivial⟩, rfl⟩ ?_
        refine JO.done rfl ?_
        cases h
        exact JS.ret ttOk () trivial rfl rfl [] rfl
      · have h := condF h ht38
        refine JS.skip ?_
        refine JS.seq ?_
        refine JS.seq ?_
        refine JS.region ?_
        refine JO.reg ttOk 2 [] [] [(48, .v (.slice a17 y15.length c18)), (49, .v (.slice a6 x0.length c7))] _ rfl ⟨⟨rfl, rfl, trivial⟩, rfl⟩ ?_
        obtain ⟨y22, hy35, h⟩ := bindO_some h
        refine JO.call rfl rfl rfl rfl (ok_l_toIntS x0 a6 c7 _ hy35) rfl [0] rfl rfl ?_
        rintro ⟨a24, c25⟩ -
        obtain ⟨y26, hy36, h⟩ := bindO_some h
        refine JO.call rfl rfl rfl rfl (ok_l_eqIntS y15 y22 a17 c18 a24 c25 _ hy36) rfl [2, 1] rfl rfl ?_
        intro _ _
        refine JO.reg ttOk 1 [] [] [(52, .v (.bool (!y26)))] _ rfl ⟨⟨rfl, trivial⟩, rfl⟩ ?_
        refine JO.done rfl ?_
        refine JS.cond rfl (fun ht37 => ?_) (fun ht37 => ?_)
        · have h := condT h ht37
          refine JS.seq ?_
          refine JS.region ?_
          refine JO.reg ttOk 1 [] [] [(10, .v (.bool false))] _ rfl ⟨⟨rfl, trivial⟩, rfl⟩ ?_
          refine JO.done rfl ?_
          cases h
          exact JS.ret ttOk () trivial rfl rfl [] rfl
        · have h := condF h ht37
          refine JS.skip ?_
          refine JS.seq ?_
          refine JS.region ?_
          refine JO.reg ttOk 1 [] [] [(10, .v (.bool true))] _ rfl ⟨⟨rfl, trivial⟩, rfl⟩ ?_
          refine JO.done rfl ?_
          cases h
          exact JS.ret ttOk () trivial rfl rfl [] rfl

end
end Go.Eng
