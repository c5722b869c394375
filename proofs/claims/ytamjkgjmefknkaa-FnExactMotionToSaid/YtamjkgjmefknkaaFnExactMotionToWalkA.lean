/- The walks of the functions that FnExactMotionTo reaches: what each computes, as a plain function (M_..), and that the model computes it (ok_..). Condition of each: that the plain function answers. -/
import Derived.Test.YtamjkgjmefknkaaEngB
import Derived.Test.YtamjkgjmefknkaaChecked
set_option linter.unusedVariables false
set_option linter.unusedSimpArgs false
namespace Go.Eng
open Go Go.Proofs
noncomputable section

def TTx : TT := [
  (2, ⟨.int .i64, 1, 8, [.int .i64 0]⟩),
  (3, ⟨.int .i64, 1, 8, [.int .i64 0]⟩),
  (4, ⟨.bool, 1, 1, [.bool false]⟩),
  (5, ⟨.int .u8, 1, 1, [.int .u8 0]⟩),
  (6, ⟨.int .u8, 1, 1, [.int .u8 0]⟩),
  (7, ⟨.struct [(0, 2), (1, 3), (2, 4), (3, 6)], 4, 24, [.int .i64 0, .int .i64 0, .bool false, .int .u8 0]⟩),
  (8, ⟨.struct [(0, 2), (1, 3), (2, 4), (3, 6)], 4, 24, [.int .i64 0, .int .i64 0, .bool false, .int .u8 0]⟩),
  (9, ⟨.str, 1, 16, [.string ByteArray.empty]⟩),
  (10, ⟨.str, 1, 16, [.string ByteArray.empty]⟩),
  (11, ⟨.str, 1, 16, [.string ByteArray.empty]⟩),
  (12, ⟨.int .u64, 1, 8, [.int .u64 0]⟩),
  (13, ⟨.struct [(0, 9), (1, 12)], 2, 24, [.string ByteArray.empty, .int .u64 0]⟩),
  (14, ⟨.struct [(0, 9), (1, 12)], 2, 24, [.string ByteArray.empty, .int .u64 0]⟩),
  (21, ⟨.int .i32, 1, 4, [.int .i32 0]⟩),
  (22, ⟨.slice 5, 1, 24, [.slice none 0 0]⟩),
  (23, ⟨.slice 3, 1, 24, [.slice none 0 0]⟩),
  (24, ⟨.struct [(0, 23), (1, 3)], 2, 32, [.slice none 0 0, .int .i64 0]⟩),
  (25, ⟨.struct [(0, 23), (1, 3)], 2, 32, [.slice none 0 0, .int .i64 0]⟩),
  (40, ⟨.slice 113, 1, 24, [.slice none 0 0]⟩),
  (41, ⟨.struct [(0, 40)], 1, 24, [.slice none 0 0]⟩),
  (42, ⟨.struct [(0, 40)], 1, 24, [.slice none 0 0]⟩),
  (43, ⟨.slice 25, 1, 24, [.slice none 0 0]⟩),
  (44, ⟨.struct [(0, 43)], 1, 24, [.slice none 0 0]⟩),
  (45, ⟨.struct [(0, 43)], 1, 24, [.slice none 0 0]⟩),
  (46, ⟨.struct [(0, 4), (1, 3), (2, 25), (4, 3), (5, 3), (6, 3), (7, 3), (8, 3), (9, 3), (10, 3), (11, 42), (12, 45), (13, 3), (14, 25), (16, 23), (17, 3), (18, 25)], 20, 256, [.bool false, .int .i64 0, .slice none 0 0, .int .i64 0, .int .i64 0, .int .i64 0, .int .i64 0, .int .i64 0, .int .i64 0, .int .i64 0, .int .i64 0, .slice none 0 0, .slice none 0 0, .int .i64 0, .slice none 0 0, .int .i64 0, .slice none 0 0, .int .i64 0, .slice none 0 0, .int .i64 0]⟩),
  (47, ⟨.struct [(0, 4), (1, 3), (2, 25), (4, 3), (5, 3), (6, 3), (7, 3), (8, 3), (9, 3), (10, 3), (11, 42), (12, 45), (13, 3), (14, 25), (16, 23), (17, 3), (18, 25)], 20, 256, [.bool false, .int .i64 0, .slice none 0 0, .int .i64 0, .int .i64 0, .int .i64 0, .int .i64 0, .int .i64 0, .int .i64 0, .int .i64 0, .int .i64 0, .slice none 0 0, .slice none 0 0, .int .i64 0, .slice none 0 0, .int .i64 0, .slice none 0 0, .int .i64 0, .slice none 0 0, .int .i64 0]⟩),
  (52, ⟨.struct [(0, 23), (1, 3)], 2, 32, [.slice none 0 0, .int .i64 0]⟩),
  (53, ⟨.slice 124, 1, 24, [.slice none 0 0]⟩),
  (54, ⟨.struct [(0, 53)], 1, 24, [.slice none 0 0]⟩),
  (55, ⟨.struct [(0, 53)], 1, 24, [.slice none 0 0]⟩),
  (56, ⟨.slice 52, 1, 24, [.slice none 0 0]⟩),
  (57, ⟨.struct [(0, 56)], 1, 24, [.slice none 0 0]⟩),
  (58, ⟨.struct [(0, 56)], 1, 24, [.slice none 0 0]⟩),
  (59, ⟨.struct [(0, 4), (1, 3), (2, 52), (4, 3), (5, 3), (6, 3), (7, 3), (8, 3), (9, 3), (10, 3), (11, 55), (12, 58), (13, 3), (14, 52), (16, 23), (17, 3), (18, 52)], 20, 256, [.bool false, .int .i64 0, .slice none 0 0, .int .i64 0, .int .i64 0, .int .i64 0, .int .i64 0, .int .i64 0, .int .i64 0, .int .i64 0, .int .i64 0, .slice none 0 0, .slice none 0 0, .int .i64 0, .slice none 0 0, .int .i64 0, .slice none 0 0, .int .i64 0, .slice none 0 0, .int .i64 0]⟩),
  (60, ⟨.struct [(0, 4), (1, 3), (2, 52), (4, 3), (5, 3), (6, 3), (7, 3), (8, 3), (9, 3), (10, 3), (11, 55), (12, 58), (13, 3), (14, 52), (16, 23), (17, 3), (18, 52)], 20, 256, [.bool false, .int .i64 0, .slice none 0 0, .int .i64 0, .int .i64 0, .int .i64 0, .int .i64 0, .int .i64 0, .int .i64 0, .int .i64 0, .int .i64 0, .slice none 0 0, .slice none 0 0, .int .i64 0, .slice none 0 0, .int .i64 0, .slice none 0 0, .int .i64 0, .slice none 0 0, .int .i64 0]⟩),
  (101, ⟨.struct [(0, 22), (1, 3), (2, 3)], 3, 40, [.slice none 0 0, .int .i64 0, .int .i64 0]⟩),
  (102, ⟨.struct [(0, 22), (1, 3), (2, 3)], 3, 40, [.slice none 0 0, .int .i64 0, .int .i64 0]⟩),
  (112, ⟨.struct [(0, 23)], 1, 24, [.slice none 0 0]⟩),
  (113, ⟨.struct [(0, 23)], 1, 24, [.slice none 0 0]⟩),
  (120, ⟨.int .u64, 1, 8, [.int .u64 0]⟩),
  (124, ⟨.struct [(0, 23)], 1, 24, [.slice none 0 0]⟩),
  (134, ⟨.int .u32, 1, 4, [.int .u32 0]⟩),
  (135, ⟨.int .u8, 1, 1, [.int .u8 0]⟩),
  (136, ⟨.int .u8, 1, 1, [.int .u8 0]⟩),
  (139, ⟨.int .i32, 1, 4, [.int .i32 0]⟩),
  (140, ⟨.int .i32, 1, 4, [.int .i32 0]⟩)]

set_option maxRecDepth 100000 in
theorem ttOk : TTok Try.prog TTx := TTok.of (by
  simp only [TTx, List.forall_mem_cons]
  exact ⟨⟨⟨_, _, rfl, rfl, rfl, rfl, rfl⟩, rfl⟩, ⟨⟨_, _, rfl, rfl, rfl, rfl, rfl⟩, rfl⟩, ⟨⟨_, _, rfl, rfl, rfl, rfl, rfl⟩, rfl⟩, ⟨⟨_, _, rfl, rfl, rfl, rfl, rfl⟩, rfl⟩, ⟨⟨_, _, rfl, rfl, rfl, rfl, rfl⟩, rfl⟩, ⟨⟨_, _, rfl, rfl, rfl, rfl, rfl⟩, ⟨_, rfl, rfl⟩⟩, ⟨⟨_, _, rfl, rfl, rfl, rfl, rfl⟩, ⟨_, rfl, rfl⟩⟩, ⟨⟨_, _, rfl, rfl, rfl, rfl, rfl⟩, rfl⟩, ⟨⟨_, _, rfl, rfl, rfl, rfl, rfl⟩, rfl⟩, ⟨⟨_, _, rfl, rfl, rfl, rfl, rfl⟩, rfl⟩, ⟨⟨_, _, rfl, rfl, rfl, rfl, rfl⟩, rfl⟩, ⟨⟨_, _, rfl, rfl, rfl, rfl, rfl⟩, ⟨_, rfl, rfl⟩⟩, ⟨⟨_, _, rfl, rfl, rfl, rfl, rfl⟩, ⟨_, rfl, rfl⟩⟩, ⟨⟨_, _, rfl, rfl, rfl, rfl, rfl⟩, rfl⟩, ⟨⟨_, _, rfl, rfl, rfl, rfl, rfl⟩, rfl⟩, ⟨⟨_, _, rfl, rfl, rfl, rfl, rfl⟩, rfl⟩, ⟨⟨_, _, rfl, rfl, rfl, rfl, rfl⟩, ⟨_, rfl, rfl⟩⟩, ⟨⟨_, _, rfl, rfl, rfl, rfl, rfl⟩, ⟨_, rfl, rfl⟩⟩, ⟨⟨_, _, rfl, rfl, rfl, rfl, rfl⟩, rfl⟩, ⟨⟨_, _, rfl, rfl, rfl, rfl, rfl⟩, ⟨_, rfl, rfl⟩⟩, ⟨⟨_, _, rfl, rfl, rfl, rfl, rfl⟩, ⟨_, rfl, rfl⟩⟩, ⟨⟨_, _, rfl, rfl, rfl, rfl, rfl⟩, rfl⟩, ⟨⟨_, _, rfl, rfl, rfl, rfl, rfl⟩, ⟨_, rfl, rfl⟩⟩, ⟨⟨_, _, rfl, rfl, rfl, rfl, rfl⟩, ⟨_, rfl, rfl⟩⟩, ⟨⟨_, _, rfl, rfl, rfl, rfl, rfl⟩, ⟨_, rfl, rfl⟩⟩, ⟨⟨_, _, rfl, rfl, rfl, rfl, rfl⟩, ⟨_, rfl, rfl⟩⟩, ⟨⟨_, _, rfl, rfl, rfl, rfl, rfl⟩, ⟨_, rfl, rfl⟩⟩, ⟨⟨_, _, rfl, rfl, rfl, rfl, rfl⟩, rfl⟩, ⟨⟨_, _, rfl, rfl, rfl, rfl, rfl⟩, ⟨_, rfl, rfl⟩⟩, ⟨⟨_, _, rfl, rfl, rfl, rfl, rfl⟩, ⟨_, rfl, rfl⟩⟩, ⟨⟨_, _, rfl, rfl, rfl, rfl, rfl⟩, rfl⟩, ⟨⟨_, _, rfl, rfl, rfl, rfl, rfl⟩, ⟨_, rfl, rfl⟩⟩, ⟨⟨_, _, rfl, rfl, rfl, rfl, rfl⟩, ⟨_, rfl, rfl⟩⟩, ⟨⟨_, _, rfl, rfl, rfl, rfl, rfl⟩, ⟨_, rfl, rfl⟩⟩, ⟨⟨_, _, rfl, rfl, rfl, rfl, rfl⟩, ⟨_, rfl, rfl⟩⟩, ⟨⟨_, _, rfl, rfl, rfl, rfl, rfl⟩, ⟨_, rfl, rfl⟩⟩, ⟨⟨_, _, rfl, rfl, rfl, rfl, rfl⟩, ⟨_, rfl, rfl⟩⟩, ⟨⟨_, _, rfl, rfl, rfl, rfl, rfl⟩, ⟨_, rfl, rfl⟩⟩, ⟨⟨_, _, rfl, rfl, rfl, rfl, rfl⟩, ⟨_, rfl, rfl⟩⟩, ⟨⟨_, _, rfl, rfl, rfl, rfl, rfl⟩, rfl⟩, ⟨⟨_, _, rfl, rfl, rfl, rfl, rfl⟩, ⟨_, rfl, rfl⟩⟩, ⟨⟨_, _, rfl, rfl, rfl, rfl, rfl⟩, rfl⟩, ⟨⟨_, _, rfl, rfl, rfl, rfl, rfl⟩, rfl⟩, ⟨⟨_, _, rfl, rfl, rfl, rfl, rfl⟩, rfl⟩, ⟨⟨_, _, rfl, rfl, rfl, rfl, rfl⟩, rfl⟩, ⟨⟨_, _, rfl, rfl, rfl, rfl, rfl⟩, rfl⟩, by simp⟩)

def M_l_toIntS_L1 (x0 : List Int) (j25 : (List Int) → Option (List Int)) (k17 : (List Int × Int) → Option (List Int)) : (List Int × Int) → Option (List Int) := fun (x8, x11) =>
  (bif (decide (x11 < (x0.length : Int))) then
  (guardO (0 ≤ x11 ∧ x11 < (x0.length : Int)) <|
  (guardO (0 ≤ x11 ∧ x11 < (x8.length : Int)) <|
  k17 ((List.set x8 (Int.toNat x11) (at' x0 x11)), (W (x11 + 1)))))
  else
  j25 x8)

def M_l_toIntS (x0 : List Int) : Option (List Int) :=
  (guardO (x0.length ≤ 536870912) <|
  (joinO (fun (x22 : List Int) =>
  some x22) fun j25 =>
  (fixF (M_l_toIntS_L1 x0 j25) FUEL ((List.replicate x0.length (0 : Int)), 0))))

theorem ok_l_toIntS (x0 : List Int) (a2 : Option Addr) (c3 : Nat) (l4 : Nat) (hl5 : x0.length = l4) (r : List Int) (h : M_l_toIntS x0 = some r) :
    FC Try.prog 18 [.slice a2 l4 c3] [⟨(.int .i64), ⟨a2, l4, c3⟩, x0⟩] (fun _ : Option Addr × Nat => True) (fun q => .slice q.1 r.length q.2) (fun q => [⟨(.int .i64), ⟨q.1, r.length, q.2⟩, r⟩]) :=
  by
    subst hl5
    refine FC.of (T := TTx) Try.call18 Try.func18 rfl rfl fun w0 => ?_
    unfold M_l_toIntS at h
    refine JS.seq ?_
    refine JS.region ?_
    refine JO.reg ttOk 1 [] [] [] _ rfl ⟨trivial, rfl⟩ ?_
    refine JO.done rfl ?_
    refine JS.seq ?_
    refine JS.region ?_
    refine JO.reg ttOk 2 [] [] [(6, .v (.int .i64 (x0.length : Int)))] _ rfl ⟨⟨rfl, trivial⟩, rfl⟩ ?_
    obtain ⟨g6, h⟩ := guardO_some h
    refine JO.makeSlice ttOk rfl rfl rfl rfl rfl rfl rfl rfl x0.length rfl g6 (.int .i64) rfl rfl rfl rfl rfl ?_
    intro a7
    refine JO.reg ttOk 1 [] [] [(3, .v (.slice a7 x0.length x0.length))] _ rfl ⟨⟨rfl, trivial⟩, rfl⟩ ?_
    refine JO.done rfl ?_
    refine JS.seq ?_
    refine JS.seq ?_
    refine JS.region ?_
    refine JO.reg ttOk 1 [] [] [(4, .v (.int .i64 0))] _ rfl ⟨⟨rfl, trivial⟩, rfl⟩ ?_
    refine JO.done rfl ?_
    obtain ⟨j25, hj33, h⟩ := joinO_some h
    refine JS.blockJ (ι := List Int × Option Addr × Nat) ⟨fun z => j25 z.1 = some r, fun z => [(3, .v (.slice z.2.1 z.1.length z.2.2))], fun z => .nil, fun z => [], fun z => [⟨(.int .i64), ⟨z.2.1, z.1.length, z.2.2⟩, z.1⟩], fun z => 0⟩ ?_ ?_
    · refine JS.loop (ι := Nat × List Int × Int × Option Addr × Nat) ⟨fun z => fixF (M_l_toIntS_L1 x0 j25) z.1 (z.2.1, z.2.2.1) = some r, fun z => [(0, .v (.slice a2 x0.length c3)), (3, .v (.slice z.2.2.2.1 z.2.1.length z.2.2.2.2)), (4, .v (.int .i64 z.2.2.1))], fun z => .nil, fun z => [⟨(.int .i64), ⟨a2, x0.length, c3⟩, x0⟩], fun z => [⟨(.int .i64), ⟨z.2.2.2.1, z.2.1.length, z.2.2.2.2⟩, z.2.1⟩], fun z => z.1⟩ (FUEL, (List.replicate x0.length (0 : Int)), 0, a7, x0.length) h ⟨rfl, (by simp only [List.length_set, List.length_replicate, pickO, getF]; rfl), rfl, trivial⟩ trivial [0] rfl [0] (by simp only [List.length_set, List.length_replicate, pickO, getF]; rfl) ?_
      rintro ⟨n18, x8, x11, a9, c10⟩ h
      obtain ⟨n18, rfl, h⟩ := fixF_some h
      rw [M_l_toIntS_L1] at h
      refine JS.seq ?_
      refine JS.seq ?_
      refine JS.region ?_
      refine JO.reg ttOk 4 [] [] [(11, .v (.bool (decide (x11 < (x0.length : Int)))))] _ rfl ⟨⟨rfl, trivial⟩, rfl⟩ ?_
      refine JO.done rfl ?_
      refine JS.cond rfl (fun ht32 => ?_) (fun ht32 => ?_)
      · have h := condT h ht32
        refine JS.skip ?_
        refine JS.seq ?_
        refine JS.block ?_
        refine JS.region ?_
        refine JO.know 0 rfl fun hs30 => ?_
        obtain ⟨g13, h⟩ := guardO_some h
        refine JO.reg ttOk 5 [] [] [(14, .v (.slice a9 x8.length c10)), (15, .v (.int .i64 x11)), (18, .ep ⟨a2, x0.length, c3⟩ (Int.toNat x11 * 1))] _ rfl ⟨hs30.ix g13, ⟨rfl, rfl, rfl, trivial⟩, rfl⟩ ?_
        refine JO.load ttOk rfl rfl rfl rfl rfl rfl rfl 0 rfl rfl (Int.toNat x11) 0 (at' x0 x11) ⟨at_some g13, rfl⟩ rfl rfl ?_
        refine JO.know 1 rfl fun hs31 => ?_
        obtain ⟨g15, h⟩ := guardO_some h
        refine JO.reg ttOk 1 [] [] [(20, .ep ⟨a9, x8.length, c10⟩ (Int.toNat x11 * 1))] _ rfl ⟨hs31.ix g15, ⟨rfl, trivial⟩, rfl⟩ ?_
        refine JO.storeE ttOk rfl rfl rfl rfl rfl rfl rfl rfl rfl [0] (fs := []) rfl (Int.toNat x11) 0 (at' x8 x11) (at' x0 x11) ⟨at_some g15, rfl⟩ ⟨rfl, rfl, rfl⟩ ?_
        refine JO.done rfl ?_
        refine JS.endB ?_
        refine JS.region ?_
        refine JO.reg ttOk 3 [(W (x11 + 1))] [] [(4, .v (.int .i64 (W (x11 + 1))))] _ rfl ⟨⟨trivial, rfl⟩, ⟨rfl, trivial⟩, rfl⟩ ?_
        refine JO.done rfl ?_
        exact JS.endL (n18, (List.set x8 (Int.toNat x11) (at' x0 x11)), (W (x11 + 1)), a9, c10) h (Nat.lt_succ_self _) ⟨rfl, (by simp only [List.length_set, List.length_replicate, pickO, getF]; rfl), rfl, trivial⟩ trivial [0] rfl [0] (by simp only [List.length_set, List.length_replicate, pickO, getF]; rfl)
      · have h := condF h ht32
        refine JS.exit rfl ?_
        exact JS.endJ (x8, a9, c10) h ⟨rfl, trivial⟩ trivial [] rfl [0] rfl
    · rintro ⟨x22, a23, c24⟩ h
      subst hj33
      refine JS.seq ?_
      refine JS.region ?_
      refine JO.reg ttOk 2 [] [] [(2, .v (.slice a23 x22.length c24))] _ rfl ⟨⟨rfl, trivial⟩, rfl⟩ ?_
      refine JO.done rfl ?_
      cases h
      exact JS.ret ttOk (a23, c24) trivial rfl rfl [0] rfl

def M_s_l08Clamp (x0 : Int) (x1 : Int) : Option Int :=
  (bif (decide (x0 < 0)) then
  some 0
  else
  (bif (decide (x1 < x0)) then
  some x1
  else
  some x0))

theorem ok_s_l08Clamp (x0 : Int) (x1 : Int) (r : Int) (h : M_s_l08Clamp x0 x1 = some r) :
    FC Try.prog 53 [.int .i64 x0, .int .i64 x1] [] (fun _ : Unit => True) (fun _ => .int .i64 r) (fun _ => []) :=
  by
    refine FC.of (T := TTx) Try.call53 Try.func53 rfl rfl fun w0 => ?_
    unfold M_s_l08Clamp at h
    refine JS.seq ?_
    refine JS.region ?_
    refine JO.reg ttOk 1 [] [] [] _ rfl ⟨trivial, rfl⟩ ?_
    refine JO.done rfl ?_
    refine JS.seq ?_
    refine JS.seq ?_
    refine JS.region ?_
    refine JO.reg ttOk 2 [] [] [(6, .v (.bool (decide (x0 < 0))))] _ rfl ⟨⟨rfl, trivial⟩, rfl⟩ ?_
    refine JO.done rfl ?_
    refine JS.cond rfl (fun ht6 => ?_) (fun ht6 => ?_)
    · have h := condT h ht6
      refine JS.seq ?_
      refine JS.region ?_
      refine JO.reg ttOk 1 [] [] [(4, .v (.int .i64 0))] _ rfl ⟨⟨rfl, trivial⟩, rfl⟩ ?_
      refine JO.done rfl ?_
      cases h
      exact JS.ret ttOk () trivial rfl rfl [] rfl
    · have h := condF h ht6
      refine JS.skip ?_
      refine JS.seq ?_
      refine JS.seq ?_
      refine JS.region ?_
      refine JO.reg ttOk 3 [] [] [(9, .v (.bool (decide (x1 < x0))))] _ rfl ⟨⟨rfl, trivial⟩, rfl⟩ ?_
      refine JO.done rfl ?_
      refine JS.cond rfl (fun ht5 => ?_) (fun ht5 => ?_)
      · have h := condT h ht5
        refine JS.seq ?_
        refine JS.region ?_
        refine JO.reg ttOk 2 [] [] [(4, .v (.int .i64 x1))] _ rfl ⟨⟨rfl, trivial⟩, rfl⟩ ?_
        refine JO.done rfl ?_
        cases h
        exact JS.ret ttOk () trivial rfl rfl [] rfl
      · have h := condF h ht5
        refine JS.skip ?_
        refine JS.seq ?_
        refine JS.region ?_
        refine JO.reg ttOk 2 [] [] [(4, .v (.int .i64 x0))] _ rfl ⟨⟨rfl, trivial⟩, rfl⟩ ?_
        refine JO.done rfl ?_
        cases h
        exact JS.ret ttOk () trivial rfl rfl [] rfl

def M_s_l22Times (x0 : Int) : Option Int :=
  (bif (decide (x0 < 1)) then
  some 1
  else
  (bif (decide (999 < x0)) then
  some 999
  else
  some x0))

theorem ok_s_l22Times (x0 : Int) (r : Int) (h : M_s_l22Times x0 = some r) :
    FC Try.prog 54 [.int .i64 x0] [] (fun _ : Unit => True) (fun _ => .int .i64 r) (fun _ => []) :=
  by
    refine FC.of (T := TTx) Try.call54 Try.func54 rfl rfl fun w0 => ?_
    unfold M_s_l22Times at h
    refine JS.seq ?_
    refine JS.region ?_
    refine JO.reg ttOk 1 [] [] [] _ rfl ⟨trivial, rfl⟩ ?_
    refine JO.done rfl ?_
    refine JS.seq ?_
    refine JS.seq ?_
    refine JS.region ?_
    refine JO.reg ttOk 2 [] [] [(4, .v (.bool (decide (x0 < 1))))] _ rfl ⟨⟨rfl, trivial⟩, rfl⟩ ?_
    refine JO.done rfl ?_
    refine JS.cond rfl (fun ht5 => ?_) (fun ht5 => ?_)
    · have h := condT h ht5
      refine JS.seq ?_
      refine JS.region ?_
      refine JO.reg ttOk 1 [] [] [(2, .v (.int .i64 1))] _ rfl ⟨⟨rfl, trivial⟩, rfl⟩ ?_
      refine JO.done rfl ?_
      cases h
      exact JS.ret ttOk () trivial rfl rfl [] rfl
    · have h := condF h ht5
      refine JS.skip ?_
      refine JS.seq ?_
      refine JS.seq ?_
      refine JS.region ?_
      refine JO.reg ttOk 2 [] [] [(6, .v (.bool (decide (999 < x0))))] _ rfl ⟨⟨rfl, trivial⟩, rfl⟩ ?_
      refine JO.done rfl ?_
      refine JS.cond rfl (fun ht4 => ?_) (fun ht4 => ?_)
      · have h := condT h ht4
        refine JS.seq ?_
        refine JS.region ?_
        refine JO.reg ttOk 1 [] [] [(2, .v (.int .i64 999))] _ rfl ⟨⟨rfl, trivial⟩, rfl⟩ ?_
        refine JO.done rfl ?_
        cases h
        exact JS.ret ttOk () trivial rfl rfl [] rfl
      · have h := condF h ht4
        refine JS.skip ?_
        refine JS.seq ?_
        refine JS.region ?_
        refine JO.reg ttOk 2 [] [] [(2, .v (.int .i64 x0))] _ rfl ⟨⟨rfl, trivial⟩, rfl⟩ ?_
        refine JO.done rfl ?_
        cases h
        exact JS.ret ttOk () trivial rfl rfl [] rfl

def M_s_RuneOk (x0 : Int) : Option Bool :=
  some (bif (bif (decide (0 ≤ x0)) then (decide (x0 ≤ 1114111)) else false) then (bif (decide (x0 < 55296)) then true else (decide (57343 < x0))) else false)

theorem ok_s_RuneOk (x0 : Int) (r : Bool) (h : M_s_RuneOk x0 = some r) :
    FC Try.prog 114 [.int .i64 x0] [] (fun _ : Unit => True) (fun _ => .bool r) (fun _ => []) :=
  by
    refine FC.of (T := TTx) Try.call114 Try.func114 rfl rfl fun w0 => ?_
    unfold M_s_RuneOk at h
    refine JS.seq ?_
    refine JS.region ?_
    refine JO.reg ttOk 1 [] [] [] _ rfl ⟨trivial, rfl⟩ ?_
    refine JO.done rfl ?_
    refine JS.seq ?_
    refine JS.region ?_
    refine JO.reg ttOk 15 [] [] [(2, .v (.bool (bif (bif (decide (0 ≤ x0)) then (decide (x0 ≤ 1114111)) else false) then (bif (decide (x0 < 55296)) then true else (decide (57343 < x0))) else false)))] _ rfl ⟨⟨rfl, trivial⟩, rfl⟩ ?_
    refine JO.done rfl ?_
    cases h
    exact JS.ret ttOk () trivial rfl rfl [] rfl

def M_s_Printable (x0 : Int) : Option Bool :=
  (bindO (M_s_RuneOk x0) fun (y2 : Bool) =>
  some (bif (bif y2 then (decide (32 ≤ x0)) else false) then (bif (decide (x0 < 127)) then true else (decide (159 < x0))) else false))

theorem ok_s_Printable (x0 : Int) (r : Bool) (h : M_s_Printable x0 = some r) :
    FC Try.prog 73 [.int .i64 x0] [] (fun _ : Unit => True) (fun _ => .bool r) (fun _ => []) :=
  by
    refine FC.of (T := TTx) Try.call73 Try.func73 rfl rfl fun w0 => ?_
    unfold M_s_Printable at h
    refine JS.seq ?_
    refine JS.region ?_
    refine JO.reg ttOk 1 [] [] [] _ rfl ⟨trivial, rfl⟩ ?_
    refine JO.done rfl ?_
    refine JS.seq ?_
    refine JS.region ?_
    refine JO.reg ttOk 1 [] [] [(3, .v (.int .i64 x0))] _ rfl ⟨⟨rfl, trivial⟩, rfl⟩ ?_
    obtain ⟨y2, hy3, h⟩ := bindO_some h
    refine JO.call rfl rfl rfl rfl (ok_s_RuneOk x0 _ hy3) rfl [] rfl rfl ?_
    intro _ _
    refine JO.reg ttOk 13 [] [] [(2, .v (.bool (bif (bif y2 then (decide (32 ≤ x0)) else false) then (bif (decide (x0 < 127)) then true else (decide (159 < x0))) else false)))] _ rfl ⟨⟨rfl, trivial⟩, rfl⟩ ?_
    refine JO.done rfl ?_
    cases h
    exact JS.ret ttOk () trivial rfl rfl [] rfl

def M_s_ClassOf (x0 : Int) : Option Int :=
  (bif (bif (bif (decide (x0 = 9)) then true else (decide (x0 = 10))) then true else (decide (x0 = 32))) then
  some 0
  else
  (callO ((decide (159 < x0)) = true ∧ (bif (bif (bif (bif (decide (97 ≤ x0)) then (decide (x0 ≤ 122)) else false) then true else (bif (decide (65 ≤ x0)) then (decide (x0 ≤ 90)) else false)) then true else (bif (decide (48 ≤ x0)) then (decide (x0 ≤ 57)) else false)) then true else (decide (x0 = 95))) = false) (M_s_Printable x0) false fun (y2 : Bool) =>
  (bif (bif (bif (bif (bif (bif (decide (97 ≤ x0)) then (decide (x0 ≤ 122)) else false) then true else (bif (decide (65 ≤ x0)) then (decide (x0 ≤ 90)) else false)) then true else (bif (decide (48 ≤ x0)) then (decide (x0 ≤ 57)) else false)) then true else (decide (x0 = 95))) then true else (bif (decide (159 < x0)) then y2 else false)) then
  some 1
  else
  some 2)))

theorem ok_s_ClassOf (x0 : Int) (r : Int) (h : M_s_ClassOf x0 = some r) :
    FC Try.prog 55 [.int .i64 x0] [] (fun _ : Unit => True) (fun _ => .int .i64 r) (fun _ => []) :=
  by
    refine FC.of (T := TTx) Try.call55 Try.func55 rfl rfl fun w0 => ?_
    unfold M_s_ClassOf at h
    refine JS.seq ?_
    refine JS.region ?_
    refine JO.reg ttOk 1 [] [] [] _ rfl ⟨trivial, rfl⟩ ?_
    refine JO.done rfl ?_
    refine JS.seq ?_
    refine JS.seq ?_
    refine JS.region ?_
    refine JO.reg ttOk 10 [] [] [(12, .v (.bool (bif (bif (decide (x0 = 9)) then true else (decide (x0 = 10))) then true else (decide (x0 = 32)))))] _ rfl ⟨⟨rfl, trivial⟩, rfl⟩ ?_
    refine JO.done rfl ?_
    refine JS.cond rfl (fun ht11 => ?_) (fun ht11 => ?_)
    · have h := condT h ht11
      refine JS.seq ?_
      refine JS.region ?_
      refine JO.reg ttOk 1 [] [] [(2, .v (.int .i64 0))] _ rfl ⟨⟨rfl, trivial⟩, rfl⟩ ?_
      refine JO.done rfl ?_
      cases h
      exact JS.ret ttOk () trivial rfl rfl [] rfl
    · have h := condF h ht11
      refine JS.skip ?_
      refine JS.seq ?_
      refine JS.seq ?_
      refine JS.region ?_
      refine JO.reg ttOk 31 [] [] [(39, .v (.bool (bif (bif (bif (bif (decide (97 ≤ x0)) then (decide (x0 ≤ 122)) else false) then true else (bif (decide (65 ≤ x0)) then (decide (x0 ≤ 90)) else false)) then true else (bif (decide (48 ≤ x0)) then (decide (x0 ≤ 57)) else false)) then true else (decide (x0 = 95))))), (42, .cd [(39, false)] (.v (.bool (decide (159 < x0))))), (43, .cd [(42, true), (39, false)] (.v (.int .i64 x0)))] _ rfl ⟨⟨rfl, rfl, rfl, trivial⟩, rfl⟩ ?_
      obtain ⟨y2, hy3, -, h⟩ := callO_some h
      refine JO.callg rfl rfl rfl rfl (fun q8 q9 => ok_s_Printable x0 _ (hy3 ⟨q8, q9⟩)) rfl [] rfl rfl ?_
      refine JO.reg ttOk 2 [] [] [(46, .v (.bool (bif (bif (bif (bif (bif (decide (97 ≤ x0)) then (decide (x0 ≤ 122)) else false) then true else (bif (decide (65 ≤ x0)) then (decide (x0 ≤ 90)) else false)) then true else (bif (decide (48 ≤ x0)) then (decide (x0 ≤ 57)) else false)) then true else (decide (x0 = 95))) then true else (bif (decide (159 < x0)) then y2 else false))))] _ rfl ⟨⟨rfl, trivial⟩, rfl⟩ ?_
      refine JO.done rfl ?_
      refine JS.cond rfl (fun ht10 => ?_) (fun ht10 => ?_)
      · have h := condT h ht10
        refine JS.seq ?_
        refine JS.region ?_
        refine JO.reg ttOk 1 [] [] [(2, .v (.int .i64 1))] _ rfl ⟨⟨rfl, trivial⟩, rfl⟩ ?_
        refine JO.done rfl ?_
        cases h
        exact JS.ret ttOk () trivial rfl rfl [] rfl
      · have h := condF h ht10
        refine JS.skip ?_
        refine JS.seq ?_
        refine JS.region ?_
        refine JO.reg ttOk 1 [] [] [(2, .v (.int .i64 2))] _ rfl ⟨⟨rfl, trivial⟩, rfl⟩ ?_
        refine JO.done rfl ?_
        cases h
        exact JS.ret ttOk () trivial rfl rfl [] rfl

def M_s_l14Class (x0 : Int) (x1 : Bool) : Option Int :=
  (bindO (M_s_ClassOf x0) fun (y3 : Int) =>
  (bif (bif x1 then (decide (y3 = 2)) else false) then
  some 1
  else
  some y3))

theorem ok_s_l14Class (x0 : Int) (x1 : Bool) (r : Int) (h : M_s_l14Class x0 x1 = some r) :
    FC Try.prog 130 [.int .i64 x0, .bool x1] [] (fun _ : Unit => True) (fun _ => .int .i64 r) (fun _ => []) :=
  by
    refine FC.of (T := TTx) Try.call130 Try.func130 rfl rfl fun w0 => ?_
    unfold M_s_l14Class at h
    refine JS.seq ?_
    refine JS.region ?_
    refine JO.reg ttOk 1 [] [] [] _ rfl ⟨trivial, rfl⟩ ?_
    refine JO.done rfl ?_
    refine JS.seq ?_
    refine JS.region ?_
    refine JO.reg ttOk 1 [] [] [(6, .v (.int .i64 x0))] _ rfl ⟨⟨rfl, trivial⟩, rfl⟩ ?_
    obtain ⟨y3, hy4, h⟩ := bindO_some h
    refine JO.call rfl rfl rfl rfl (ok_s_ClassOf x0 _ hy4) rfl [] rfl rfl ?_
    intro _ _
    refine JO.reg ttOk 1 [] [] [(5, .v (.int .i64 y3))] _ rfl ⟨⟨rfl, trivial⟩, rfl⟩ ?_
    refine JO.done rfl ?_
    refine JS.seq ?_
    refine JS.seq ?_
    refine JS.region ?_
    refine JO.reg ttOk 5 [] [] [(12, .v (.bool (bif x1 then (decide (y3 = 2)) else false)))] _ rfl ⟨⟨rfl, trivial⟩, rfl⟩ ?_
    refine JO.done rfl ?_
    refine JS.cond rfl (fun ht6 => ?_) (fun ht6 => ?_)
    · have h := condT h ht6
      refine JS.seq ?_
      refine JS.region ?_
      refine JO.reg ttOk 1 [] [] [(4, .v (.int .i64 1))] _ rfl ⟨⟨rfl, trivial⟩, rfl⟩ ?_
      refine JO.done rfl ?_
      cases h
      exact JS.ret ttOk () trivial rfl rfl [] rfl
    · have h := condF h ht6
      refine JS.skip ?_
      refine JS.seq ?_
      refine JS.region ?_
      refine JO.reg ttOk 2 [] [] [(4, .v (.int .i64 y3))] _ rfl ⟨⟨rfl, trivial⟩, rfl⟩ ?_
      refine JO.done rfl ?_
      cases h
      exact JS.ret ttOk () trivial rfl rfl [] rfl

def M_s_ViWordBack_L1 (x0 : List Int) (x2 : Bool) (j29 : Int → Option Int) (k20 : Int → Option Int) : Int → Option Int := fun x10 =>
  (guardO (((decide (0 < x10)) = true) → 0 ≤ (W (x10 - 1)) ∧ (W (x10 - 1)) < (x0.length : Int)) <|
  (callO ((decide (0 < x10)) = true) (M_s_l14Class (at' x0 (W (x10 - 1))) x2) (0 : Int) fun (y16 : Int) =>
  (bif (bif (decide (0 < x10)) then (decide (y16 = 0)) else false) then
  k20 (W (x10 - 1))
  else
  j29 x10)))

def M_s_ViWordBack_L2 (x0 : List Int) (x2 : Bool) (y38 : Int) (j59 : Int → Option Int) (k50 : Int → Option Int) : Int → Option Int := fun x40 =>
  (guardO (((decide (0 < x40)) = true) → 0 ≤ (W (x40 - 1)) ∧ (W (x40 - 1)) < (x0.length : Int)) <|
  (callO ((decide (0 < x40)) = true) (M_s_l14Class (at' x0 (W (x40 - 1))) x2) (0 : Int) fun (y46 : Int) =>
  (bif (bif (decide (0 < x40)) then (decide (y46 = y38)) else false) then
  k50 (W (x40 - 1))
  else
  j59 x40)))

def M_s_ViWordBack (x0 : List Int) (x1 : Int) (x2 : Bool) : Option Int :=
  (bindO (M_s_l08Clamp x1 (x0.length : Int)) fun (y8 : Int) =>
  (joinO (fun (x28 : Int) =>
  (bif (decide (x28 = 0)) then
  some 0
  else
  (guardO (0 ≤ (W (x28 - 1)) ∧ (W (x28 - 1)) < (x0.length : Int)) <|
  (bindO (M_s_l14Class (at' x0 (W (x28 - 1))) x2) fun (y38 : Int) =>
  (joinO (fun (x58 : Int) =>
  some x58) fun j59 =>
  (fixF (M_s_ViWordBack_L2 x0 x2 y38 j59) FUEL x28)))))) fun j29 =>
  (fixF (M_s_ViWordBack_L1 x0 x2 j29) FUEL y8)))

theorem ok_s_ViWordBack (x0 : List Int) (x1 : Int) (x2 : Bool) (a4 : Option Addr) (c5 : Nat) (l6 : Nat) (hl7 : x0.length = l6) (r : Int) (h : M_s_ViWordBack x0 x1 x2 = some r) :
    FC Try.prog 101 [.slice a4 l6 c5, .int .i64 x1, .bool x2] [⟨(.int .i64), ⟨a4, l6, c5⟩, x0⟩] (fun _ : Unit => True) (fun _ => .int .i64 r) (fun _ => []) :=
  by
    subst hl7
    refine FC.of (T := TTx) Try.call101 Try.func101 rfl rfl fun w0 => ?_
    unfold M_s_ViWordBack at h
    refine JS.seq ?_
    refine JS.region ?_
    refine JO.reg ttOk 1 [] [] [] _ rfl ⟨trivial, rfl⟩ ?_
    refine JO.done rfl ?_
    refine JS.seq ?_
    refine JS.region ?_
    refine JO.reg ttOk 3 [] [] [(8, .v (.int .i64 x1)), (10, .v (.int .i64 (x0.length : Int)))] _ rfl ⟨⟨rfl, rfl, trivial⟩, rfl⟩ ?_
    obtain ⟨y8, hy9, h⟩ := bindO_some h
    refine JO.call rfl rfl rfl rfl (ok_s_l08Clamp x1 (x0.length : Int) _ hy9) rfl [] rfl rfl ?_
    intro _ _
    refine JO.reg ttOk 1 [] [] [(1, .v (.int .i64 y8))] _ rfl ⟨⟨rfl, trivial⟩, rfl⟩ ?_
    refine JO.done rfl ?_
    refine JS.seq ?_
    obtain ⟨j29, hj84, h⟩ := joinO_some h
    refine JS.blockJ (ι := Int) ⟨fun z => j29 z = some r, fun z => [(0, .v (.slice a4 x0.length c5)), (1, .v (.int .i64 z)), (2, .v (.bool x2))], fun z => .nil, fun z => [⟨(.int .i64), ⟨a4, x0.length, c5⟩, x0⟩], fun z => [], fun z => 0⟩ ?_ ?_
    · refine JS.loop (ι := Nat × Int) ⟨fun z => fixF (M_s_ViWordBack_L1 x0 x2 j29) z.1 z.2 = some r, fun z => [(0, .v (.slice a4 x0.length c5)), (1, .v (.int .i64 z.2)), (2, .v (.bool x2))], fun z => .nil, fun z => [⟨(.int .i64), ⟨a4, x0.length, c5⟩, x0⟩], fun z => [], fun z => z.1⟩ (FUEL, y8) h ⟨rfl, rfl, rfl, trivial⟩ trivial [0] rfl [] rfl ?_
      rintro ⟨n21, x10⟩ h
      obtain ⟨n21, rfl, h⟩ := fixF_some h
      rw [M_s_ViWordBack_L1] at h
      refine JS.seq ?_
      refine JS.seq ?_
      refine JS.region ?_
      refine JO.know 0 rfl fun hs70 => ?_
      obtain ⟨g13, h⟩ := guardO_some h
      refine JO.reg ttOk 7 [(W (x10 - 1))] [] [(14, .v (.bool (decide (0 < x10)))), (18, .cd [(14, true)] (.ep ⟨a4, x0.length, c5⟩ (Int.toNat (W (x10 - 1)) * 1)))] _ rfl ⟨(fun q69 => ⟨trivial, rfl⟩), (fun q71 => hs70.ix (g13 q71)), ⟨rfl, rfl, trivial⟩, rfl⟩ ?_
      refine JO.load ttOk rfl rfl rfl rfl rfl rfl rfl 0 rfl rfl (Int.toNat (W (x10 - 1))) 0 (at' x0 (W (x10 - 1))) (fun q72 => ⟨at_some (g13 q72), rfl⟩) rfl rfl ?_
      refine JO.reg ttOk 1 [] [] [(20, .cd [(14, true)] (.v (.bool x2)))] _ rfl ⟨⟨rfl, trivial⟩, rfl⟩ ?_
      obtain ⟨y16, hy17, -, h⟩ := callO_some h
      refine JO.callg rfl rfl rfl rfl (fun q73 => ok_s_l14Class (at' x0 (W (x10 - 1))) x2 _ (hy17 q73)) rfl [] rfl rfl ?_
      refine JO.reg ttOk 2 [] [] [(23, .v (.bool (bif (decide (0 < x10)) then (decide (y16 = 0)) else false)))] _ rfl ⟨⟨rfl, trivial⟩, rfl⟩ ?_
      refine JO.done rfl ?_
      refine JS.cond rfl (fun ht74 => ?_) (fun ht74 => ?_)
      · have h := condT h ht74
        refine JS.skip ?_
        refine JS.block ?_
        refine JS.region ?_
        refine JO.reg ttOk 3 [(W (x10 - 1))] [] [(1, .v (.int .i64 (W (x10 - 1))))] _ rfl ⟨⟨trivial, rfl⟩, ⟨rfl, trivial⟩, rfl⟩ ?_
        refine JO.done rfl ?_
        refine JS.endB ?_
        exact JS.endL (n21, (W (x10 - 1))) h (Nat.lt_succ_self _) ⟨rfl, rfl, rfl, trivial⟩ trivial [0] rfl [] rfl
      · have h := condF h ht74
        refine JS.exit rfl ?_
        exact JS.endJ x10 h ⟨rfl, rfl, rfl, trivial⟩ trivial [0] rfl [] rfl
    · rintro x28 h
      subst hj84
      refine JS.seq ?_
      refine JS.seq ?_
      refine JS.region ?_
      refine JO.reg ttOk 2 [] [] [(27, .v (.bool (decide (x28 = 0))))] _ rfl ⟨⟨rfl, trivial⟩, rfl⟩ ?_
      refine JO.done rfl ?_
      refine JS.cond rfl (fun ht83 => ?_) (fun ht83 => ?_)
      · have h := condT h ht83
        refine JS.seq ?_
        refine JS.region ?_
        refine JO.reg ttOk 1 [] [] [(6, .v (.int .i64 0))] _ rfl ⟨⟨rfl, trivial⟩, rfl⟩ ?_
        refine JO.done rfl ?_
        cases h
        exact JS.ret ttOk () trivial rfl rfl [] rfl
      · have h := condF h ht83
        refine JS.skip ?_
        refine JS.seq ?_
        refine JS.region ?_
        refine JO.know 0 rfl fun hs75 => ?_
        obtain ⟨g37, h⟩ := guardO_some h
        refine JO.reg ttOk 4 [(W (x28 - 1))] [] [(31, .ep ⟨a4, x0.length, c5⟩ (Int.toNat (W (x28 - 1)) * 1))] _ rfl ⟨⟨trivial, rfl⟩, hs75.ix g37, ⟨rfl, trivial⟩, rfl⟩ ?_
        refine JO.load ttOk rfl rfl rfl rfl rfl rfl rfl 0 rfl rfl (Int.toNat (W (x28 - 1))) 0 (at' x0 (W (x28 - 1))) ⟨at_some g37, rfl⟩ rfl rfl ?_
        refine JO.reg ttOk 1 [] [] [(33, .v (.bool x2))] _ rfl ⟨⟨rfl, trivial⟩, rfl⟩ ?_
        obtain ⟨y38, hy39, h⟩ := bindO_some h
        refine JO.call rfl rfl rfl rfl (ok_s_l14Class (at' x0 (W (x28 - 1))) x2 _ hy39) rfl [] rfl rfl ?_
        intro _ _
        refine JO.reg ttOk 1 [] [] [(7, .v (.int .i64 y38))] _ rfl ⟨⟨rfl, trivial⟩, rfl⟩ ?_
        refine JO.done rfl ?_
        refine JS.seq ?_
        obtain ⟨j59, hj82, h⟩ := joinO_some h
        refine JS.blockJ (ι := Int) ⟨fun z => j59 z = some r, fun z => [(1, .v (.int .i64 z))], fun z => .nil, fun z => [], fun z => [], fun z => 0⟩ ?_ ?_
        · refine JS.loop (ι := Nat × Int) ⟨fun z => fixF (M_s_ViWordBack_L2 x0 x2 y38 j59) z.1 z.2 = some r, fun z => [(0, .v (.slice a4 x0.length c5)), (1, .v (.int .i64 z.2)), (2, .v (.bool x2)), (7, .v (.int .i64 y38))], fun z => .nil, fun z => [⟨(.int .i64), ⟨a4, x0.length, c5⟩, x0⟩], fun z => [], fun z => z.1⟩ (FUEL, x28) h ⟨rfl, rfl, rfl, rfl, trivial⟩ trivial [0] rfl [] rfl ?_
          rintro ⟨n51, x40⟩ h
          obtain ⟨n51, rfl, h⟩ := fixF_some h
          rw [M_s_ViWordBack_L2] at h
          refine JS.seq ?_
          refine JS.seq ?_
          refine JS.region ?_
          refine JO.know 0 rfl fun hs77 => ?_
          obtain ⟨g43, h⟩ := guardO_some h
          refine JO.reg ttOk 7 [(W (x40 - 1))] [] [(37, .v (.bool (decide (0 < x40)))), (41, .cd [(37, true)] (.ep ⟨a4, x0.length, c5⟩ (Int.toNat (W (x40 - 1)) * 1)))] _ rfl ⟨(fun q76 => ⟨trivial, rfl⟩), (fun q78 => hs77.ix (g43 q78)), ⟨rfl, rfl, trivial⟩, rfl⟩ ?_
          refine JO.load ttOk rfl rfl rfl rfl rfl rfl rfl 0 rfl rfl (Int.toNat (W (x40 - 1))) 0 (at' x0 (W (x40 - 1))) (fun q79 => ⟨at_some (g43 q79), rfl⟩) rfl rfl ?_
          refine JO.reg ttOk 1 [] [] [(43, .cd [(37, true)] (.v (.bool x2)))] _ rfl ⟨⟨rfl, trivial⟩, rfl⟩ ?_
          obtain ⟨y46, hy47, -, h⟩ := callO_some h
          refine JO.callg rfl rfl rfl rfl (fun q80 => ok_s_l14Class (at' x0 (W (x40 - 1))) x2 _ (hy47 q80)) rfl [] rfl rfl ?_
          refine JO.reg ttOk 3 [] [] [(47, .v (.bool (bif (decide (0 < x40)) then (decide (y46 = y38)) else false)))] _ rfl ⟨⟨rfl, trivial⟩, rfl⟩ ?_
          refine JO.done rfl ?_
          refine JS.cond rfl (fun ht81 => ?_) (fun ht81 => ?_)
          · have h := condT h ht81
            refine JS.skip ?_
            refine JS.block ?_
            refine JS.region ?_
            refine JO.reg ttOk 3 [(W (x40 - 1))] [] [(1, .v (.int .i64 (W (x40 - 1))))] _ rfl ⟨⟨trivial, rfl⟩, ⟨rfl, trivial⟩, rfl⟩ ?_
            refine JO.done rfl ?_
            refine JS.endB ?_
            exact JS.endL (n51, (W (x40 - 1))) h (Nat.lt_succ_self _) ⟨rfl, rfl, rfl, rfl, trivial⟩ trivial [0] rfl [] rfl
          · have h := condF h ht81
            refine JS.exit rfl ?_
            exact JS.endJ x40 h ⟨rfl, trivial⟩ trivial [] rfl [] rfl
        · rintro x58 h
          subst hj82
          refine JS.seq ?_
          refine JS.region ?_
          refine JO.reg ttOk 2 [] [] [(6, .v (.int .i64 x58))] _ rfl ⟨⟨rfl, trivial⟩, rfl⟩ ?_
          refine JO.done rfl ?_
          cases h
          exact JS.ret ttOk () trivial rfl rfl [] rfl

def M_s_ViWordOn_L1 (x0 : List Int) (x2 : Bool) (y12 : Int) (j31 : Int → Option Int) (k23 : Int → Option Int) : Int → Option Int := fun x14 =>
  (guardO (((bif (decide (x14 < (x0.length : Int))) then (!(decide (y12 = 0))) else false) = true) → 0 ≤ x14 ∧ x14 < (x0.length : Int)) <|
  (callO ((bif (decide (x14 < (x0.length : Int))) then (!(decide (y12 = 0))) else false) = true) (M_s_l14Class (at' x0 x14) x2) (0 : Int) fun (y19 : Int) =>
  (bif (bif (bif (decide (x14 < (x0.length : Int))) then (!(decide (y12 = 0))) else false) then (decide (y19 = y12)) else false) then
  k23 (W (x14 + 1))
  else
  j31 x14)))

def M_s_ViWordOn_L2 (x0 : List Int) (x2 : Bool) (j54 : Int → Option Int) (k46 : Int → Option Int) : Int → Option Int := fun x37 =>
  (guardO (((decide (x37 < (x0.length : Int))) = true) → 0 ≤ x37 ∧ x37 < (x0.length : Int)) <|
  (callO ((decide (x37 < (x0.length : Int))) = true) (M_s_l14Class (at' x0 x37) x2) (0 : Int) fun (y42 : Int) =>
  (bif (bif (decide (x37 < (x0.length : Int))) then (decide (y42 = 0)) else false) then
  k46 (W (x37 + 1))
  else
  j54 x37)))

def M_s_ViWordOn (x0 : List Int) (x1 : Int) (x2 : Bool) : Option Int :=
  (bindO (M_s_l08Clamp x1 (x0.length : Int)) fun (y8 : Int) =>
  (bif (decide (y8 = (x0.length : Int))) then
  some y8
  else
  (guardO (0 ≤ y8 ∧ y8 < (x0.length : Int)) <|
  (bindO (M_s_l14Class (at' x0 y8) x2) fun (y12 : Int) =>
  (joinO (fun (x30 : Int) =>
  (joinO (fun (x53 : Int) =>
  some x53) fun j54 =>
  (fixF (M_s_ViWordOn_L2 x0 x2 j54) FUEL x30))) fun j31 =>
  (fixF (M_s_ViWordOn_L1 x0 x2 y12 j31) FUEL y8))))))

theorem ok_s_ViWordOn (x0 : List Int) (x1 : Int) (x2 : Bool) (a4 : Option Addr) (c5 : Nat) (l6 : Nat) (hl7 : x0.length = l6) (r : Int) (h : M_s_ViWordOn x0 x1 x2 = some r) :
    FC Try.prog 100 [.slice a4 l6 c5, .int .i64 x1, .bool x2] [⟨(.int .i64), ⟨a4, l6, c5⟩, x0⟩] (fun _ : Unit => True) (fun _ => .int .i64 r) (fun _ => []) :=
  by
    subst hl7
    refine FC.of (T := TTx) Try.call100 Try.func100 rfl rfl fun w0 => ?_
    unfold M_s_ViWordOn at h
    refine JS.seq ?_
    refine JS.region ?_
    refine JO.reg ttOk 1 [] [] [] _ rfl ⟨trivial, rfl⟩ ?_
    refine JO.done rfl ?_
    refine JS.seq ?_
    refine JS.region ?_
    refine JO.reg ttOk 3 [] [] [(8, .v (.int .i64 x1)), (10, .v (.int .i64 (x0.length : Int)))] _ rfl ⟨⟨rfl, rfl, trivial⟩, rfl⟩ ?_
    obtain ⟨y8, hy9, h⟩ := bindO_some h
    refine JO.call rfl rfl rfl rfl (ok_s_l08Clamp x1 (x0.length : Int) _ hy9) rfl [] rfl rfl ?_
    intro _ _
    refine JO.reg ttOk 1 [] [] [(1, .v (.int .i64 y8))] _ rfl ⟨⟨rfl, trivial⟩, rfl⟩ ?_
    refine JO.done rfl ?_
    refine JS.seq ?_
    refine JS.seq ?_
    refine JS.region ?_
    refine JO.reg ttOk 4 [] [] [(15, .v (.bool (decide (y8 = (x0.length : Int)))))] _ rfl ⟨⟨rfl, trivial⟩, rfl⟩ ?_
    refine JO.done rfl ?_
    refine JS.cond rfl (fun ht76 => ?_) (fun ht76 => ?_)
    · have h := condT h ht76
      refine JS.seq ?_
      refine JS.region ?_
      refine JO.reg ttOk 2 [] [] [(6, .v (.int .i64 y8))] _ rfl ⟨⟨rfl, trivial⟩, rfl⟩ ?_
      refine JO.done rfl ?_
      cases h
      exact JS.ret ttOk () trivial rfl rfl [] rfl
    · have h := condF h ht76
      refine JS.skip ?_
      refine JS.seq ?_
      refine JS.region ?_
      refine JO.know 0 rfl fun hs63 => ?_
      obtain ⟨g11, h⟩ := guardO_some h
      refine JO.reg ttOk 3 [] [] [(19, .ep ⟨a4, x0.length, c5⟩ (Int.toNat y8 * 1))] _ rfl ⟨hs63.ix g11, ⟨rfl, trivial⟩, rfl⟩ ?_
      refine JO.load ttOk rfl rfl rfl rfl rfl rfl rfl 0 rfl rfl (Int.toNat y8) 0 (at' x0 y8) ⟨at_some g11, rfl⟩ rfl rfl ?_
      refine JO.reg ttOk 1 [] [] [(21, .v (.bool x2))] _ rfl ⟨⟨rfl, trivial⟩, rfl⟩ ?_
      obtain ⟨y12, hy13, h⟩ := bindO_some h
      refine JO.call rfl rfl rfl rfl (ok_s_l14Class (at' x0 y8) x2 _ hy13) rfl [] rfl rfl ?_
      intro _ _
      refine JO.reg ttOk 1 [] [] [(7, .v (.int .i64 y12))] _ rfl ⟨⟨rfl, trivial⟩, rfl⟩ ?_
      refine JO.done rfl ?_
      refine JS.seq ?_
      obtain ⟨j31, hj75, h⟩ := joinO_some h
      refine JS.blockJ (ι := Int) ⟨fun z => j31 z = some r, fun z => [(0, .v (.slice a4 x0.length c5)), (1, .v (.int .i64 z)), (2, .v (.bool x2))], fun z => .nil, fun z => [⟨(.int .i64), ⟨a4, x0.length, c5⟩, x0⟩], fun z => [], fun z => 0⟩ ?_ ?_
      · refine JS.loop (ι := Nat × Int) ⟨fun z => fixF (M_s_ViWordOn_L1 x0 x2 y12 j31) z.1 z.2 = some r, fun z => [(0, .v (.slice a4 x0.length c5)), (1, .v (.int .i64 z.2)), (2, .v (.bool x2)), (7, .v (.int .i64 y12))], fun z => .nil, fun z => [⟨(.int .i64), ⟨a4, x0.length, c5⟩, x0⟩], fun z => [], fun z => z.1⟩ (FUEL, y8) h ⟨rfl, rfl, rfl, rfl, trivial⟩ trivial [0] rfl [] rfl ?_
        rintro ⟨n24, x14⟩ h
        obtain ⟨n24, rfl, h⟩ := fixF_some h
        rw [M_s_ViWordOn_L1] at h
        refine JS.seq ?_
        refine JS.seq ?_
        refine JS.region ?_
        refine JO.know 0 rfl fun hs64 => ?_
        obtain ⟨g16, h⟩ := guardO_some h
        refine JO.reg ttOk 12 [] [] [(31, .v (.bool (bif (decide (x14 < (x0.length : Int))) then (!(decide (y12 = 0))) else false))), (34, .cd [(31, true)] (.ep ⟨a4, x0.length, c5⟩ (Int.toNat x14 * 1)))] _ rfl ⟨(fun q65 => hs64.ix (g16 q65)), ⟨rfl, rfl, trivial⟩, rfl⟩ ?_
        refine JO.load ttOk rfl rfl rfl rfl rfl rfl rfl 0 rfl rfl (Int.toNat x14) 0 (at' x0 x14) (fun q66 => ⟨at_some (g16 q66), rfl⟩) rfl rfl ?_
        refine JO.reg ttOk 1 [] [] [(36, .cd [(31, true)] (.v (.bool x2)))] _ rfl ⟨⟨rfl, trivial⟩, rfl⟩ ?_
        obtain ⟨y19, hy20, -, h⟩ := callO_some h
        refine JO.callg rfl rfl rfl rfl (fun q67 => ok_s_l14Class (at' x0 x14) x2 _ (hy20 q67)) rfl [] rfl rfl ?_
        refine JO.reg ttOk 3 [] [] [(40, .v (.bool (bif (bif (decide (x14 < (x0.length : Int))) then (!(decide (y12 = 0))) else false) then (decide (y19 = y12)) else false)))] _ rfl ⟨⟨rfl, trivial⟩, rfl⟩ ?_
        refine JO.done rfl ?_
        refine JS.cond rfl (fun ht68 => ?_) (fun ht68 => ?_)
        · have h := condT h ht68
          refine JS.skip ?_
          refine JS.block ?_
          refine JS.region ?_
          refine JO.reg ttOk 3 [(W (x14 + 1))] [] [(1, .v (.int .i64 (W (x14 + 1))))] _ rfl ⟨⟨trivial, rfl⟩, ⟨rfl, trivial⟩, rfl⟩ ?_
          refine JO.done rfl ?_
          refine JS.endB ?_
          exact JS.endL (n24, (W (x14 + 1))) h (Nat.lt_succ_self _) ⟨rfl, rfl, rfl, rfl, trivial⟩ trivial [0] rfl [] rfl
        · have h := condF h ht68
          refine JS.exit rfl ?_
          exact JS.endJ x14 h ⟨rfl, rfl, rfl, trivial⟩ trivial [0] rfl [] rfl
      · rintro x30 h
        subst hj75
        refine JS.seq ?_
        obtain ⟨j54, hj74, h⟩ := joinO_some h
        refine JS.blockJ (ι := Int) ⟨fun z => j54 z = some r, fun z => [(1, .v (.int .i64 z))], fun z => .nil, fun z => [], fun z => [], fun z => 0⟩ ?_ ?_
        · refine JS.loop (ι := Nat × Int) ⟨fun z => fixF (M_s_ViWordOn_L2 x0 x2 j54) z.1 z.2 = some r, fun z => [(0, .v (.slice a4 x0.length c5)), (1, .v (.int .i64 z.2)), (2, .v (.bool x2))], fun z => .nil, fun z => [⟨(.int .i64), ⟨a4, x0.length, c5⟩, x0⟩], fun z => [], fun z => z.1⟩ (FUEL, x30) h ⟨rfl, rfl, rfl, trivial⟩ trivial [0] rfl [] rfl ?_
          rintro ⟨n47, x37⟩ h
          obtain ⟨n47, rfl, h⟩ := fixF_some h
          rw [M_s_ViWordOn_L2] at h
          refine JS.seq ?_
          refine JS.seq ?_
          refine JS.region ?_
          refine JO.know 0 rfl fun hs69 => ?_
          obtain ⟨g39, h⟩ := guardO_some h
          refine JO.reg ttOk 8 [] [] [(47, .v (.bool (decide (x37 < (x0.length : Int))))), (50, .cd [(47, true)] (.ep ⟨a4, x0.length, c5⟩ (Int.toNat x37 * 1)))] _ rfl ⟨(fun q70 => hs69.ix (g39 q70)), ⟨rfl, rfl, trivial⟩, rfl⟩ ?_
          refine JO.load ttOk rfl rfl rfl rfl rfl rfl rfl 0 rfl rfl (Int.toNat x37) 0 (at' x0 x37) (fun q71 => ⟨at_some (g39 q71), rfl⟩) rfl rfl ?_
          refine JO.reg ttOk 1 [] [] [(52, .cd [(47, true)] (.v (.bool x2)))] _ rfl ⟨⟨rfl, trivial⟩, rfl⟩ ?_
          obtain ⟨y42, hy43, -, h⟩ := callO_some h
          refine JO.callg rfl rfl rfl rfl (fun q72 => ok_s_l14Class (at' x0 x37) x2 _ (hy43 q72)) rfl [] rfl rfl ?_
          refine JO.reg ttOk 2 [] [] [(55, .v (.bool (bif (decide (x37 < (x0.length : Int))) then (decide (y42 = 0)) else false)))] _ rfl ⟨⟨rfl, trivial⟩, rfl⟩ ?_
          refine JO.done rfl ?_
          refine JS.cond rfl (fun ht73 => ?_) (fun ht73 => ?_)
          · have h := condT h ht73
            refine JS.skip ?_
            refine JS.block ?_
            refine JS.region ?_
            refine JO.reg ttOk 3 [(W (x37 + 1))] [] [(1, .v (.int .i64 (W (x37 + 1))))] _ rfl ⟨⟨trivial, rfl⟩, ⟨rfl, trivial⟩, rfl⟩ ?_
            refine JO.done rfl ?_
            refine JS.endB ?_
            exact JS.endL (n47, (W (x37 + 1))) h (Nat.lt_succ_self _) ⟨rfl, rfl, rfl, trivial⟩ trivial [0] rfl [] rfl
          · have h := condF h ht73
            refine JS.exit rfl ?_
            exact JS.endJ x37 h ⟨rfl, trivial⟩ trivial [] rfl [] rfl
        · rintro x53 h
          subst hj74
          refine JS.seq ?_
          refine JS.region ?_
          refine JO.reg ttOk 2 [] [] [(6, .v (.int .i64 x53))] _ rfl ⟨⟨rfl, trivial⟩, rfl⟩ ?_
          refine JO.done rfl ?_
          cases h
          exact JS.ret ttOk () trivial rfl rfl [] rfl

def M_s_ViWordEnd_L1 (x0 : List Int) (x2 : Bool) (j27 : Int → Option Int) (k19 : Int → Option Int) : Int → Option Int := fun x10 =>
  (guardO (((decide (x10 < (x0.length : Int))) = true) → 0 ≤ x10 ∧ x10 < (x0.length : Int)) <|
  (callO ((decide (x10 < (x0.length : Int))) = true) (M_s_l14Class (at' x0 x10) x2) (0 : Int) fun (y15 : Int) =>
  (bif (bif (decide (x10 < (x0.length : Int))) then (decide (y15 = 0)) else false) then
  k19 (W (x10 + 1))
  else
  j27 x10)))

def M_s_ViWordEnd_L2 (x0 : List Int) (x2 : Bool) (y37 : Int) (j58 : Int → Option Int) (k49 : Int → Option Int) : Int → Option Int := fun x39 =>
  (guardO (((decide ((W (x39 + 1)) < (x0.length : Int))) = true) → 0 ≤ (W (x39 + 1)) ∧ (W (x39 + 1)) < (x0.length : Int)) <|
  (callO ((decide ((W (x39 + 1)) < (x0.length : Int))) = true) (M_s_l14Class (at' x0 (W (x39 + 1))) x2) (0 : Int) fun (y45 : Int) =>
  (bif (bif (decide ((W (x39 + 1)) < (x0.length : Int))) then (decide (y45 = y37)) else false) then
  k49 (W (x39 + 1))
  else
  j58 x39)))

def M_s_ViWordEnd (x0 : List Int) (x1 : Int) (x2 : Bool) : Option Int :=
  (bindO (M_s_l08Clamp x1 (x0.length : Int)) fun (y8 : Int) =>
  (joinO (fun (x26 : Int) =>
  (bif (decide ((x0.length : Int) ≤ x26)) then
  (bindO (M_s_l08Clamp (W ((x0.length : Int) - 1)) (x0.length : Int)) fun (y33 : Int) =>
  some y33)
  else
  (guardO (0 ≤ x26 ∧ x26 < (x0.length : Int)) <|
  (bindO (M_s_l14Class (at' x0 x26) x2) fun (y37 : Int) =>
  (joinO (fun (x57 : Int) =>
  some x57) fun j58 =>
  (fixF (M_s_ViWordEnd_L2 x0 x2 y37 j58) FUEL x26)))))) fun j27 =>
  (fixF (M_s_ViWordEnd_L1 x0 x2 j27) FUEL (W (y8 + 1)))))

theorem ok_s_ViWordEnd (x0 : List Int) (x1 : Int) (x2 : Bool) (a4 : Option Addr) (c5 : Nat) (l6 : Nat) (hl7 : x0.length = l6) (r : Int) (h : M_s_ViWordEnd x0 x1 x2 = some r) :
    FC Try.prog 102 [.slice a4 l6 c5, .int .i64 x1, .bool x2] [⟨(.int .i64), ⟨a4, l6, c5⟩, x0⟩] (fun _ : Unit => True) (fun _ => .int .i64 r) (fun _ => []) :=
  by
    subst hl7
    refine FC.of (T := TTx) Try.call102 Try.func102 rfl rfl fun w0 => ?_
    unfold M_s_ViWordEnd at h
    refine JS.seq ?_
    refine JS.region ?_
    refine JO.reg ttOk 1 [] [] [] _ rfl ⟨trivial, rfl⟩ ?_
    refine JO.done rfl ?_
    refine JS.seq ?_
    refine JS.region ?_
    refine JO.reg ttOk 3 [] [] [(8, .v (.int .i64 x1)), (10, .v (.int .i64 (x0.length : Int)))] _ rfl ⟨⟨rfl, rfl, trivial⟩, rfl⟩ ?_
    obtain ⟨y8, hy9, h⟩ := bindO_some h
    refine JO.call rfl rfl rfl rfl (ok_s_l08Clamp x1 (x0.length : Int) _ hy9) rfl [] rfl rfl ?_
    intro _ _
    refine JO.reg ttOk 2 [(W (y8 + 1))] [] [(1, .v (.int .i64 (W (y8 + 1))))] _ rfl ⟨⟨trivial, rfl⟩, ⟨rfl, trivial⟩, rfl⟩ ?_
    refine JO.done rfl ?_
    refine JS.seq ?_
    obtain ⟨j27, hj82, h⟩ := joinO_some h
    refine JS.blockJ (ι := Int) ⟨fun z => j27 z = some r, fun z => [(0, .v (.slice a4 x0.length c5)), (1, .v (.int .i64 z)), (2, .v (.bool x2))], fun z => .nil, fun z => [⟨(.int .i64), ⟨a4, x0.length, c5⟩, x0⟩], fun z => [], fun z => 0⟩ ?_ ?_
    · refine JS.loop (ι := Nat × Int) ⟨fun z => fixF (M_s_ViWordEnd_L1 x0 x2 j27) z.1 z.2 = some r, fun z => [(0, .v (.slice a4 x0.length c5)), (1, .v (.int .i64 z.2)), (2, .v (.bool x2))], fun z => .nil, fun z => [⟨(.int .i64), ⟨a4, x0.length, c5⟩, x0⟩], fun z => [], fun z => z.1⟩ (FUEL, (W (y8 + 1))) h ⟨rfl, rfl, rfl, trivial⟩ trivial [0] rfl [] rfl ?_
      rintro ⟨n20, x10⟩ h
      obtain ⟨n20, rfl, h⟩ := fixF_some h
      rw [M_s_ViWordEnd_L1] at h
      refine JS.seq ?_
      refine JS.seq ?_
      refine JS.region ?_
      refine JO.know 0 rfl fun hs68 => ?_
      obtain ⟨g12, h⟩ := guardO_some h
      refine JO.reg ttOk 8 [] [] [(17, .v (.bool (decide (x10 < (x0.length : Int))))), (20, .cd [(17, true)] (.ep ⟨a4, x0.length, c5⟩ (Int.toNat x10 * 1)))] _ rfl ⟨(fun q69 => hs68.ix (g12 q69)), ⟨rfl, rfl, trivial⟩, rfl⟩ ?_
      refine JO.load ttOk rfl rfl rfl rfl rfl rfl rfl 0 rfl rfl (Int.toNat x10) 0 (at' x0 x10) (fun q70 => ⟨at_some (g12 q70), rfl⟩) rfl rfl ?_
      refine JO.reg ttOk 1 [] [] [(22, .cd [(17, true)] (.v (.bool x2)))] _ rfl ⟨⟨rfl, trivial⟩, rfl⟩ ?_
      obtain ⟨y15, hy16, -, h⟩ := callO_some h
      refine JO.callg rfl rfl rfl rfl (fun q71 => ok_s_l14Class (at' x0 x10) x2 _ (hy16 q71)) rfl [] rfl rfl ?_
      refine JO.reg ttOk 2 [] [] [(25, .v (.bool (bif (decide (x10 < (x0.length : Int))) then (decide (y15 = 0)) else false)))] _ rfl ⟨⟨rfl, trivial⟩, rfl⟩ ?_
      refine JO.done rfl ?_
      refine JS.cond rfl (fun ht72 => ?_) (fun ht72 => ?_)
      · have h := condT h ht72
        refine JS.skip ?_
        refine JS.block ?_
        refine JS.region ?_
        refine JO.reg ttOk 3 [(W (x10 + 1))] [] [(1, .v (.int .i64 (W (x10 + 1))))] _ rfl ⟨⟨trivial, rfl⟩, ⟨rfl, trivial⟩, rfl⟩ ?_
        refine JO.done rfl ?_
        refine JS.endB ?_
        exact JS.endL (n20, (W (x10 + 1))) h (Nat.lt_succ_self _) ⟨rfl, rfl, rfl, trivial⟩ trivial [0] rfl [] rfl
      · have h := condF h ht72
        refine JS.exit rfl ?_
        exact JS.endJ x10 h ⟨rfl, rfl, rfl, trivial⟩ trivial [0] rfl [] rfl
    · rintro x26 h
      subst hj82
      refine JS.seq ?_
      refine JS.seq ?_
      refine JS.region ?_
      refine JO.reg ttOk 4 [] [] [(31, .v (.bool (decide ((x0.length : Int) ≤ x26))))] _ rfl ⟨⟨rfl, trivial⟩, rfl⟩ ?_
      refine JO.done rfl ?_
      refine JS.cond rfl (fun ht81 => ?_) (fun ht81 => ?_)
      · have h := condT h ht81
        refine JS.seq ?_
        refine JS.region ?_
        refine JO.reg ttOk 5 [(W ((x0.length : Int) - 1))] [] [(34, .v (.int .i64 (W ((x0.length : Int) - 1)))), (36, .v (.int .i64 (x0.length : Int)))] _ rfl ⟨⟨trivial, rfl⟩, ⟨rfl, rfl, trivial⟩, rfl⟩ ?_
        obtain ⟨y33, hy34, h⟩ := bindO_some h
        refine JO.call rfl rfl rfl rfl (ok_s_l08Clamp (W ((x0.length : Int) - 1)) (x0.length : Int) _ hy34) rfl [] rfl rfl ?_
        intro _ _
        refine JO.reg ttOk 1 [] [] [(6, .v (.int .i64 y33))] _ rfl ⟨⟨rfl, trivial⟩, rfl⟩ ?_
        refine JO.done rfl ?_
        cases h
        exact JS.ret ttOk () trivial rfl rfl [] rfl
      · have h := condF h ht81
        refine JS.skip ?_
        refine JS.seq ?_
        refine JS.region ?_
        refine JO.know 0 rfl fun hs73 => ?_
        obtain ⟨g36, h⟩ := guardO_some h
        refine JO.reg ttOk 3 [] [] [(40, .ep ⟨a4, x0.length, c5⟩ (Int.toNat x26 * 1))] _ rfl ⟨hs73.ix g36, ⟨rfl, trivial⟩, rfl⟩ ?_
        refine JO.load ttOk rfl rfl rfl rfl rfl rfl rfl 0 rfl rfl (Int.toNat x26) 0 (at' x0 x26) ⟨at_some g36, rfl⟩ rfl rfl ?_
        refine JO.reg ttOk 1 [] [] [(42, .v (.bool x2))] _ rfl ⟨⟨rfl, trivial⟩, rfl⟩ ?_
        obtain ⟨y37, hy38, h⟩ := bindO_some h
        refine JO.call rfl rfl rfl rfl (ok_s_l14Class (at' x0 x26) x2 _ hy38) rfl [] rfl rfl ?_
        intro _ _
        refine JO.reg ttOk 1 [] [] [(7, .v (.int .i64 y37))] _ rfl ⟨⟨rfl, trivial⟩, rfl⟩ ?_
        refine JO.done rfl ?_
        refine JS.seq ?_
        obtain ⟨j58, hj80, h⟩ := joinO_some h
        refine JS.blockJ (ι := Int) ⟨fun z => j58 z = some r, fun z => [(1, .v (.int .i64 z))], fun z => .nil, fun z => [], fun z => [], fun z => 0⟩ ?_ ?_
        · refine JS.loop (ι := Nat × Int) ⟨fun z => fixF (M_s_ViWordEnd_L2 x0 x2 y37 j58) z.1 z.2 = some r, fun z => [(0, .v (.slice a4 x0.length c5)), (1, .v (.int .i64 z.2)), (2, .v (.bool x2)), (7, .v (.int .i64 y37))], fun z => .nil, fun z => [⟨(.int .i64), ⟨a4, x0.length, c5⟩, x0⟩], fun z => [], fun z => z.1⟩ (FUEL, x26) h ⟨rfl, rfl, rfl, rfl, trivial⟩ trivial [0] rfl [] rfl ?_
          rintro ⟨n50, x39⟩ h
          obtain ⟨n50, rfl, h⟩ := fixF_some h
          rw [M_s_ViWordEnd_L2] at h
          refine JS.seq ?_
          refine JS.seq ?_
          refine JS.region ?_
          refine JO.know 0 rfl fun hs75 => ?_
          obtain ⟨g42, h⟩ := guardO_some h
          refine JO.reg ttOk 10 [(W (x39 + 1)), (W (x39 + 1))] [] [(49, .v (.bool (decide ((W (x39 + 1)) < (x0.length : Int))))), (53, .cd [(49, true)] (.ep ⟨a4, x0.length, c5⟩ (Int.toNat (W (x39 + 1)) * 1)))] _ rfl ⟨⟨trivial, rfl⟩, (fun q74 => ⟨trivial, rfl⟩), (fun q76 => hs75.ix (g42 q76)), ⟨rfl, rfl, trivial⟩, rfl⟩ ?_
          refine JO.load ttOk rfl rfl rfl rfl rfl rfl rfl 0 rfl rfl (Int.toNat (W (x39 + 1))) 0 (at' x0 (W (x39 + 1))) (fun q77 => ⟨at_some (g42 q77), rfl⟩) rfl rfl ?_
          refine JO.reg ttOk 1 [] [] [(55, .cd [(49, true)] (.v (.bool x2)))] _ rfl ⟨⟨rfl, trivial⟩, rfl⟩ ?_
          obtain ⟨y45, hy46, -, h⟩ := callO_some h
          refine JO.callg rfl rfl rfl rfl (fun q78 => ok_s_l14Class (at' x0 (W (x39 + 1))) x2 _ (hy46 q78)) rfl [] rfl rfl ?_
          refine JO.reg ttOk 3 [] [] [(59, .v (.bool (bif (decide ((W (x39 + 1)) < (x0.length : Int))) then (decide (y45 = y37)) else false)))] _ rfl ⟨⟨rfl, trivial⟩, rfl⟩ ?_
          refine JO.done rfl ?_
          refine JS.cond rfl (fun ht79 => ?_) (fun ht79 => ?_)
          · have h := condT h ht79
            refine JS.skip ?_
            refine JS.block ?_
            refine JS.region ?_
            refine JO.reg ttOk 3 [(W (x39 + 1))] [] [(1, .v (.int .i64 (W (x39 + 1))))] _ rfl ⟨⟨trivial, rfl⟩, ⟨rfl, trivial⟩, rfl⟩ ?_
            refine JO.done rfl ?_
            refine JS.endB ?_
            exact JS.endL (n50, (W (x39 + 1))) h (Nat.lt_succ_self _) ⟨rfl, rfl, rfl, rfl, trivial⟩ trivial [0] rfl [] rfl
          · have h := condF h ht79
            refine JS.exit rfl ?_
            exact JS.endJ x39 h ⟨rfl, trivial⟩ trivial [] rfl [] rfl
        · rintro x57 h
          subst hj80
          refine JS.seq ?_
          refine JS.region ?_
          refine JO.reg ttOk 2 [] [] [(6, .v (.int .i64 x57))] _ rfl ⟨⟨rfl, trivial⟩, rfl⟩ ?_
          refine JO.done rfl ?_
          cases h
          exact JS.ret ttOk () trivial rfl rfl [] rfl

def M_s_l22Word (x0 : List Int) (x1 : Int) (x2 : Int) : Option Int :=
  (joinO (fun (x9 : Bool) =>
  (bif x9 then
  (bindO (M_s_ViWordOn x0 x1 (decide (x2 < 97))) fun (y12 : Int) =>
  some y12)
  else
  (joinO (fun (x15 : Bool) =>
  (bif x15 then
  (bindO (M_s_ViWordBack x0 x1 (decide (x2 < 97))) fun (y18 : Int) =>
  some y18)
  else
  (bindO (M_s_ViWordEnd x0 x1 (decide (x2 < 97))) fun (y20 : Int) =>
  some y20))) fun j16 =>
  (bif (decide (x2 = 98)) then
  j16 (decide (x2 = 98))
  else
  j16 (decide (x2 = 66)))))) fun j10 =>
  (bif (decide (x2 = 119)) then
  j10 (decide (x2 = 119))
  else
  j10 (decide (x2 = 87))))

theorem ok_s_l22Word (x0 : List Int) (x1 : Int) (x2 : Int) (a4 : Option Addr) (c5 : Nat) (l6 : Nat) (hl7 : x0.length = l6) (r : Int) (h : M_s_l22Word x0 x1 x2 = some r) :
    FC Try.prog 56 [.slice a4 l6 c5, .int .i64 x1, .int .i64 x2] [⟨(.int .i64), ⟨a4, l6, c5⟩, x0⟩] (fun _ : Unit => True) (fun _ => .int .i64 r) (fun _ => []) :=
  by
    subst hl7
    refine FC.of (T := TTx) Try.call56 Try.func56 rfl rfl fun w0 => ?_
    unfold M_s_l22Word at h
    refine JS.seq ?_
    refine JS.region ?_
    refine JO.reg ttOk 1 [] [] [] _ rfl ⟨trivial, rfl⟩ ?_
    refine JO.done rfl ?_
    refine JS.seq ?_
    refine JS.region ?_
    refine JO.reg ttOk 3 [] [] [(7, .v (.bool (decide (x2 < 97))))] _ rfl ⟨⟨rfl, trivial⟩, rfl⟩ ?_
    refine JO.done rfl ?_
    refine JS.seq ?_
    refine JS.seq ?_
    refine JS.region ?_
    refine JO.reg ttOk 1 [] [] [(10, .v (.int .i64 x2))] _ rfl ⟨⟨rfl, trivial⟩, rfl⟩ ?_
    refine JO.done rfl ?_
    refine JS.block ?_
    obtain ⟨j10, hj31, h⟩ := joinO_some h
    refine JS.seqJ (ι := Bool) ⟨fun z => j10 z = some r, fun z => [(0, .v (.slice a4 x0.length c5)), (1, .v (.int .i64 x1)), (7, .v (.bool (decide (x2 < 97)))), (10, .v (.int .i64 x2)), (11, .v (.bool z))], fun z => .nil, fun z => [⟨(.int .i64), ⟨a4, x0.length, c5⟩, x0⟩], fun z => [], fun z => 0⟩ ?_ ?_
    · refine JS.seq ?_
      refine JS.region ?_
      refine JO.reg ttOk 2 [] [] [(11, .v (.bool (decide (x2 = 119))))] _ rfl ⟨⟨rfl, trivial⟩, rfl⟩ ?_
      refine JO.done rfl ?_
      refine JS.cond rfl (fun ht26 => ?_) (fun ht26 => ?_)
      · have h := condT h ht26
        refine JS.skip ?_
        exact JS.endJ (decide (x2 = 119)) h ⟨rfl, rfl, rfl, rfl, rfl, trivial⟩ trivial [0] rfl [] rfl
      · have h := condF h ht26
        refine JS.region ?_
        refine JO.reg ttOk 2 [] [] [(11, .v (.bool (decide (x2 = 87))))] _ rfl ⟨⟨rfl, trivial⟩, rfl⟩ ?_
        refine JO.done rfl ?_
        exact JS.endJ (decide (x2 = 87)) h ⟨rfl, rfl, rfl, rfl, rfl, trivial⟩ trivial [0] rfl [] rfl
    · rintro x9 h
      subst hj31
      refine JS.cond rfl (fun ht30 => ?_) (fun ht30 => ?_)
      · have h := condT h ht30
        refine JS.seq ?_
        refine JS.region ?_
        refine JO.reg ttOk 3 [] [] [(14, .v (.slice a4 x0.length c5)), (15, .v (.int .i64 x1)), (16, .v (.bool (decide (x2 < 97))))] _ rfl ⟨⟨rfl, rfl, rfl, trivial⟩, rfl⟩ ?_
        obtain ⟨y12, hy13, h⟩ := bindO_some h
        refine JO.call rfl rfl rfl rfl (ok_s_ViWordOn x0 x1 (decide (x2 < 97)) a4 c5 x0.length rfl _ hy13) rfl [0] rfl rfl ?_
        intro _ _
        refine JO.reg ttOk 1 [] [] [(6, .v (.int .i64 y12))] _ rfl ⟨⟨rfl, trivial⟩, rfl⟩ ?_
        refine JO.done rfl ?_
        cases h
        exact JS.ret ttOk () trivial rfl rfl [] rfl
      · have h := condF h ht30
        obtain ⟨j16, hj29, h⟩ := joinO_some h
        refine JS.seqJ (ι := Bool) ⟨fun z => j16 z = some r, fun z => [(0, .v (.slice a4 x0.length c5)), (1, .v (.int .i64 x1)), (7, .v (.bool (decide (x2 < 97)))), (18, .v (.bool z))], fun z => .nil, fun z => [⟨(.int .i64), ⟨a4, x0.length, c5⟩, x0⟩], fun z => [], fun z => 0⟩ ?_ ?_
        · refine JS.seq ?_
          refine JS.region ?_
          refine JO.reg ttOk 2 [] [] [(18, .v (.bool (decide (x2 = 98))))] _ rfl ⟨⟨rfl, trivial⟩, rfl⟩ ?_
          refine JO.done rfl ?_
          refine JS.cond rfl (fun ht27 => ?_) (fun ht27 => ?_)
          · have h := condT h ht27
            refine JS.skip ?_
            exact JS.endJ (decide (x2 = 98)) h ⟨rfl, rfl, rfl, rfl, trivial⟩ trivial [0] rfl [] rfl
          · have h := condF h ht27
            refine JS.region ?_
            refine JO.reg ttOk 2 [] [] [(18, .v (.bool (decide (x2 = 66))))] _ rfl ⟨⟨rfl, trivial⟩, rfl⟩ ?_
            refine JO.done rfl ?_
            exact JS.endJ (decide (x2 = 66)) h ⟨rfl, rfl, rfl, rfl, trivial⟩ trivial [0] rfl [] rfl
        · rintro x15 h
          subst hj29
          refine JS.cond rfl (fun ht28 => ?_) (fun ht28 => ?_)
          · have h := condT h ht28
            refine JS.seq ?_
            refine JS.region ?_
            refine JO.reg ttOk 3 [] [] [(21, .v (.slice a4 x0.length c5)), (22, .v (.int .i64 x1)), (23, .v (.bool (decide (x2 < 97))))] _ rfl ⟨⟨rfl, rfl, rfl, trivial⟩, rfl⟩ ?_
            obtain ⟨y18, hy19, h⟩ := bindO_some h
            refine JO.call rfl rfl rfl rfl (ok_s_ViWordBack x0 x1 (decide (x2 < 97)) a4 c5 x0.length rfl _ hy19) rfl [0] rfl rfl ?_
            intro _ _
            refine JO.reg ttOk 1 [] [] [(6, .v (.int .i64 y18))] _ rfl ⟨⟨rfl, trivial⟩, rfl⟩ ?_
            refine JO.done rfl ?_
            cases h
            exact JS.ret ttOk () trivial rfl rfl [] rfl
          · have h := condF h ht28
            refine JS.skip ?_
            refine JS.endB ?_
            refine JS.seq ?_
            refine JS.region ?_
            refine JO.reg ttOk 3 [] [] [(25, .v (.slice a4 x0.length c5)), (26, .v (.int .i64 x1)), (27, .v (.bool (decide (x2 < 97))))] _ rfl ⟨⟨rfl, rfl, rfl, trivial⟩, rfl⟩ ?_
            obtain ⟨y20, hy21, h⟩ := bindO_some h
            refine JO.call rfl rfl rfl rfl (ok_s_ViWordEnd x0 x1 (decide (x2 < 97)) a4 c5 x0.length rfl _ hy21) rfl [0] rfl rfl ?_
            intro _ _
            refine JO.reg ttOk 1 [] [] [(6, .v (.int .i64 y20))] _ rfl ⟨⟨rfl, trivial⟩, rfl⟩ ?_
            refine JO.done rfl ?_
            cases h
            exact JS.ret ttOk () trivial rfl rfl [] rfl

def M_s_MotionTo_L1 (x0 : List Int) (j40 : Int → Option (Int × Bool × Bool)) (k32 : Int → Option (Int × Bool × Bool)) : Int → Option (Int × Bool × Bool) := fun x23 =>
  (guardO (((decide (x23 < (x0.length : Int))) = true) → 0 ≤ x23 ∧ x23 < (x0.length : Int)) <|
  (callO ((decide (x23 < (x0.length : Int))) = true) (M_s_ClassOf (at' x0 x23)) (0 : Int) fun (y28 : Int) =>
  (bif (bif (decide (x23 < (x0.length : Int))) then (decide (y28 = 0)) else false) then
  k32 (W (x23 + 1))
  else
  j40 x23)))

def M_s_MotionTo_L2 (x0 : List Int) (x2 : Int) (y11 : Int) (j70 : Int → Option (Int × Bool × Bool)) (k66 : (Int × Int) → Option (Int × Bool × Bool)) : (Int × Int) → Option (Int × Bool × Bool) := fun (x61, x62) =>
  (bif (decide (x62 < y11)) then
  (bindO (M_s_l22Word x0 x61 x2) fun (y63 : Int) =>
  k66 (y63, (W (x62 + 1))))
  else
  j70 x61)

def M_s_MotionTo (x0 : List Int) (x1 : Int) (x2 : Int) (x3 : Int) : Option (Int × Bool × Bool) :=
  (bindO (M_s_l08Clamp x1 (x0.length : Int)) fun (y9 : Int) =>
  (bindO (M_s_l22Times x3) fun (y11 : Int) =>
  (joinO (fun (_ : Unit) =>
  some (0, false, false)) fun j82 =>
  (bif (decide (x2 = 104)) then
  (bindO (M_s_l08Clamp (W (y9 - y11)) (x0.length : Int)) fun (y13 : Int) =>
  some (y13, false, true))
  else
  (joinO (fun (x16 : Bool) =>
  (bif x16 then
  (bindO (M_s_l08Clamp (W (y9 + y11)) (x0.length : Int)) fun (y19 : Int) =>
  some (y19, false, true))
  else
  (bif (decide (x2 = 124)) then
  (bindO (M_s_l08Clamp (W (y11 - 1)) (x0.length : Int)) fun (y21 : Int) =>
  some (y21, false, true))
  else
  (bif (decide (x2 = 48)) then
  some (0, false, true)
  else
  (bif (decide (x2 = 94)) then
  (joinO (fun (x39 : Int) =>
  some (x39, false, true)) fun j40 =>
  (fixF (M_s_MotionTo_L1 x0 j40) FUEL 0))
  else
  (bif (decide (x2 = 36)) then
  (bindO (M_s_l08Clamp (W ((x0.length : Int) - 1)) (x0.length : Int)) fun (y47 : Int) =>
  some (y47, (decide (0 < (x0.length : Int))), true))
  else
  (joinO (fun (x54 : Bool) =>
  (bif x54 then
  (joinO (fun (x69 : Int) =>
  some (x69, (bif (bif (decide (x2 = 101)) then true else (decide (x2 = 69))) then (decide (0 < (x0.length : Int))) else false), true)) fun j70 =>
  (fixF (M_s_MotionTo_L2 x0 x2 y11 j70) FUEL (y9, 0)))
  else
  j82 ())) fun j55 =>
  (bif (decide (x2 = 119)) then
  j55 (decide (x2 = 119))
  else
  (bif (decide (x2 = 87)) then
  j55 (decide (x2 = 87))
  else
  (bif (decide (x2 = 98)) then
  j55 (decide (x2 = 98))
  else
  (bif (decide (x2 = 66)) then
  j55 (decide (x2 = 66))
  else
  (bif (decide (x2 = 101)) then
  j55 (decide (x2 = 101))
  else
  j55 (decide (x2 = 69)))))))))))))) fun j17 =>
  (bif (decide (x2 = 108)) then
  j17 (decide (x2 = 108))
  else
  j17 (decide (x2 = 32))))))))

theorem ok_s_MotionTo (x0 : List Int) (x1 : Int) (x2 : Int) (x3 : Int) (a5 : Option Addr) (c6 : Nat) (l7 : Nat) (hl8 : x0.length = l7) (r : Int × Bool × Bool) (h : M_s_MotionTo x0 x1 x2 x3 = some r) :
    FC Try.prog 17 [.slice a5 l7 c6, .int .i64 x1, .int .i64 x2, .int .i64 x3] [⟨(.int .i64), ⟨a5, l7, c6⟩, x0⟩] (fun _ : Unit => True) (fun _ => .tuple #[.int .i64 r.1, .bool r.2.1, .bool r.2.2]) (fun _ => []) :=
  by
    subst hl8
    refine FC.of (T := TTx) Try.call17 Try.func17 rfl rfl fun w0 => ?_
    unfold M_s_MotionTo at h
    refine JS.seq ?_
    refine JS.region ?_
    refine JO.reg ttOk 3 [] [] [] _ rfl ⟨trivial, rfl⟩ ?_
    refine JO.done rfl ?_
    refine JS.seq ?_
    refine JS.region ?_
    refine JO.reg ttOk 3 [] [] [(13, .v (.int .i64 x1)), (15, .v (.int .i64 (x0.length : Int)))] _ rfl ⟨⟨rfl, rfl, trivial⟩, rfl⟩ ?_
    obtain ⟨y9, hy10, h⟩ := bindO_some h
    refine JO.call rfl rfl rfl rfl (ok_s_l08Clamp x1 (x0.length : Int) _ hy10) rfl [] rfl rfl ?_
    intro _ _
    refine JO.reg ttOk 1 [] [] [(1, .v (.int .i64 y9))] _ rfl ⟨⟨rfl, trivial⟩, rfl⟩ ?_
    refine JO.done rfl ?_
    refine JS.seq ?_
    refine JS.region ?_
    refine JO.reg ttOk 1 [] [] [(17, .v (.int .i64 x3))] _ rfl ⟨⟨rfl, trivial⟩, rfl⟩ ?_
    obtain ⟨y11, hy12, h⟩ := bindO_some h
    refine JO.call rfl rfl rfl rfl (ok_s_l22Times x3 _ hy12) rfl [] rfl rfl ?_
    intro _ _
    refine JO.reg ttOk 1 [] [] [(3, .v (.int .i64 y11))] _ rfl ⟨⟨rfl, trivial⟩, rfl⟩ ?_
    refine JO.done rfl ?_
    refine JS.seq ?_
    refine JS.seq ?_
    refine JS.region ?_
    refine JO.reg ttOk 1 [] [] [(19, .v (.int .i64 x2))] _ rfl ⟨⟨rfl, trivial⟩, rfl⟩ ?_
    refine JO.done rfl ?_
    obtain ⟨j82, hj130, h⟩ := joinO_some h
    refine JS.blockJ (ι := Unit) ⟨fun _ => j82 () = some r, fun _ => [], fun _ => .nil, fun _ => [], fun _ => [], fun _ => 0⟩ ?_ ?_
    · refine JS.seq ?_
      refine JS.region ?_
      refine JO.reg ttOk 2 [] [] [(20, .v (.bool (decide (x2 = 104))))] _ rfl ⟨⟨rfl, trivial⟩, rfl⟩ ?_
      refine JO.done rfl ?_
      refine JS.cond rfl (fun ht129 => ?_) (fun ht129 => ?_)
      · have h := condT h ht129
        refine JS.seq ?_
        refine JS.region ?_
        refine JO.reg ttOk 5 [(W (y9 - y11))] [] [(24, .v (.int .i64 (W (y9 - y11)))), (26, .v (.int .i64 (x0.length : Int)))] _ rfl ⟨⟨trivial, rfl⟩, ⟨rfl, rfl, trivial⟩, rfl⟩ ?_
        obtain ⟨y13, hy14, h⟩ := bindO_some h
        refine JO.call rfl rfl rfl rfl (ok_s_l08Clamp (W (y9 - y11)) (x0.length : Int) _ hy14) rfl [] rfl rfl ?_
        intro _ _
        refine JO.reg ttOk 3 [] [] [(8, .v (.int .i64 y13)), (9, .v (.bool false)), (10, .v (.bool true))] _ rfl ⟨⟨rfl, rfl, rfl, trivial⟩, rfl⟩ ?_
        refine JO.done rfl ?_
        cases h
        exact JS.ret ttOk () trivial rfl rfl [] rfl
      · have h := condF h ht129
        obtain ⟨j17, hj128, h⟩ := joinO_some h
        refine JS.seqJ (ι := Bool) ⟨fun z => j17 z = some r, fun z => [(0, .v (.slice a5 x0.length c6)), (1, .v (.int .i64 y9)), (2, .v (.int .i64 x2)), (3, .v (.int .i64 y11)), (19, .v (.int .i64 x2)), (28, .v (.bool z))], fun z => .nil, fun z => [⟨(.int .i64), ⟨a5, x0.length, c6⟩, x0⟩], fun z => [], fun z => 0⟩ ?_ ?_
        · refine JS.seq ?_
          refine JS.region ?_
          refine JO.reg ttOk 2 [] [] [(28, .v (.bool (decide (x2 = 108))))] _ rfl ⟨⟨rfl, trivial⟩, rfl⟩ ?_
          refine JO.done rfl ?_
          refine JS.cond rfl (fun ht107 => ?_) (fun ht107 => ?_)
          · have h := condT h ht107
            refine JS.skip ?_
            exact JS.endJ (decide (x2 = 108)) h ⟨rfl, rfl, rfl, rfl, rfl, rfl, trivial⟩ trivial [0] rfl [] rfl
          · have h := condF h ht107
            refine JS.region ?_
            refine JO.reg ttOk 2 [] [] [(28, .v (.bool (decide (x2 = 32))))] _ rfl ⟨⟨rfl, trivial⟩, rfl⟩ ?_
            refine JO.done rfl ?_
            exact JS.endJ (decide (x2 = 32)) h ⟨rfl, rfl, rfl, rfl, rfl, rfl, trivial⟩ trivial [0] rfl [] rfl
        · rintro x16 h
          subst hj128
          refine JS.cond rfl (fun ht127 => ?_) (fun ht127 => ?_)
          · have h := condT h ht127
            refine JS.seq ?_
            refine JS.region ?_
            refine JO.reg ttOk 5 [(W (y9 + y11))] [] [(33, .v (.int .i64 (W (y9 + y11)))), (35, .v (.int .i64 (x0.length : Int)))] _ rfl ⟨⟨trivial, rfl⟩, ⟨rfl, rfl, trivial⟩, rfl⟩ ?_
            obtain ⟨y19, hy20, h⟩ := bindO_some h
            refine JO.call rfl rfl rfl rfl (ok_s_l08Clamp (W (y9 + y11)) (x0.length : Int) _ hy20) rfl [] rfl rfl ?_
            intro _ _
            refine JO.reg ttOk 3 [] [] [(8, .v (.int .i64 y19)), (9, .v (.bool false)), (10, .v (.bool true))] _ rfl ⟨⟨rfl, rfl, rfl, trivial⟩, rfl⟩ ?_
            refine JO.done rfl ?_
            cases h
            exact JS.ret ttOk () trivial rfl rfl [] rfl
          · have h := condF h ht127
            refine JS.seq ?_
            refine JS.region ?_
            refine JO.reg ttOk 2 [] [] [(37, .v (.bool (decide (x2 = 124))))] _ rfl ⟨⟨rfl, trivial⟩, rfl⟩ ?_
            refine JO.done rfl ?_
            refine JS.cond rfl (fun ht126 => ?_) (fun ht126 => ?_)
            · have h := condT h ht126
              refine JS.seq ?_
              refine JS.region ?_
              refine JO.reg ttOk 4 [(W (y11 - 1))] [] [(40, .v (.int .i64 (W (y11 - 1)))), (42, .v (.int .i64 (x0.length : Int)))] _ rfl ⟨⟨trivial, rfl⟩, ⟨rfl, rfl, trivial⟩, rfl⟩ ?_
              obtain ⟨y21, hy22, h⟩ := bindO_some h
              refine JO.call rfl rfl rfl rfl (ok_s_l08Clamp (W (y11 - 1)) (x0.length : Int) _ hy22) rfl [] rfl rfl ?_
              intro _ _
              refine JO.reg ttOk 3 [] [] [(8, .v (.int .i64 y21)), (9, .v (.bool false)), (10, .v (.bool true))] _ rfl ⟨⟨rfl, rfl, rfl, trivial⟩, rfl⟩ ?_
              refine JO.done rfl ?_
              cases h
              exact JS.ret ttOk () trivial rfl rfl [] rfl
            · have h := condF h ht126
              refine JS.seq ?_
              refine JS.region ?_
              refine JO.reg ttOk 2 [] [] [(44, .v (.bool (decide (x2 = 48))))] _ rfl ⟨⟨rfl, trivial⟩, rfl⟩ ?_
              refine JO.done rfl ?_
              refine JS.cond rfl (fun ht125 => ?_) (fun ht125 => ?_)
              · have h := condT h ht125
                refine JS.seq ?_
                refine JS.region ?_
                refine JO.reg ttOk 3 [] [] [(8, .v (.int .i64 0)), (9, .v (.bool false)), (10, .v (.bool true))] _ rfl ⟨⟨rfl, rfl, rfl, trivial⟩, rfl⟩ ?_
                refine JO.done rfl ?_
                cases h
                exact JS.ret ttOk () trivial rfl rfl [] rfl
              · have h := condF h ht125
                refine JS.seq ?_
                refine JS.region ?_
                refine JO.reg ttOk 2 [] [] [(46, .v (.bool (decide (x2 = 94))))] _ rfl ⟨⟨rfl, trivial⟩, rfl⟩ ?_
                refine JO.done rfl ?_
                refine JS.cond rfl (fun ht124 => ?_) (fun ht124 => ?_)
                · have h := condT h ht124
                  refine JS.seq ?_
                  refine JS.region ?_
                  refine JO.reg ttOk 1 [] [] [(11, .v (.int .i64 0))] _ rfl ⟨⟨rfl, trivial⟩, rfl⟩ ?_
                  refine JO.done rfl ?_
                  refine JS.seq ?_
                  obtain ⟨j40, hj113, h⟩ := joinO_some h
                  refine JS.blockJ (ι := Int) ⟨fun z => j40 z = some r, fun z => [(11, .v (.int .i64 z))], fun z => .nil, fun z => [], fun z => [], fun z => 0⟩ ?_ ?_
                  · refine JS.loop (ι := Nat × Int) ⟨fun z => fixF (M_s_MotionTo_L1 x0 j40) z.1 z.2 = some r, fun z => [(0, .v (.slice a5 x0.length c6)), (11, .v (.int .i64 z.2))], fun z => .nil, fun z => [⟨(.int .i64), ⟨a5, x0.length, c6⟩, x0⟩], fun z => [], fun z => z.1⟩ (FUEL, 0) h ⟨rfl, rfl, trivial⟩ trivial [0] rfl [] rfl ?_
                    rintro ⟨n33, x23⟩ h
                    obtain ⟨n33, rfl, h⟩ := fixF_some h
                    rw [M_s_MotionTo_L1] at h
                    refine JS.seq ?_
                    refine JS.seq ?_
                    refine JS.region ?_
                    refine JO.know 0 rfl fun hs108 => ?_
                    obtain ⟨g25, h⟩ := guardO_some h
                    refine JO.reg ttOk 8 [] [] [(52, .v (.bool (decide (x23 < (x0.length : Int))))), (55, .cd [(52, true)] (.ep ⟨a5, x0.length, c6⟩ (Int.toNat x23 * 1)))] _ rfl ⟨(fun q109 => hs108.ix (g25 q109)), ⟨rfl, rfl, trivial⟩, rfl⟩ ?_
                    refine JO.load ttOk rfl rfl rfl rfl rfl rfl rfl 0 rfl rfl (Int.toNat x23) 0 (at' x0 x23) (fun q110 => ⟨at_some (g25 q110), rfl⟩) rfl rfl ?_
                    obtain ⟨y28, hy29, -, h⟩ := callO_some h
                    refine JO.callg rfl rfl rfl rfl (fun q111 => ok_s_ClassOf (at' x0 x23) _ (hy29 q111)) rfl [] rfl rfl ?_
                    refine JO.reg ttOk 2 [] [] [(59, .v (.bool (bif (decide (x23 < (x0.length : Int))) then (decide (y28 = 0)) else false)))] _ rfl ⟨⟨rfl, trivial⟩, rfl⟩ ?_
                    refine JO.done rfl ?_
                    refine JS.cond rfl (fun ht112 => ?_) (fun ht112 => ?_)
                    · have h := condT h ht112
                      refine JS.skip ?_
                      refine JS.block ?_
                      refine JS.region ?_
                      refine JO.reg ttOk 3 [(W (x23 + 1))] [] [(11, .v (.int .i64 (W (x23 + 1))))] _ rfl ⟨⟨trivial, rfl⟩, ⟨rfl, trivial⟩, rfl⟩ ?_
                      refine JO.done rfl ?_
                      refine JS.endB ?_
                      exact JS.endL (n33, (W (x23 + 1))) h (Nat.lt_succ_self _) ⟨rfl, rfl, trivial⟩ trivial [0] rfl [] rfl
                    · have h := condF h ht112
                      refine JS.exit rfl ?_
                      exact JS.endJ x23 h ⟨rfl, trivial⟩ trivial [] rfl [] rfl
                  · rintro x39 h
                    subst hj113
                    refine JS.seq ?_
                    refine JS.region ?_
                    refine JO.reg ttOk 4 [] [] [(8, .v (.int .i64 x39)), (9, .v (.bool false)), (10, .v (.bool true))] _ rfl ⟨⟨rfl, rfl, rfl, trivial⟩, rfl⟩ ?_
                    refine JO.done rfl ?_
                    cases h
                    exact JS.ret ttOk () trivial rfl rfl [] rfl
                · have h := condF h ht124
                  refine JS.seq ?_
                  refine JS.region ?_
                  refine JO.reg ttOk 2 [] [] [(63, .v (.bool (decide (x2 = 36))))] _ rfl ⟨⟨rfl, trivial⟩, rfl⟩ ?_
                  refine JO.done rfl ?_
                  refine JS.cond rfl (fun ht123 => ?_) (fun ht123 => ?_)
                  · have h := condT h ht123
                    refine JS.seq ?_
                    refine JS.region ?_
                    refine JO.reg ttOk 5 [(W ((x0.length : Int) - 1))] [] [(67, .v (.int .i64 (W ((x0.length : Int) - 1)))), (69, .v (.int .i64 (x0.length : Int)))] _ rfl ⟨⟨trivial, rfl⟩, ⟨rfl, rfl, trivial⟩, rfl⟩ ?_
                    obtain ⟨y47, hy48, h⟩ := bindO_some h
                    refine JO.call rfl rfl rfl rfl (ok_s_l08Clamp (W ((x0.length : Int) - 1)) (x0.length : Int) _ hy48) rfl [] rfl rfl ?_
                    intro _ _
                    refine JO.reg ttOk 6 [] [] [(8, .v (.int .i64 y47)), (9, .v (.bool (decide (0 < (x0.length : Int))))), (10, .v (.bool true))] _ rfl ⟨⟨rfl, rfl, rfl, trivial⟩, rfl⟩ ?_
                    refine JO.done rfl ?_
                    cases h
                    exact JS.ret ttOk () trivial rfl rfl [] rfl
                  · have h := condF h ht123
                    obtain ⟨j55, hj122, h⟩ := joinO_some h
                    refine JS.seqJ (ι := Bool) ⟨fun z => j55 z = some r, fun z => [(0, .v (.slice a5 x0.length c6)), (1, .v (.int .i64 y9)), (2, .v (.int .i64 x2)), (3, .v (.int .i64 y11)), (74, .v (.bool z))], fun z => .nil, fun z => [⟨(.int .i64), ⟨a5, x0.length, c6⟩, x0⟩], fun z => [], fun z => 0⟩ ?_ ?_
                    · refine JS.seq ?_
                      refine JS.region ?_
                      refine JO.reg ttOk 2 [] [] [(74, .v (.bool (decide (x2 = 119))))] _ rfl ⟨⟨rfl, trivial⟩, rfl⟩ ?_
                      refine JO.done rfl ?_
                      refine JS.cond rfl (fun ht118 => ?_) (fun ht118 => ?_)
                      · have h := condT h ht118
                        refine JS.skip ?_
                        exact JS.endJ (decide (x2 = 119)) h ⟨rfl, rfl, rfl, rfl, rfl, trivial⟩ trivial [0] rfl [] rfl
                      · have h := condF h ht118
                        refine JS.seq ?_
                        refine JS.region ?_
                        refine JO.reg ttOk 2 [] [] [(74, .v (.bool (decide (x2 = 87))))] _ rfl ⟨⟨rfl, trivial⟩, rfl⟩ ?_
                        refine JO.done rfl ?_
                        refine JS.cond rfl (fun ht117 => ?_) (fun ht117 => ?_)
                        · have h := condT h ht117
                          refine JS.skip ?_
                          exact JS.endJ (decide (x2 = 87)) h ⟨rfl, rfl, rfl, rfl, rfl, trivial⟩ trivial [0] rfl [] rfl
                        · have h := condF h ht117
                          refine JS.seq ?_
                          refine JS.region ?_
                          refine JO.reg ttOk 2 [] [] [(74, .v (.bool (decide (x2 = 98))))] _ rfl ⟨⟨rfl, trivial⟩, rfl⟩ ?_
                          refine JO.done rfl ?_
                          refine JS.cond rfl (fun ht116 => ?_) (fun ht116 => ?_)
                          · have h := condT h ht116
                            refine JS.skip ?_
                            exact JS.endJ (decide (x2 = 98)) h ⟨rfl, rfl, rfl, rfl, rfl, trivial⟩ trivial [0] rfl [] rfl
                          · have h := condF h ht116
                            refine JS.seq ?_
                            refine JS.region ?_
                            refine JO.reg ttOk 2 [] [] [(74, .v (.bool (decide (x2 = 66))))] _ rfl ⟨⟨rfl, trivial⟩, rfl⟩ ?_
                            refine JO.done rfl ?_
                            refine JS.cond rfl (fun ht115 => ?_) (fun ht115 => ?_)
                            · have h := condT h ht115
                              refine JS.skip ?_
                              exact JS.endJ (decide (x2 = 66)) h ⟨rfl, rfl, rfl, rfl, rfl, trivial⟩ trivial [0] rfl [] rfl
                            · have h := condF h ht115
                              refine JS.seq ?_
                              refine JS.region ?_
                              refine JO.reg ttOk 2 [] [] [(74, .v (.bool (decide (x2 = 101))))] _ rfl ⟨⟨rfl, trivial⟩, rfl⟩ ?_
                              refine JO.done rfl ?_
                              refine JS.cond rfl (fun ht114 => ?_) (fun ht114 => ?_)
                              · have h := condT h ht114
                                refine JS.skip ?_
                                exact JS.endJ (decide (x2 = 101)) h ⟨rfl, rfl, rfl, rfl, rfl, trivial⟩ trivial [0] rfl [] rfl
                              · have h := condF h ht114
                                refine JS.region ?_
                                refine JO.reg ttOk 2 [] [] [(74, .v (.bool (decide (x2 = 69))))] _ rfl ⟨⟨rfl, trivial⟩, rfl⟩ ?_
                                refine JO.done rfl ?_
                                exact JS.endJ (decide (x2 = 69)) h ⟨rfl, rfl, rfl, rfl, rfl, trivial⟩ trivial [0] rfl [] rfl
                    · rintro x54 h
                      subst hj122
                      refine JS.cond rfl (fun ht121 => ?_) (fun ht121 => ?_)
                      · have h := condT h ht121
                        refine JS.seq ?_
                        refine JS.seq ?_
                        refine JS.region ?_
                        refine JO.reg ttOk 1 [] [] [(12, .v (.int .i64 0))] _ rfl ⟨⟨rfl, trivial⟩, rfl⟩ ?_
                        refine JO.done rfl ?_
                        obtain ⟨j70, hj120, h⟩ := joinO_some h
                        refine JS.blockJ (ι := Int) ⟨fun z => j70 z = some r, fun z => [(0, .v (.slice a5 x0.length c6)), (1, .v (.int .i64 z)), (2, .v (.int .i64 x2))], fun z => .nil, fun z => [⟨(.int .i64), ⟨a5, x0.length, c6⟩, x0⟩], fun z => [], fun z => 0⟩ ?_ ?_
                        · refine JS.loop (ι := Nat × Int × Int) ⟨fun z => fixF (M_s_MotionTo_L2 x0 x2 y11 j70) z.1 (z.2.1, z.2.2) = some r, fun z => [(0, .v (.slice a5 x0.length c6)), (1, .v (.int .i64 z.2.1)), (2, .v (.int .i64 x2)), (3, .v (.int .i64 y11)), (12, .v (.int .i64 z.2.2))], fun z => .nil, fun z => [⟨(.int .i64), ⟨a5, x0.length, c6⟩, x0⟩], fun z => [], fun z => z.1⟩ (FUEL, y9, 0) h ⟨rfl, rfl, rfl, rfl, rfl, trivial⟩ trivial [0] rfl [] rfl ?_
                          rintro ⟨n67, x61, x62⟩ h
                          obtain ⟨n67, rfl, h⟩ := fixF_some h
                          rw [M_s_MotionTo_L2] at h
                          refine JS.seq ?_
                          refine JS.seq ?_
                          refine JS.region ?_
                          refine JO.reg ttOk 3 [] [] [(83, .v (.bool (decide (x62 < y11))))] _ rfl ⟨⟨rfl, trivial⟩, rfl⟩ ?_
                          refine JO.done rfl ?_
                          refine JS.cond rfl (fun ht119 => ?_) (fun ht119 => ?_)
                          · have h := condT h ht119
                            refine JS.skip ?_
                            refine JS.seq ?_
                            refine JS.block ?_
                            refine JS.region ?_
                            refine JO.reg ttOk 3 [] [] [(86, .v (.slice a5 x0.length c6)), (87, .v (.int .i64 x61)), (88, .v (.int .i64 x2))] _ rfl ⟨⟨rfl, rfl, rfl, trivial⟩, rfl⟩ ?_
                            obtain ⟨y63, hy64, h⟩ := bindO_some h
                            refine JO.call rfl rfl rfl rfl (ok_s_l22Word x0 x61 x2 a5 c6 x0.length rfl _ hy64) rfl [0] rfl rfl ?_
                            intro _ _
                            refine JO.reg ttOk 1 [] [] [(1, .v (.int .i64 y63))] _ rfl ⟨⟨rfl, trivial⟩, rfl⟩ ?_
                            refine JO.done rfl ?_
                            refine JS.endB ?_
                            refine JS.region ?_
                            refine JO.reg ttOk 3 [(W (x62 + 1))] [] [(12, .v (.int .i64 (W (x62 + 1))))] _ rfl ⟨⟨trivial, rfl⟩, ⟨rfl, trivial⟩, rfl⟩ ?_
                            refine JO.done rfl ?_
                            exact JS.endL (n67, y63, (W (x62 + 1))) h (Nat.lt_succ_self _) ⟨rfl, rfl, rfl, rfl, rfl, trivial⟩ trivial [0] rfl [] rfl
                          · have h := condF h ht119
                            refine JS.exit rfl ?_
                            exact JS.endJ x61 h ⟨rfl, rfl, rfl, trivial⟩ trivial [0] rfl [] rfl
                        · rintro x69 h
                          subst hj120
                          refine JS.seq ?_
                          refine JS.region ?_
                          refine JO.reg ttOk 15 [] [] [(8, .v (.int .i64 x69)), (9, .v (.bool (bif (bif (decide (x2 = 101)) then true else (decide (x2 = 69))) then (decide (0 < (x0.length : Int))) else false))), (10, .v (.bool true))] _ rfl ⟨⟨rfl, rfl, rfl, trivial⟩, rfl⟩ ?_
                          refine JO.done rfl ?_
                          cases h
                          exact JS.ret ttOk () trivial rfl rfl [] rfl
                      · have h := condF h ht121
                        refine JS.skip ?_
                        refine JS.endB ?_
                        exact JS.endJ () h trivial trivial [] rfl [] rfl
    · rintro _ h
      subst hj130
      refine JS.seq ?_
      refine JS.region ?_
      refine JO.reg ttOk 3 [] [] [(8, .v (.int .i64 0)), (9, .v (.bool false)), (10, .v (.bool false))] _ rfl ⟨⟨rfl, rfl, rfl, trivial⟩, rfl⟩ ?_
      refine JO.done rfl ?_
      cases h
      exact JS.ret ttOk () trivial rfl rfl [] rfl

def M_i_within (x0 : Int) (x1 : Int) : Option Int :=
  some (max (0 : Int) (min x0 x1))

theorem ok_i_within (x0 : Int) (x1 : Int) (r : Int) (h : M_i_within x0 x1 = some r) :
    FC Try.prog 43 [.int .i64 x0, .int .i64 x1] [] (fun _ : Unit => True) (fun _ => .int .i64 r) (fun _ => []) :=
  by
    refine FC.of (T := TTx) Try.call43 Try.func43 rfl rfl fun w0 => ?_
    unfold M_i_within at h
    refine JS.seq ?_
    refine JS.region ?_
    refine JO.reg ttOk 1 [] [] [] _ rfl ⟨trivial, rfl⟩ ?_
    refine JO.done rfl ?_
    refine JS.seq ?_
    refine JS.region ?_
    refine JO.reg ttOk 5 [] [] [(4, .v (.int .i64 (max (0 : Int) (min x0 x1))))] _ rfl ⟨⟨rfl, trivial⟩, rfl⟩ ?_
    refine JO.done rfl ?_
    cases h
    exact JS.ret ttOk () trivial rfl rfl [] rfl

def M_i_in (x0 : Int) (x1 : Int) (x2 : Int) : Option Bool :=
  some (bif (decide (x1 ≤ x0)) then (decide (x0 ≤ x2)) else false)

theorem ok_i_in (x0 : Int) (x1 : Int) (x2 : Int) (r : Bool) (h : M_i_in x0 x1 x2 = some r) :
    FC Try.prog 78 [.int .i64 x0, .int .i64 x1, .int .i64 x2] [] (fun _ : Unit => True) (fun _ => .bool r) (fun _ => []) :=
  by
    refine FC.of (T := TTx) Try.call78 Try.func78 rfl rfl fun w0 => ?_
    unfold M_i_in at h
    refine JS.seq ?_
    refine JS.region ?_
    refine JO.reg ttOk 1 [] [] [] _ rfl ⟨trivial, rfl⟩ ?_
    refine JO.done rfl ?_
    refine JS.seq ?_
    refine JS.region ?_
    refine JO.reg ttOk 9 [] [] [(6, .v (.bool (bif (decide (x1 ≤ x0)) then (decide (x0 ≤ x2)) else false)))] _ rfl ⟨⟨rfl, trivial⟩, rfl⟩ ?_
    refine JO.done rfl ?_
    cases h
    exact JS.ret ttOk () trivial rfl rfl [] rfl

def M_i_isUpper (x0 : Int) : Option Bool :=
  (bindO (M_i_in x0 65 90) fun (y2 : Bool) =>
  some y2)

theorem ok_i_isUpper (x0 : Int) (r : Bool) (h : M_i_isUpper x0 = some r) :
    FC Try.prog 44 [.int .i64 x0] [] (fun _ : Unit => True) (fun _ => .bool r) (fun _ => []) :=
  by
    refine FC.of (T := TTx) Try.call44 Try.func44 rfl rfl fun w0 => ?_
    unfold M_i_isUpper at h
    refine JS.seq ?_
    refine JS.region ?_
    refine JO.reg ttOk 1 [] [] [] _ rfl ⟨trivial, rfl⟩ ?_
    refine JO.done rfl ?_
    refine JS.seq ?_
    refine JS.region ?_
    refine JO.reg ttOk 1 [] [] [(3, .v (.int .i64 x0))] _ rfl ⟨⟨rfl, trivial⟩, rfl⟩ ?_
    obtain ⟨y2, hy3, h⟩ := bindO_some h
    refine JO.call rfl rfl rfl rfl (ok_i_in x0 65 90 _ hy3) rfl [] rfl rfl ?_
    intro _ _
    refine JO.reg ttOk 1 [] [] [(2, .v (.bool y2))] _ rfl ⟨⟨rfl, trivial⟩, rfl⟩ ?_
    refine JO.done rfl ?_
    cases h
    exact JS.ret ttOk () trivial rfl rfl [] rfl

def M_i_isLower (x0 : Int) : Option Bool :=
  (bindO (M_i_in x0 97 122) fun (y2 : Bool) =>
  some y2)

theorem ok_i_isLower (x0 : Int) (r : Bool) (h : M_i_isLower x0 = some r) :
    FC Try.prog 98 [.int .i64 x0] [] (fun _ : Unit => True) (fun _ => .bool r) (fun _ => []) :=
  by
    refine FC.of (T := TTx) Try.call98 Try.func98 rfl rfl fun w0 => ?_
    unfold M_i_isLower at h
    refine JS.seq ?_
    refine JS.region ?_
    refine JO.reg ttOk 1 [] [] [] _ rfl ⟨trivial, rfl⟩ ?_
    refine JO.done rfl ?_
    refine JS.seq ?_
    refine JS.region ?_
    refine JO.reg ttOk 1 [] [] [(3, .v (.int .i64 x0))] _ rfl ⟨⟨rfl, trivial⟩, rfl⟩ ?_
    obtain ⟨y2, hy3, h⟩ := bindO_some h
    refine JO.call rfl rfl rfl rfl (ok_i_in x0 97 122 _ hy3) rfl [] rfl rfl ?_
    intro _ _
    refine JO.reg ttOk 1 [] [] [(2, .v (.bool y2))] _ rfl ⟨⟨rfl, trivial⟩, rfl⟩ ?_
    refine JO.done rfl ?_
    cases h
    exact JS.ret ttOk () trivial rfl rfl [] rfl

def M_i_isDigit (x0 : Int) : Option Bool :=
  (bindO (M_i_in x0 48 57) fun (y2 : Bool) =>
  some y2)

theorem ok_i_isDigit (x0 : Int) (r : Bool) (h : M_i_isDigit x0 = some r) :
    FC Try.prog 99 [.int .i64 x0] [] (fun _ : Unit => True) (fun _ => .bool r) (fun _ => []) :=
  by
    refine FC.of (T := TTx) Try.call99 Try.func99 rfl rfl fun w0 => ?_
    unfold M_i_isDigit at h
    refine JS.seq ?_
    refine JS.region ?_
    refine JO.reg ttOk 1 [] [] [] _ rfl ⟨trivial, rfl⟩ ?_
    refine JO.done rfl ?_
    refine JS.seq ?_
    refine JS.region ?_
    refine JO.reg ttOk 1 [] [] [(3, .v (.int .i64 x0))] _ rfl ⟨⟨rfl, trivial⟩, rfl⟩ ?_
    obtain ⟨y2, hy3, h⟩ := bindO_some h
    refine JO.call rfl rfl rfl rfl (ok_i_in x0 48 57 _ hy3) rfl [] rfl rfl ?_
    intro _ _
    refine JO.reg ttOk 1 [] [] [(2, .v (.bool y2))] _ rfl ⟨⟨rfl, trivial⟩, rfl⟩ ?_
    refine JO.done rfl ?_
    cases h
    exact JS.ret ttOk () trivial rfl rfl [] rfl

def M_i_RuneOk (x0 : Int) : Option Bool :=
  (bindO (M_i_in x0 0 1114111) fun (y2 : Bool) =>
  (callO (y2 = true) (M_i_in x0 55296 57343) false fun (y4 : Bool) =>
  some (bif y2 then (!y4) else false)))

theorem ok_i_RuneOk (x0 : Int) (r : Bool) (h : M_i_RuneOk x0 = some r) :
    FC Try.prog 120 [.int .i64 x0] [] (fun _ : Unit => True) (fun _ => .bool r) (fun _ => []) :=
  by
    refine FC.of (T := TTx) Try.call120 Try.func120 rfl rfl fun w0 => ?_
    unfold M_i_RuneOk at h
    refine JS.seq ?_
    refine JS.region ?_
    refine JO.reg ttOk 1 [] [] [] _ rfl ⟨trivial, rfl⟩ ?_
    refine JO.done rfl ?_
    refine JS.seq ?_
    refine JS.region ?_
    refine JO.reg ttOk 1 [] [] [(3, .v (.int .i64 x0))] _ rfl ⟨⟨rfl, trivial⟩, rfl⟩ ?_
    obtain ⟨y2, hy3, h⟩ := bindO_some h
    refine JO.call rfl rfl rfl rfl (ok_i_in x0 0 1114111 _ hy3) rfl [] rfl rfl ?_
    intro _ _
    refine JO.reg ttOk 2 [] [] [(5, .v (.bool y2)), (6, .cd [(5, true)] (.v (.int .i64 x0)))] _ rfl ⟨⟨rfl, rfl, trivial⟩, rfl⟩ ?_
    obtain ⟨y4, hy5, -, h⟩ := callO_some h
    refine JO.callg rfl rfl rfl rfl (fun q7 => ok_i_in x0 55296 57343 _ (hy5 q7)) rfl [] rfl rfl ?_
    refine JO.reg ttOk 3 [] [] [(2, .v (.bool (bif y2 then (!y4) else false)))] _ rfl ⟨⟨rfl, trivial⟩, rfl⟩ ?_
    refine JO.done rfl ?_
    cases h
    exact JS.ret ttOk () trivial rfl rfl [] rfl

def M_i_Printable (x0 : Int) : Option Bool :=
  (bindO (M_i_RuneOk x0) fun (y2 : Bool) =>
  (callO ((bif y2 then (decide (32 ≤ x0)) else false) = true) (M_i_in x0 127 159) false fun (y4 : Bool) =>
  some (bif (bif y2 then (decide (32 ≤ x0)) else false) then (!y4) else false)))

theorem ok_i_Printable (x0 : Int) (r : Bool) (h : M_i_Printable x0 = some r) :
    FC Try.prog 80 [.int .i64 x0] [] (fun _ : Unit => True) (fun _ => .bool r) (fun _ => []) :=
  by
    refine FC.of (T := TTx) Try.call80 Try.func80 rfl rfl fun w0 => ?_
    unfold M_i_Printable at h
    refine JS.seq ?_
    refine JS.region ?_
    refine JO.reg ttOk 1 [] [] [] _ rfl ⟨trivial, rfl⟩ ?_
    refine JO.done rfl ?_
    refine JS.seq ?_
    refine JS.region ?_
    refine JO.reg ttOk 1 [] [] [(3, .v (.int .i64 x0))] _ rfl ⟨⟨rfl, trivial⟩, rfl⟩ ?_
    obtain ⟨y2, hy3, h⟩ := bindO_some h
    refine JO.call rfl rfl rfl rfl (ok_i_RuneOk x0 _ hy3) rfl [] rfl rfl ?_
    intro _ _
    refine JO.reg ttOk 6 [] [] [(9, .v (.bool (bif y2 then (decide (32 ≤ x0)) else false))), (10, .cd [(9, true)] (.v (.int .i64 x0)))] _ rfl ⟨⟨rfl, rfl, trivial⟩, rfl⟩ ?_
    obtain ⟨y4, hy5, -, h⟩ := callO_some h
    refine JO.callg rfl rfl rfl rfl (fun q7 => ok_i_in x0 127 159 _ (hy5 q7)) rfl [] rfl rfl ?_
    refine JO.reg ttOk 3 [] [] [(2, .v (.bool (bif (bif y2 then (decide (32 ≤ x0)) else false) then (!y4) else false)))] _ rfl ⟨⟨rfl, trivial⟩, rfl⟩ ?_
    refine JO.done rfl ?_
    cases h
    exact JS.ret ttOk () trivial rfl rfl [] rfl

def M_i_ClassOf (x0 : Int) : Option Int :=
  (bif (bif (bif (decide (x0 = 9)) then true else (decide (x0 = 10))) then true else (decide (x0 = 32))) then
  some 0
  else
  (bindO (M_i_isLower x0) fun (y2 : Bool) =>
  (callO (y2 = false) (M_i_isUpper x0) false fun (y4 : Bool) =>
  (callO ((bif y2 then true else y4) = false) (M_i_isDigit x0) false fun (y7 : Bool) =>
  (callO ((decide (159 < x0)) = true ∧ (bif (bif (bif y2 then true else y4) then true else y7) then true else (decide (x0 = 95))) = false) (M_i_Printable x0) false fun (y10 : Bool) =>
  (bif (bif (bif (bif (bif y2 then true else y4) then true else y7) then true else (decide (x0 = 95))) then true else (bif (decide (159 < x0)) then y10 else false)) then
  some 1
  else
  some 2))))))

theorem ok_i_ClassOf (x0 : Int) (r : Int) (h : M_i_ClassOf x0 = some r) :
    FC Try.prog 52 [.int .i64 x0] [] (fun _ : Unit => True) (fun _ => .int .i64 r) (fun _ => []) :=
  by
    refine FC.of (T := TTx) Try.call52 Try.func52 rfl rfl fun w0 => ?_
    unfold M_i_ClassOf at h
    refine JS.seq ?_
    refine JS.region ?_
    refine JO.reg ttOk 1 [] [] [] _ rfl ⟨trivial, rfl⟩ ?_
    refine JO.done rfl ?_
    refine JS.seq ?_
    refine JS.block ?_
    refine JS.seq ?_
    refine JS.region ?_
    refine JO.reg ttOk 11 [] [] [(3, .v (.bool (bif (bif (decide (x0 = 9)) then true else (decide (x0 = 10))) then true else (decide (x0 = 32)))))] _ rfl ⟨⟨rfl, trivial⟩, rfl⟩ ?_
    refine JO.done rfl ?_
    refine JS.cond rfl (fun ht21 => ?_) (fun ht21 => ?_)
    · have h := condT h ht21
      refine JS.seq ?_
      refine JS.region ?_
      refine JO.reg ttOk 1 [] [] [(2, .v (.int .i64 0))] _ rfl ⟨⟨rfl, trivial⟩, rfl⟩ ?_
      refine JO.done rfl ?_
      cases h
      exact JS.ret ttOk () trivial rfl rfl [] rfl
    · have h := condF h ht21
      refine JS.seq ?_
      refine JS.region ?_
      refine JO.reg ttOk 1 [] [] [(15, .v (.int .i64 x0))] _ rfl ⟨⟨rfl, trivial⟩, rfl⟩ ?_
      obtain ⟨y2, hy3, h⟩ := bindO_some h
      refine JO.call rfl rfl rfl rfl (ok_i_isLower x0 _ hy3) rfl [] rfl rfl ?_
      intro _ _
      refine JO.reg ttOk 2 [] [] [(17, .v (.bool y2)), (18, .cd [(17, false)] (.v (.int .i64 x0)))] _ rfl ⟨⟨rfl, rfl, trivial⟩, rfl⟩ ?_
      obtain ⟨y4, hy5, -, h⟩ := callO_some h
      refine JO.callg rfl rfl rfl rfl (fun q16 => ok_i_isUpper x0 _ (hy5 q16)) rfl [] rfl rfl ?_
      refine JO.reg ttOk 3 [] [] [(21, .v (.bool (bif y2 then true else y4))), (22, .cd [(21, false)] (.v (.int .i64 x0)))] _ rfl ⟨⟨rfl, rfl, trivial⟩, rfl⟩ ?_
      obtain ⟨y7, hy8, -, h⟩ := callO_some h
      refine JO.callg rfl rfl rfl rfl (fun q17 => ok_i_isDigit x0 _ (hy8 q17)) rfl [] rfl rfl ?_
      refine JO.reg ttOk 10 [] [] [(29, .v (.bool (bif (bif (bif y2 then true else y4) then true else y7) then true else (decide (x0 = 95))))), (32, .cd [(29, false)] (.v (.bool (decide (159 < x0))))), (33, .cd [(32, true), (29, false)] (.v (.int .i64 x0)))] _ rfl ⟨⟨rfl, rfl, rfl, trivial⟩, rfl⟩ ?_
      obtain ⟨y10, hy11, -, h⟩ := callO_some h
      refine JO.callg rfl rfl rfl rfl (fun q18 q19 => ok_i_Printable x0 _ (hy11 ⟨q18, q19⟩)) rfl [] rfl rfl ?_
      refine JO.reg ttOk 3 [] [] [(14, .v (.bool (bif (bif (bif (bif y2 then true else y4) then true else y7) then true else (decide (x0 = 95))) then true else (bif (decide (159 < x0)) then y10 else false))))] _ rfl ⟨⟨rfl, trivial⟩, rfl⟩ ?_
      refine JO.done rfl ?_
      refine JS.cond rfl (fun ht20 => ?_) (fun ht20 => ?_)
      · have h := condT h ht20
        refine JS.seq ?_
        refine JS.region ?_
        refine JO.reg ttOk 1 [] [] [(2, .v (.int .i64 1))] _ rfl ⟨⟨rfl, trivial⟩, rfl⟩ ?_
        refine JO.done rfl ?_
        cases h
        exact JS.ret ttOk () trivial rfl rfl [] rfl
      · have h := condF h ht20
        refine JS.skip ?_
        refine JS.endB ?_
        refine JS.seq ?_
        refine JS.region ?_
        refine JO.reg ttOk 1 [] [] [(2, .v (.int .i64 2))] _ rfl ⟨⟨rfl, trivial⟩, rfl⟩ ?_
        refine JO.done rfl ?_
        cases h
        exact JS.ret ttOk () trivial rfl rfl [] rfl

def M_i_classAt (x0 : List Int) (x1 : Int) (x2 : Bool) : Option Int :=
  (guardO (0 ≤ x1 ∧ x1 < (x0.length : Int)) <|
  (bindO (M_i_ClassOf (at' x0 x1)) fun (y10 : Int) =>
  (bif (bif x2 then (decide (y10 = 2)) else false) then
  some 1
  else
  some y10)))

theorem ok_i_classAt (x0 : List Int) (x1 : Int) (x2 : Bool) (a4 : Option Addr) (c5 : Nat) (l6 : Nat) (hl7 : x0.length = l6) (r : Int) (h : M_i_classAt x0 x1 x2 = some r) :
    FC Try.prog 96 [.slice a4 l6 c5, .int .i64 x1, .bool x2] [⟨(.int .i64), ⟨a4, l6, c5⟩, x0⟩] (fun _ : Unit => True) (fun _ => .int .i64 r) (fun _ => []) :=
  by
    subst hl7
    refine FC.of (T := TTx) Try.call96 Try.func96 rfl rfl fun w0 => ?_
    unfold M_i_classAt at h
    refine JS.seq ?_
    refine JS.region ?_
    refine JO.reg ttOk 1 [] [] [] _ rfl ⟨trivial, rfl⟩ ?_
    refine JO.done rfl ?_
    refine JS.seq ?_
    refine JS.region ?_
    refine JO.know 0 rfl fun hs13 => ?_
    obtain ⟨g9, h⟩ := guardO_some h
    refine JO.reg ttOk 3 [] [] [(10, .ep ⟨a4, x0.length, c5⟩ (Int.toNat x1 * 1))] _ rfl ⟨hs13.ix g9, ⟨rfl, trivial⟩, rfl⟩ ?_
    refine JO.load ttOk rfl rfl rfl rfl rfl rfl rfl 0 rfl rfl (Int.toNat x1) 0 (at' x0 x1) ⟨at_some g9, rfl⟩ rfl rfl ?_
    obtain ⟨y10, hy11, h⟩ := bindO_some h
    refine JO.call rfl rfl rfl rfl (ok_i_ClassOf (at' x0 x1) _ hy11) rfl [] rfl rfl ?_
    intro _ _
    refine JO.reg ttOk 1 [] [] [(7, .v (.int .i64 y10))] _ rfl ⟨⟨rfl, trivial⟩, rfl⟩ ?_
    refine JO.done rfl ?_
    refine JS.seq ?_
    refine JS.seq ?_
    refine JS.region ?_
    refine JO.reg ttOk 5 [] [] [(17, .v (.bool (bif x2 then (decide (y10 = 2)) else false)))] _ rfl ⟨⟨rfl, trivial⟩, rfl⟩ ?_
    refine JO.done rfl ?_
    refine JS.cond rfl (fun ht14 => ?_) (fun ht14 => ?_)
    · have h := condT h ht14
      refine JS.seq ?_
      refine JS.region ?_
      refine JO.reg ttOk 1 [] [] [(6, .v (.int .i64 1))] _ rfl ⟨⟨rfl, trivial⟩, rfl⟩ ?_
      refine JO.done rfl ?_
      cases h
      exact JS.ret ttOk () trivial rfl rfl [] rfl
    · have h := condF h ht14
      refine JS.skip ?_
      refine JS.seq ?_
      refine JS.region ?_
      refine JO.reg ttOk 2 [] [] [(6, .v (.int .i64 y10))] _ rfl ⟨⟨rfl, trivial⟩, rfl⟩ ?_
      refine JO.done rfl ?_
      cases h
      exact JS.ret ttOk () trivial rfl rfl [] rfl

def M_i_runEnd_L1 (x0 : List Int) (x2 : Bool) (y8 : Int) (j20 : Int → Option Int) (k15 : Int → Option Int) : Int → Option Int := fun x10 =>
  (callO ((decide (x10 < (x0.length : Int))) = true) (M_i_classAt x0 x10 x2) (0 : Int) fun (y11 : Int) =>
  (bif (bif (decide (x10 < (x0.length : Int))) then (decide (y11 = y8)) else false) then
  k15 (W (x10 + 1))
  else
  j20 x10))

def M_i_runEnd (x0 : List Int) (x1 : Int) (x2 : Bool) : Option Int :=
  (bindO (M_i_classAt x0 x1 x2) fun (y8 : Int) =>
  (joinO (fun (x19 : Int) =>
  some x19) fun j20 =>
  (fixF (M_i_runEnd_L1 x0 x2 y8 j20) FUEL x1)))

theorem ok_i_runEnd (x0 : List Int) (x1 : Int) (x2 : Bool) (a4 : Option Addr) (c5 : Nat) (l6 : Nat) (hl7 : x0.length = l6) (r : Int) (h : M_i_runEnd x0 x1 x2 = some r) :
    FC Try.prog 97 [.slice a4 l6 c5, .int .i64 x1, .bool x2] [⟨(.int .i64), ⟨a4, l6, c5⟩, x0⟩] (fun _ : Unit => True) (fun _ => .int .i64 r) (fun _ => []) :=
  by
    subst hl7
    refine FC.of (T := TTx) Try.call97 Try.func97 rfl rfl fun w0 => ?_
    unfold M_i_runEnd at h
    refine JS.seq ?_
    refine JS.region ?_
    refine JO.reg ttOk 1 [] [] [] _ rfl ⟨trivial, rfl⟩ ?_
    refine JO.done rfl ?_
    refine JS.seq ?_
    refine JS.region ?_
    refine JO.reg ttOk 3 [] [] [(8, .v (.slice a4 x0.length c5)), (9, .v (.int .i64 x1)), (10, .v (.bool x2))] _ rfl ⟨⟨rfl, rfl, rfl, trivial⟩, rfl⟩ ?_
    obtain ⟨y8, hy9, h⟩ := bindO_some h
    refine JO.call rfl rfl rfl rfl (ok_i_classAt x0 x1 x2 a4 c5 x0.length rfl _ hy9) rfl [0] rfl rfl ?_
    intro _ _
    refine JO.reg ttOk 1 [] [] [(7, .v (.int .i64 y8))] _ rfl ⟨⟨rfl, trivial⟩, rfl⟩ ?_
    refine JO.done rfl ?_
    refine JS.seq ?_
    obtain ⟨j20, hj26, h⟩ := joinO_some h
    refine JS.blockJ (ι := Int) ⟨fun z => j20 z = some r, fun z => [(1, .v (.int .i64 z))], fun z => .nil, fun z => [], fun z => [], fun z => 0⟩ ?_ ?_
    · refine JS.loop (ι := Nat × Int) ⟨fun z => fixF (M_i_runEnd_L1 x0 x2 y8 j20) z.1 z.2 = some r, fun z => [(0, .v (.slice a4 x0.length c5)), (1, .v (.int .i64 z.2)), (2, .v (.bool x2)), (7, .v (.int .i64 y8))], fun z => .nil, fun z => [⟨(.int .i64), ⟨a4, x0.length, c5⟩, x0⟩], fun z => [], fun z => z.1⟩ (FUEL, x1) h ⟨rfl, rfl, rfl, rfl, trivial⟩ trivial [0] rfl [] rfl ?_
      rintro ⟨n16, x10⟩ h
      obtain ⟨n16, rfl, h⟩ := fixF_some h
      rw [M_i_runEnd_L1] at h
      refine JS.seq ?_
      refine JS.seq ?_
      refine JS.region ?_
      refine JO.reg ttOk 8 [] [] [(16, .v (.bool (decide (x10 < (x0.length : Int))))), (17, .cd [(16, true)] (.v (.slice a4 x0.length c5))), (18, .cd [(16, true)] (.v (.int .i64 x10))), (19, .cd [(16, true)] (.v (.bool x2)))] _ rfl ⟨⟨rfl, rfl, rfl, rfl, trivial⟩, rfl⟩ ?_
      obtain ⟨y11, hy12, -, h⟩ := callO_some h
      refine JO.callg rfl rfl rfl rfl (fun q24 => ok_i_classAt x0 x10 x2 a4 c5 x0.length rfl _ (hy12 q24)) rfl [0] rfl rfl ?_
      refine JO.reg ttOk 3 [] [] [(23, .v (.bool (bif (decide (x10 < (x0.length : Int))) then (decide (y11 = y8)) else false)))] _ rfl ⟨⟨rfl, trivial⟩, rfl⟩ ?_
      refine JO.done rfl ?_
      refine JS.cond rfl (fun ht25 => ?_) (fun ht25 => ?_)
      · have h := condT h ht25
        refine JS.skip ?_
        refine JS.block ?_
        refine JS.region ?_
        refine JO.reg ttOk 3 [(W (x10 + 1))] [] [(1, .v (.int .i64 (W (x10 + 1))))] _ rfl ⟨⟨trivial, rfl⟩, ⟨rfl, trivial⟩, rfl⟩ ?_
        refine JO.done rfl ?_
        refine JS.endB ?_
        exact JS.endL (n16, (W (x10 + 1))) h (Nat.lt_succ_self _) ⟨rfl, rfl, rfl, rfl, trivial⟩ trivial [0] rfl [] rfl
      · have h := condF h ht25
        refine JS.exit rfl ?_
        exact JS.endJ x10 h ⟨rfl, trivial⟩ trivial [] rfl [] rfl
    · rintro x19 h
      subst hj26
      refine JS.seq ?_
      refine JS.region ?_
      refine JO.reg ttOk 2 [] [] [(6, .v (.int .i64 x19))] _ rfl ⟨⟨rfl, trivial⟩, rfl⟩ ?_
      refine JO.done rfl ?_
      cases h
      exact JS.ret ttOk () trivial rfl rfl [] rfl

def M_i_ViWordEnd_L1 (x0 : List Int) (x2 : Bool) (j20 : Int → Option Int) (k15 : Int → Option Int) : Int → Option Int := fun x10 =>
  (callO ((decide (x10 < (x0.length : Int))) = true) (M_i_classAt x0 x10 x2) (0 : Int) fun (y11 : Int) =>
  (bif (bif (decide (x10 < (x0.length : Int))) then (decide (y11 = 0)) else false) then
  k15 (W (x10 + 1))
  else
  j20 x10))

def M_i_ViWordEnd (x0 : List Int) (x1 : Int) (x2 : Bool) : Option Int :=
  (bif (decide ((x0.length : Int) = 0)) then
  some 0
  else
  (bindO (M_i_within x1 (x0.length : Int)) fun (y8 : Int) =>
  (joinO (fun (x19 : Int) =>
  (bif (decide ((x0.length : Int) ≤ x19)) then
  some (W ((x0.length : Int) - 1))
  else
  (bindO (M_i_runEnd x0 x19 x2) fun (y23 : Int) =>
  some (W (y23 - 1))))) fun j20 =>
  (fixF (M_i_ViWordEnd_L1 x0 x2 j20) FUEL (W (y8 + 1))))))

theorem ok_i_ViWordEnd (x0 : List Int) (x1 : Int) (x2 : Bool) (a4 : Option Addr) (c5 : Nat) (l6 : Nat) (hl7 : x0.length = l6) (r : Int) (h : M_i_ViWordEnd x0 x1 x2 = some r) :
    FC Try.prog 51 [.slice a4 l6 c5, .int .i64 x1, .bool x2] [⟨(.int .i64), ⟨a4, l6, c5⟩, x0⟩] (fun _ : Unit => True) (fun _ => .int .i64 r) (fun _ => []) :=
  by
    subst hl7
    refine FC.of (T := TTx) Try.call51 Try.func51 rfl rfl fun w0 => ?_
    unfold M_i_ViWordEnd at h
    refine JS.seq ?_
    refine JS.region ?_
    refine JO.reg ttOk 1 [] [] [] _ rfl ⟨trivial, rfl⟩ ?_
    refine JO.done rfl ?_
    refine JS.seq ?_
    refine JS.region ?_
    refine JO.reg ttOk 3 [] [] [(7, .v (.int .i64 (x0.length : Int)))] _ rfl ⟨⟨rfl, trivial⟩, rfl⟩ ?_
    refine JO.done rfl ?_
    refine JS.seq ?_
    refine JS.seq ?_
    refine JS.region ?_
    refine JO.reg ttOk 2 [] [] [(11, .v (.bool (decide ((x0.length : Int) = 0))))] _ rfl ⟨⟨rfl, trivial⟩, rfl⟩ ?_
    refine JO.done rfl ?_
    refine JS.cond rfl (fun ht32 => ?_) (fun ht32 => ?_)
    · have h := condT h ht32
      refine JS.seq ?_
      refine JS.region ?_
      refine JO.reg ttOk 1 [] [] [(6, .v (.int .i64 0))] _ rfl ⟨⟨rfl, trivial⟩, rfl⟩ ?_
      refine JO.done rfl ?_
      cases h
      exact JS.ret ttOk () trivial rfl rfl [] rfl
    · have h := condF h ht32
      refine JS.skip ?_
      refine JS.seq ?_
      refine JS.region ?_
      refine JO.reg ttOk 2 [] [] [(12, .v (.int .i64 x1)), (13, .v (.int .i64 (x0.length : Int)))] _ rfl ⟨⟨rfl, rfl, trivial⟩, rfl⟩ ?_
      obtain ⟨y8, hy9, h⟩ := bindO_some h
      refine JO.call rfl rfl rfl rfl (ok_i_within x1 (x0.length : Int) _ hy9) rfl [] rfl rfl ?_
      intro _ _
      refine JO.reg ttOk 2 [(W (y8 + 1))] [] [(1, .v (.int .i64 (W (y8 + 1))))] _ rfl ⟨⟨trivial, rfl⟩, ⟨rfl, trivial⟩, rfl⟩ ?_
      refine JO.done rfl ?_
      refine JS.seq ?_
      obtain ⟨j20, hj31, h⟩ := joinO_some h
      refine JS.blockJ (ι := Int) ⟨fun z => j20 z = some r, fun z => [(0, .v (.slice a4 x0.length c5)), (1, .v (.int .i64 z)), (2, .v (.bool x2)), (7, .v (.int .i64 (x0.length : Int)))], fun z => .nil, fun z => [⟨(.int .i64), ⟨a4, x0.length, c5⟩, x0⟩], fun z => [], fun z => 0⟩ ?_ ?_
      · refine JS.loop (ι := Nat × Int) ⟨fun z => fixF (M_i_ViWordEnd_L1 x0 x2 j20) z.1 z.2 = some r, fun z => [(0, .v (.slice a4 x0.length c5)), (1, .v (.int .i64 z.2)), (2, .v (.bool x2)), (7, .v (.int .i64 (x0.length : Int)))], fun z => .nil, fun z => [⟨(.int .i64), ⟨a4, x0.length, c5⟩, x0⟩], fun z => [], fun z => z.1⟩ (FUEL, (W (y8 + 1))) h ⟨rfl, rfl, rfl, rfl, trivial⟩ trivial [0] rfl [] rfl ?_
        rintro ⟨n16, x10⟩ h
        obtain ⟨n16, rfl, h⟩ := fixF_some h
        rw [M_i_ViWordEnd_L1] at h
        refine JS.seq ?_
        refine JS.seq ?_
        refine JS.region ?_
        refine JO.reg ttOk 7 [] [] [(19, .v (.bool (decide (x10 < (x0.length : Int))))), (20, .cd [(19, true)] (.v (.slice a4 x0.length c5))), (21, .cd [(19, true)] (.v (.int .i64 x10))), (22, .cd [(19, true)] (.v (.bool x2)))] _ rfl ⟨⟨rfl, rfl, rfl, rfl, trivial⟩, rfl⟩ ?_
        obtain ⟨y11, hy12, -, h⟩ := callO_some h
        refine JO.callg rfl rfl rfl rfl (fun q28 => ok_i_classAt x0 x10 x2 a4 c5 x0.length rfl _ (hy12 q28)) rfl [0] rfl rfl ?_
        refine JO.reg ttOk 2 [] [] [(25, .v (.bool (bif (decide (x10 < (x0.length : Int))) then (decide (y11 = 0)) else false)))] _ rfl ⟨⟨rfl, trivial⟩, rfl⟩ ?_
        refine JO.done rfl ?_
        refine JS.cond rfl (fun ht29 => ?_) (fun ht29 => ?_)
        · have h := condT h ht29
          refine JS.skip ?_
          refine JS.block ?_
          refine JS.region ?_
          refine JO.reg ttOk 3 [(W (x10 + 1))] [] [(1, .v (.int .i64 (W (x10 + 1))))] _ rfl ⟨⟨trivial, rfl⟩, ⟨rfl, trivial⟩, rfl⟩ ?_
          refine JO.done rfl ?_
          refine JS.endB ?_
          exact JS.endL (n16, (W (x10 + 1))) h (Nat.lt_succ_self _) ⟨rfl, rfl, rfl, rfl, trivial⟩ trivial [0] rfl [] rfl
        · have h := condF h ht29
          refine JS.exit rfl ?_
          exact JS.endJ x10 h ⟨rfl, rfl, rfl, rfl, trivial⟩ trivial [0] rfl [] rfl
      · rintro x19 h
        subst hj31
        refine JS.seq ?_
        refine JS.seq ?_
        refine JS.region ?_
        refine JO.reg ttOk 3 [] [] [(30, .v (.bool (decide ((x0.length : Int) ≤ x19))))] _ rfl ⟨⟨rfl, trivial⟩, rfl⟩ ?_
        refine JO.done rfl ?_
        refine JS.cond rfl (fun ht30 => ?_) (fun ht30 => ?_)
        · have h := condT h ht30
          refine JS.seq ?_
          refine JS.region ?_
          refine JO.reg ttOk 3 [(W ((x0.length : Int) - 1))] [] [(6, .v (.int .i64 (W ((x0.length : Int) - 1))))] _ rfl ⟨⟨trivial, rfl⟩, ⟨rfl, trivial⟩, rfl⟩ ?_
          refine JO.done rfl ?_
          cases h
          exact JS.ret ttOk () trivial rfl rfl [] rfl
        · have h := condF h ht30
          refine JS.skip ?_
          refine JS.seq ?_
          refine JS.region ?_
          refine JO.reg ttOk 3 [] [] [(33, .v (.slice a4 x0.length c5)), (34, .v (.int .i64 x19)), (35, .v (.bool x2))] _ rfl ⟨⟨rfl, rfl, rfl, trivial⟩, rfl⟩ ?_
          obtain ⟨y23, hy24, h⟩ := bindO_some h
          refine JO.call rfl rfl rfl rfl (ok_i_runEnd x0 x19 x2 a4 c5 x0.length rfl _ hy24) rfl [0] rfl rfl ?_
          intro _ _
          refine JO.reg ttOk 2 [(W (y23 - 1))] [] [(6, .v (.int .i64 (W (y23 - 1))))] _ rfl ⟨⟨trivial, rfl⟩, ⟨rfl, trivial⟩, rfl⟩ ?_
          refine JO.done rfl ?_
          cases h
          exact JS.ret ttOk () trivial rfl rfl [] rfl

def M_i_ViWordBack_L1 (x0 : List Int) (x2 : Bool) (j22 : Int → Option Int) (k16 : Int → Option Int) : Int → Option Int := fun x10 =>
  (callO ((decide (0 < x10)) = true) (M_i_classAt x0 (W (x10 - 1)) x2) (0 : Int) fun (y12 : Int) =>
  (bif (bif (decide (0 < x10)) then (decide (y12 = 0)) else false) then
  k16 (W (x10 - 1))
  else
  j22 x10))

def M_i_ViWordBack_L2 (x0 : List Int) (x2 : Bool) (y26 : Int) (j40 : Int → Option Int) (k34 : Int → Option Int) : Int → Option Int := fun x28 =>
  (callO ((decide (0 < x28)) = true) (M_i_classAt x0 (W (x28 - 1)) x2) (0 : Int) fun (y30 : Int) =>
  (bif (bif (decide (0 < x28)) then (decide (y30 = y26)) else false) then
  k34 (W (x28 - 1))
  else
  j40 x28))

def M_i_ViWordBack (x0 : List Int) (x1 : Int) (x2 : Bool) : Option Int :=
  (bindO (M_i_within x1 (x0.length : Int)) fun (y8 : Int) =>
  (joinO (fun (x21 : Int) =>
  (bif (decide (x21 = 0)) then
  some 0
  else
  (bindO (M_i_classAt x0 (W (x21 - 1)) x2) fun (y26 : Int) =>
  (joinO (fun (x39 : Int) =>
  some x39) fun j40 =>
  (fixF (M_i_ViWordBack_L2 x0 x2 y26 j40) FUEL x21))))) fun j22 =>
  (fixF (M_i_ViWordBack_L1 x0 x2 j22) FUEL y8)))

theorem ok_i_ViWordBack (x0 : List Int) (x1 : Int) (x2 : Bool) (a4 : Option Addr) (c5 : Nat) (l6 : Nat) (hl7 : x0.length = l6) (r : Int) (h : M_i_ViWordBack x0 x1 x2 = some r) :
    FC Try.prog 49 [.slice a4 l6 c5, .int .i64 x1, .bool x2] [⟨(.int .i64), ⟨a4, l6, c5⟩, x0⟩] (fun _ : Unit => True) (fun _ => .int .i64 r) (fun _ => []) :=
  by
    subst hl7
    refine FC.of (T := TTx) Try.call49 Try.func49 rfl rfl fun w0 => ?_
    unfold M_i_ViWordBack at h
    refine JS.seq ?_
    refine JS.region ?_
    refine JO.reg ttOk 1 [] [] [] _ rfl ⟨trivial, rfl⟩ ?_
    refine JO.done rfl ?_
    refine JS.seq ?_
    refine JS.region ?_
    refine JO.reg ttOk 3 [] [] [(8, .v (.int .i64 x1)), (10, .v (.int .i64 (x0.length : Int)))] _ rfl ⟨⟨rfl, rfl, trivial⟩, rfl⟩ ?_
    obtain ⟨y8, hy9, h⟩ := bindO_some h
    refine JO.call rfl rfl rfl rfl (ok_i_within x1 (x0.length : Int) _ hy9) rfl [] rfl rfl ?_
    intro _ _
    refine JO.reg ttOk 1 [] [] [(1, .v (.int .i64 y8))] _ rfl ⟨⟨rfl, trivial⟩, rfl⟩ ?_
    refine JO.done rfl ?_
    refine JS.seq ?_
    obtain ⟨j22, hj55, h⟩ := joinO_some h
    refine JS.blockJ (ι := Int) ⟨fun z => j22 z = some r, fun z => [(0, .v (.slice a4 x0.length c5)), (1, .v (.int .i64 z)), (2, .v (.bool x2))], fun z => .nil, fun z => [⟨(.int .i64), ⟨a4, x0.length, c5⟩, x0⟩], fun z => [], fun z => 0⟩ ?_ ?_
    · refine JS.loop (ι := Nat × Int) ⟨fun z => fixF (M_i_ViWordBack_L1 x0 x2 j22) z.1 z.2 = some r, fun z => [(0, .v (.slice a4 x0.length c5)), (1, .v (.int .i64 z.2)), (2, .v (.bool x2))], fun z => .nil, fun z => [⟨(.int .i64), ⟨a4, x0.length, c5⟩, x0⟩], fun z => [], fun z => z.1⟩ (FUEL, y8) h ⟨rfl, rfl, rfl, trivial⟩ trivial [0] rfl [] rfl ?_
      rintro ⟨n17, x10⟩ h
      obtain ⟨n17, rfl, h⟩ := fixF_some h
      rw [M_i_ViWordBack_L1] at h
      refine JS.seq ?_
      refine JS.seq ?_
      refine JS.region ?_
      refine JO.reg ttOk 7 [(W (x10 - 1))] [] [(14, .v (.bool (decide (0 < x10)))), (15, .cd [(14, true)] (.v (.slice a4 x0.length c5))), (17, .cd [(14, true)] (.v (.int .i64 (W (x10 - 1))))), (18, .cd [(14, true)] (.v (.bool x2)))] _ rfl ⟨(fun q47 => ⟨trivial, rfl⟩), ⟨rfl, rfl, rfl, rfl, trivial⟩, rfl⟩ ?_
      obtain ⟨y12, hy13, -, h⟩ := callO_some h
      refine JO.callg rfl rfl rfl rfl (fun q48 => ok_i_classAt x0 (W (x10 - 1)) x2 a4 c5 x0.length rfl _ (hy13 q48)) rfl [0] rfl rfl ?_
      refine JO.reg ttOk 2 [] [] [(21, .v (.bool (bif (decide (0 < x10)) then (decide (y12 = 0)) else false)))] _ rfl ⟨⟨rfl, trivial⟩, rfl⟩ ?_
      refine JO.done rfl ?_
      refine JS.cond rfl (fun ht49 => ?_) (fun ht49 => ?_)
      · have h := condT h ht49
        refine JS.skip ?_
        refine JS.block ?_
        refine JS.region ?_
        refine JO.reg ttOk 3 [(W (x10 - 1))] [] [(1, .v (.int .i64 (W (x10 - 1))))] _ rfl ⟨⟨trivial, rfl⟩, ⟨rfl, trivial⟩, rfl⟩ ?_
        refine JO.done rfl ?_
        refine JS.endB ?_
        exact JS.endL (n17, (W (x10 - 1))) h (Nat.lt_succ_self _) ⟨rfl, rfl, rfl, trivial⟩ trivial [0] rfl [] rfl
      · have h := condF h ht49
        refine JS.exit rfl ?_
        exact JS.endJ x10 h ⟨rfl, rfl, rfl, trivial⟩ trivial [0] rfl [] rfl
    · rintro x21 h
      subst hj55
      refine JS.seq ?_
      refine JS.seq ?_
      refine JS.region ?_
      refine JO.reg ttOk 2 [] [] [(25, .v (.bool (decide (x21 = 0))))] _ rfl ⟨⟨rfl, trivial⟩, rfl⟩ ?_
      refine JO.done rfl ?_
      refine JS.cond rfl (fun ht54 => ?_) (fun ht54 => ?_)
      · have h := condT h ht54
        refine JS.seq ?_
        refine JS.region ?_
        refine JO.reg ttOk 1 [] [] [(6, .v (.int .i64 0))] _ rfl ⟨⟨rfl, trivial⟩, rfl⟩ ?_
        refine JO.done rfl ?_
        cases h
        exact JS.ret ttOk () trivial rfl rfl [] rfl
      · have h := condF h ht54
        refine JS.skip ?_
        refine JS.seq ?_
        refine JS.region ?_
        refine JO.reg ttOk 4 [(W (x21 - 1))] [] [(26, .v (.slice a4 x0.length c5)), (28, .v (.int .i64 (W (x21 - 1)))), (29, .v (.bool x2))] _ rfl ⟨⟨trivial, rfl⟩, ⟨rfl, rfl, rfl, trivial⟩, rfl⟩ ?_
        obtain ⟨y26, hy27, h⟩ := bindO_some h
        refine JO.call rfl rfl rfl rfl (ok_i_classAt x0 (W (x21 - 1)) x2 a4 c5 x0.length rfl _ hy27) rfl [0] rfl rfl ?_
        intro _ _
        refine JO.reg ttOk 1 [] [] [(7, .v (.int .i64 y26))] _ rfl ⟨⟨rfl, trivial⟩, rfl⟩ ?_
        refine JO.done rfl ?_
        refine JS.seq ?_
        obtain ⟨j40, hj53, h⟩ := joinO_some h
        refine JS.blockJ (ι := Int) ⟨fun z => j40 z = some r, fun z => [(1, .v (.int .i64 z))], fun z => .nil, fun z => [], fun z => [], fun z => 0⟩ ?_ ?_
        · refine JS.loop (ι := Nat × Int) ⟨fun z => fixF (M_i_ViWordBack_L2 x0 x2 y26 j40) z.1 z.2 = some r, fun z => [(0, .v (.slice a4 x0.length c5)), (1, .v (.int .i64 z.2)), (2, .v (.bool x2)), (7, .v (.int .i64 y26))], fun z => .nil, fun z => [⟨(.int .i64), ⟨a4, x0.length, c5⟩, x0⟩], fun z => [], fun z => z.1⟩ (FUEL, x21) h ⟨rfl, rfl, rfl, rfl, trivial⟩ trivial [0] rfl [] rfl ?_
          rintro ⟨n35, x28⟩ h
          obtain ⟨n35, rfl, h⟩ := fixF_some h
          rw [M_i_ViWordBack_L2] at h
          refine JS.seq ?_
          refine JS.seq ?_
          refine JS.region ?_
          refine JO.reg ttOk 7 [(W (x28 - 1))] [] [(33, .v (.bool (decide (0 < x28)))), (34, .cd [(33, true)] (.v (.slice a4 x0.length c5))), (36, .cd [(33, true)] (.v (.int .i64 (W (x28 - 1))))), (37, .cd [(33, true)] (.v (.bool x2)))] _ rfl ⟨(fun q50 => ⟨trivial, rfl⟩), ⟨rfl, rfl, rfl, rfl, trivial⟩, rfl⟩ ?_
          obtain ⟨y30, hy31, -, h⟩ := callO_some h
          refine JO.callg rfl rfl rfl rfl (fun q51 => ok_i_classAt x0 (W (x28 - 1)) x2 a4 c5 x0.length rfl _ (hy31 q51)) rfl [0] rfl rfl ?_
          refine JO.reg ttOk 3 [] [] [(41, .v (.bool (bif (decide (0 < x28)) then (decide (y30 = y26)) else false)))] _ rfl ⟨⟨rfl, trivial⟩, rfl⟩ ?_
          refine JO.done rfl ?_
          refine JS.cond rfl (fun ht52 => ?_) (fun ht52 => ?_)
          · have h := condT h ht52
            refine JS.skip ?_
            refine JS.block ?_
            refine JS.region ?_
            refine JO.reg ttOk 3 [(W (x28 - 1))] [] [(1, .v (.int .i64 (W (x28 - 1))))] _ rfl ⟨⟨trivial, rfl⟩, ⟨rfl, trivial⟩, rfl⟩ ?_
            refine JO.done rfl ?_
            refine JS.endB ?_
            exact JS.endL (n35, (W (x28 - 1))) h (Nat.lt_succ_self _) ⟨rfl, rfl, rfl, rfl, trivial⟩ trivial [0] rfl [] rfl
          · have h := condF h ht52
            refine JS.exit rfl ?_
            exact JS.endJ x28 h ⟨rfl, trivial⟩ trivial [] rfl [] rfl
        · rintro x39 h
          subst hj53
          refine JS.seq ?_
          refine JS.region ?_
          refine JO.reg ttOk 2 [] [] [(6, .v (.int .i64 x39))] _ rfl ⟨⟨rfl, trivial⟩, rfl⟩ ?_
          refine JO.done rfl ?_
          cases h
          exact JS.ret ttOk () trivial rfl rfl [] rfl

def M_i_ViWordOn_L1 (x0 : List Int) (x2 : Bool) (j30 : Int → Option Int) (k25 : Int → Option Int) : Int → Option Int := fun x20 =>
  (callO ((decide (x20 < (x0.length : Int))) = true) (M_i_classAt x0 x20 x2) (0 : Int) fun (y21 : Int) =>
  (bif (bif (decide (x20 < (x0.length : Int))) then (decide (y21 = 0)) else false) then
  k25 (W (x20 + 1))
  else
  j30 x20))

def M_i_ViWordOn (x0 : List Int) (x1 : Int) (x2 : Bool) : Option Int :=
  (bindO (M_i_within x1 (x0.length : Int)) fun (y8 : Int) =>
  (joinO (fun (x16 : Int) =>
  (joinO (fun (x29 : Int) =>
  some x29) fun j30 =>
  (fixF (M_i_ViWordOn_L1 x0 x2 j30) FUEL x16))) fun j17 =>
  (callO ((decide (y8 < (x0.length : Int))) = true) (M_i_classAt x0 y8 x2) (0 : Int) fun (y10 : Int) =>
  (bif (bif (decide (y8 < (x0.length : Int))) then (!(decide (y10 = 0))) else false) then
  (bindO (M_i_runEnd x0 y8 x2) fun (y13 : Int) =>
  j17 y13)
  else
  j17 y8))))

theorem ok_i_ViWordOn (x0 : List Int) (x1 : Int) (x2 : Bool) (a4 : Option Addr) (c5 : Nat) (l6 : Nat) (hl7 : x0.length = l6) (r : Int) (h : M_i_ViWordOn x0 x1 x2 = some r) :
    FC Try.prog 47 [.slice a4 l6 c5, .int .i64 x1, .bool x2] [⟨(.int .i64), ⟨a4, l6, c5⟩, x0⟩] (fun _ : Unit => True) (fun _ => .int .i64 r) (fun _ => []) :=
  by
    subst hl7
    refine FC.of (T := TTx) Try.call47 Try.func47 rfl rfl fun w0 => ?_
    unfold M_i_ViWordOn at h
    refine JS.seq ?_
    refine JS.region ?_
    refine JO.reg ttOk 1 [] [] [] _ rfl ⟨trivial, rfl⟩ ?_
    refine JO.done rfl ?_
    refine JS.seq ?_
    refine JS.region ?_
    refine JO.reg ttOk 3 [] [] [(7, .v (.int .i64 x1)), (9, .v (.int .i64 (x0.length : Int)))] _ rfl ⟨⟨rfl, rfl, trivial⟩, rfl⟩ ?_
    obtain ⟨y8, hy9, h⟩ := bindO_some h
    refine JO.call rfl rfl rfl rfl (ok_i_within x1 (x0.length : Int) _ hy9) rfl [] rfl rfl ?_
    intro _ _
    refine JO.reg ttOk 1 [] [] [(1, .v (.int .i64 y8))] _ rfl ⟨⟨rfl, trivial⟩, rfl⟩ ?_
    refine JO.done rfl ?_
    obtain ⟨j17, hj40, h⟩ := joinO_some h
    refine JS.seqJ (ι := Int) ⟨fun z => j17 z = some r, fun z => [(0, .v (.slice a4 x0.length c5)), (1, .v (.int .i64 z)), (2, .v (.bool x2))], fun z => .nil, fun z => [⟨(.int .i64), ⟨a4, x0.length, c5⟩, x0⟩], fun z => [], fun z => 0⟩ ?_ ?_
    · refine JS.seq ?_
      refine JS.region ?_
      refine JO.reg ttOk 8 [] [] [(15, .v (.bool (decide (y8 < (x0.length : Int))))), (16, .cd [(15, true)] (.v (.slice a4 x0.length c5))), (17, .cd [(15, true)] (.v (.int .i64 y8))), (18, .cd [(15, true)] (.v (.bool x2)))] _ rfl ⟨⟨rfl, rfl, rfl, rfl, trivial⟩, rfl⟩ ?_
      obtain ⟨y10, hy11, -, h⟩ := callO_some h
      refine JO.callg rfl rfl rfl rfl (fun q35 => ok_i_classAt x0 y8 x2 a4 c5 x0.length rfl _ (hy11 q35)) rfl [0] rfl rfl ?_
      refine JO.reg ttOk 2 [] [] [(21, .v (.bool (bif (decide (y8 < (x0.length : Int))) then (!(decide (y10 = 0))) else false)))] _ rfl ⟨⟨rfl, trivial⟩, rfl⟩ ?_
      refine JO.done rfl ?_
      refine JS.cond rfl (fun ht36 => ?_) (fun ht36 => ?_)
      · have h := condT h ht36
        refine JS.region ?_
        refine JO.reg ttOk 3 [] [] [(22, .v (.slice a4 x0.length c5)), (23, .v (.int .i64 y8)), (24, .v (.bool x2))] _ rfl ⟨⟨rfl, rfl, rfl, trivial⟩, rfl⟩ ?_
        obtain ⟨y13, hy14, h⟩ := bindO_some h
        refine JO.call rfl rfl rfl rfl (ok_i_runEnd x0 y8 x2 a4 c5 x0.length rfl _ hy14) rfl [0] rfl rfl ?_
        intro _ _
        refine JO.reg ttOk 1 [] [] [(1, .v (.int .i64 y13))] _ rfl ⟨⟨rfl, trivial⟩, rfl⟩ ?_
        refine JO.done rfl ?_
        exact JS.endJ y13 h ⟨rfl, rfl, rfl, trivial⟩ trivial [0] rfl [] rfl
      · have h := condF h ht36
        refine JS.skip ?_
        exact JS.endJ y8 h ⟨rfl, rfl, rfl, trivial⟩ trivial [0] rfl [] rfl
    · rintro x16 h
      subst hj40
      refine JS.seq ?_
      obtain ⟨j30, hj39, h⟩ := joinO_some h
      refine JS.blockJ (ι := Int) ⟨fun z => j30 z = some r, fun z => [(1, .v (.int .i64 z))], fun z => .nil, fun z => [], fun z => [], fun z => 0⟩ ?_ ?_
      · refine JS.loop (ι := Nat × Int) ⟨fun z => fixF (M_i_ViWordOn_L1 x0 x2 j30) z.1 z.2 = some r, fun z => [(0, .v (.slice a4 x0.length c5)), (1, .v (.int .i64 z.2)), (2, .v (.bool x2))], fun z => .nil, fun z => [⟨(.int .i64), ⟨a4, x0.length, c5⟩, x0⟩], fun z => [], fun z => z.1⟩ (FUEL, x16) h ⟨rfl, rfl, rfl, trivial⟩ trivial [0] rfl [] rfl ?_
        rintro ⟨n26, x20⟩ h
        obtain ⟨n26, rfl, h⟩ := fixF_some h
        rw [M_i_ViWordOn_L1] at h
        refine JS.seq ?_
        refine JS.seq ?_
        refine JS.region ?_
        refine JO.reg ttOk 8 [] [] [(30, .v (.bool (decide (x20 < (x0.length : Int))))), (31, .cd [(30, true)] (.v (.slice a4 x0.length c5))), (32, .cd [(30, true)] (.v (.int .i64 x20))), (33, .cd [(30, true)] (.v (.bool x2)))] _ rfl ⟨⟨rfl, rfl, rfl, rfl, trivial⟩, rfl⟩ ?_
        obtain ⟨y21, hy22, -, h⟩ := callO_some h
        refine JO.callg rfl rfl rfl rfl (fun q37 => ok_i_classAt x0 x20 x2 a4 c5 x0.length rfl _ (hy22 q37)) rfl [0] rfl rfl ?_
        refine JO.reg ttOk 2 [] [] [(36, .v (.bool (bif (decide (x20 < (x0.length : Int))) then (decide (y21 = 0)) else false)))] _ rfl ⟨⟨rfl, trivial⟩, rfl⟩ ?_
        refine JO.done rfl ?_
        refine JS.cond rfl (fun ht38 => ?_) (fun ht38 => ?_)
        · have h := condT h ht38
          refine JS.skip ?_
          refine JS.block ?_
          refine JS.region ?_
          refine JO.reg ttOk 3 [(W (x20 + 1))] [] [(1, .v (.int .i64 (W (x20 + 1))))] _ rfl ⟨⟨trivial, rfl⟩, ⟨rfl, trivial⟩, rfl⟩ ?_
          refine JO.done rfl ?_
          refine JS.endB ?_
          exact JS.endL (n26, (W (x20 + 1))) h (Nat.lt_succ_self _) ⟨rfl, rfl, rfl, trivial⟩ trivial [0] rfl [] rfl
        · have h := condF h ht38
          refine JS.exit rfl ?_
          exact JS.endJ x20 h ⟨rfl, trivial⟩ trivial [] rfl [] rfl
      · rintro x29 h
        subst hj39
        refine JS.seq ?_
        refine JS.region ?_
        refine JO.reg ttOk 2 [] [] [(6, .v (.int .i64 x29))] _ rfl ⟨⟨rfl, trivial⟩, rfl⟩ ?_
        refine JO.done rfl ?_
        cases h
        exact JS.ret ttOk () trivial rfl rfl [] rfl

def M_i_MotionTo1 (x0 : Int) (x1 : List Int) (x2 : Bool) : Option (Int × List Int × Bool) :=
  (bindO (M_i_ViWordOn x1 x0 x2) fun (y10 : Int) =>
  some (y10, x1, x2))

theorem ok_i_MotionTo1 (x0 : Int) (x1 : List Int) (x2 : Bool) (a4 : Option Addr) (a5 : Option Addr) (c6 : Nat) (l7 : Nat) (hl8 : x1.length = l7) (a9 : Option Addr) (r : Int × List Int × Bool) (h : M_i_MotionTo1 x0 x1 x2 = some r) :
    FX Try.prog 46 [.int .i64 x0, .pointer a4, .pointer a9] [⟨(.int .i64), ⟨a5, l7, c6⟩, x1⟩] [⟨.val, ⟨a4, 1, 1⟩, [(Sl.v ⟨a5, l7, c6⟩)]⟩, ⟨.bool, ⟨a9, 1, 1⟩, [x2]⟩] (fun _ : Unit => True) (fun _ => .int .i64 r.1) (fun _ => [⟨.val, ⟨a4, 1, 1⟩, [(Sl.v ⟨a5, l7, c6⟩)]⟩, ⟨.bool, ⟨a9, 1, 1⟩, [r.2.2]⟩]) :=
  by
    subst hl8
    refine FX.of (T := TTx) Try.call46 Try.func46 rfl rfl fun w0 L0 => ?_
    unfold M_i_MotionTo1 at h
    refine JS.ptr 1 a4 rfl ?_
    refine JS.ptr 2 a9 rfl ?_
    refine JS.seq ?_
    refine JS.region ?_
    refine JO.reg ttOk 1 [] [] [] _ rfl ⟨trivial, rfl⟩ ?_
    refine JO.done rfl ?_
    refine JS.seq ?_
    refine JS.region ?_
    refine JO.loadV ttOk rfl rfl rfl rfl rfl rfl 1 rfl rfl 0 0 (Sl.v ⟨a5, x1.length, c6⟩) ⟨rfl, rfl⟩ rfl rfl rfl ?_
    refine JO.reg ttOk 1 [] [] [(6, .v (.int .i64 x0))] _ rfl ⟨⟨rfl, trivial⟩, rfl⟩ ?_
    refine JO.loadV ttOk rfl rfl rfl rfl rfl rfl 2 rfl rfl 0 0 x2 ⟨rfl, rfl⟩ rfl rfl rfl ?_
    obtain ⟨y10, hy11, h⟩ := bindO_some h
    refine JO.call rfl rfl rfl rfl (ok_i_ViWordOn x1 x0 x2 a5 c6 x1.length rfl _ hy11) rfl [0] rfl rfl ?_
    intro _ _
    refine JO.reg ttOk 1 [] [] [(4, .v (.int .i64 y10))] _ rfl ⟨⟨rfl, trivial⟩, rfl⟩ ?_
    refine JO.done rfl ?_
    cases h
    exact JS.retX ttOk () trivial rfl rfl [0, 0] rfl

def M_i_repeated_f46_L1 (x1 : Int) (x2 : (List Int) × Bool) (j27 : (Int × Bool) → Option (Int × List Int × Bool)) (k22 : (Int × Int × Bool) → Option (Int × List Int × Bool)) : (Int × Int × Bool) → Option (Int × List Int × Bool) := fun (x10, x11, x15) =>
  (bif (decide (x11 < x1)) then
  (bindO (M_i_MotionTo1 x10 x2.1 x15) fun (y16, y17, y18) =>
  k22 (y16, (W (x11 + 1)), y18))
  else
  j27 (x10, x15))

def M_i_repeated_f46 (x0 : Int) (x1 : Int) (x2 : (List Int) × Bool) : Option (Int × List Int × Bool) :=
  (joinO (fun ((x25, x26) : Int × Bool) =>
  some (x25, x2.1, x26)) fun j27 =>
  (fixF (M_i_repeated_f46_L1 x1 x2 j27) FUEL (x0, 0, x2.2)))

theorem ok_i_repeated_f46 (x0 : Int) (x1 : Int) (x2 : (List Int) × Bool) (a4 : Option Addr) (a5 : Option Addr) (c6 : Nat) (l7 : Nat) (hl8 : x2.1.length = l7) (a9 : Option Addr) (r : Int × List Int × Bool) (h : M_i_repeated_f46 x0 x1 x2 = some r) :
    FX Try.prog 45 [.int .i64 x0, .int .i64 x1, .func (.func 46) #[] #[.pointer a4, .pointer a9]] [⟨(.int .i64), ⟨a5, l7, c6⟩, x2.1⟩] [⟨.val, ⟨a4, 1, 1⟩, [(Sl.v ⟨a5, l7, c6⟩)]⟩, ⟨.bool, ⟨a9, 1, 1⟩, [x2.2]⟩] (fun _ : Unit => True) (fun _ => .int .i64 r.1) (fun _ => [⟨.val, ⟨a4, 1, 1⟩, [(Sl.v ⟨a5, l7, c6⟩)]⟩, ⟨.bool, ⟨a9, 1, 1⟩, [r.2.2]⟩]) :=
  by
    subst hl8
    refine FX.of (T := TTx) Try.call45 Try.func45 rfl rfl fun w0 L0 => ?_
    unfold M_i_repeated_f46 at h
    refine JS.seq ?_
    refine JS.region ?_
    refine JO.reg ttOk 1 [] [] [] _ rfl ⟨trivial, rfl⟩ ?_
    refine JO.done rfl ?_
    refine JS.seq ?_
    refine JS.seq ?_
    refine JS.region ?_
    refine JO.reg ttOk 2 [] [] [(7, .v (.int .i64 x1)), (8, .v (.int .i64 0))] _ rfl ⟨⟨rfl, rfl, trivial⟩, rfl⟩ ?_
    refine JO.done rfl ?_
    obtain ⟨j27, hj31, h⟩ := joinO_some h
    refine JS.blockJ (ι := Int × Bool) ⟨fun z => j27 (z.1, z.2) = some r, fun z => [(0, .v (.int .i64 z.1))], fun z => .nil, fun z => [⟨(.int .i64), ⟨a5, x2.1.length, c6⟩, x2.1⟩], fun z => [⟨.val, ⟨a4, 1, 1⟩, [(Sl.v ⟨a5, x2.1.length, c6⟩)]⟩, ⟨.bool, ⟨a9, 1, 1⟩, [z.2]⟩], fun z => 0⟩ ?_ ?_
    · refine JS.loop (ι := Nat × Int × Int × Bool) ⟨fun z => fixF (M_i_repeated_f46_L1 x1 x2 j27) z.1 (z.2.1, z.2.2.1, z.2.2.2) = some r, fun z => [(0, .v (.int .i64 z.2.1)), (2, .v (.func (.func 46) #[] #[.pointer a4, .pointer a9])), (7, .v (.int .i64 x1)), (8, .v (.int .i64 z.2.2.1))], fun z => .nil, fun z => [⟨(.int .i64), ⟨a5, x2.1.length, c6⟩, x2.1⟩], fun z => [⟨.val, ⟨a4, 1, 1⟩, [(Sl.v ⟨a5, x2.1.length, c6⟩)]⟩, ⟨.bool, ⟨a9, 1, 1⟩, [z.2.2.2]⟩], fun z => z.1⟩ (FUEL, x0, 0, x2.2) h ⟨rfl, rfl, rfl, rfl, trivial⟩ trivial [0] rfl [0, 0] rfl ?_
      rintro ⟨n23, x10, x11, x15⟩ h
      obtain ⟨n23, rfl, h⟩ := fixF_some h
      rw [M_i_repeated_f46_L1] at h
      refine JS.seq ?_
      refine JS.region ?_
      refine JO.reg ttOk 1 [] [] [(9, .v (.bool (decide (x11 < x1))))] _ rfl ⟨⟨rfl, trivial⟩, rfl⟩ ?_
      refine JO.done rfl ?_
      refine JS.seq ?_
      refine JS.cond rfl (fun ht30 => ?_) (fun ht30 => ?_)
      · have h := condT h ht30
        refine JS.skip ?_
        refine JS.seq ?_
        refine JS.block ?_
        refine JS.region ?_
        refine JO.reg ttOk 2 [] [] [(10, .v (.func (.func 46) #[] #[.pointer a4, .pointer a9])), (11, .v (.int .i64 x10))] _ rfl ⟨⟨rfl, rfl, trivial⟩, rfl⟩ ?_
        obtain ⟨⟨y16, y17, y18⟩, hy19, h⟩ := bindO_some h
        refine JO.callXV (vs0 := [.int .i64 x10]) (caps := [.pointer a4, .pointer a9]) rfl rfl rfl rfl rfl (ok_i_MotionTo1 x10 x2.1 x15 a4 a5 c6 x2.1.length rfl a9 _ hy19) rfl [0, 0] rfl [0] rfl rfl ?_
        intro _ _
        refine JO.reg ttOk 1 [] [] [(0, .v (.int .i64 y16))] _ rfl ⟨⟨rfl, trivial⟩, rfl⟩ ?_
        refine JO.done rfl ?_
        refine JS.endB ?_
        refine JS.region ?_
        refine JO.reg ttOk 2 [(W (x11 + 1))] [] [(8, .v (.int .i64 (W (x11 + 1))))] _ rfl ⟨⟨trivial, rfl⟩, ⟨rfl, trivial⟩, rfl⟩ ?_
        refine JO.done rfl ?_
        exact JS.endL (n23, y16, (W (x11 + 1)), y18) h (Nat.lt_succ_self _) ⟨rfl, rfl, rfl, rfl, trivial⟩ trivial [0] rfl [0, 0] rfl
      · have h := condF h ht30
        refine JS.exit rfl ?_
        exact JS.endJ (x10, x15) h ⟨rfl, trivial⟩ trivial [0] rfl [0, 0] rfl
    · rintro ⟨x25, x26⟩ h
      subst hj31
      refine JS.seq ?_
      refine JS.region ?_
      refine JO.reg ttOk 2 [] [] [(6, .v (.int .i64 x25))] _ rfl ⟨⟨rfl, trivial⟩, rfl⟩ ?_
      refine JO.done rfl ?_
      cases h
      exact JS.retX ttOk () trivial rfl rfl [0, 0] rfl

def M_i_MotionTo2 (x0 : Int) (x1 : List Int) (x2 : Bool) : Option (Int × List Int × Bool) :=
  (bindO (M_i_ViWordBack x1 x0 x2) fun (y10 : Int) =>
  some (y10, x1, x2))

theorem ok_i_MotionTo2 (x0 : Int) (x1 : List Int) (x2 : Bool) (a4 : Option Addr) (a5 : Option Addr) (c6 : Nat) (l7 : Nat) (hl8 : x1.length = l7) (a9 : Option Addr) (r : Int × List Int × Bool) (h : M_i_MotionTo2 x0 x1 x2 = some r) :
    FX Try.prog 48 [.int .i64 x0, .pointer a4, .pointer a9] [⟨(.int .i64), ⟨a5, l7, c6⟩, x1⟩] [⟨.val, ⟨a4, 1, 1⟩, [(Sl.v ⟨a5, l7, c6⟩)]⟩, ⟨.bool, ⟨a9, 1, 1⟩, [x2]⟩] (fun _ : Unit => True) (fun _ => .int .i64 r.1) (fun _ => [⟨.val, ⟨a4, 1, 1⟩, [(Sl.v ⟨a5, l7, c6⟩)]⟩, ⟨.bool, ⟨a9, 1, 1⟩, [r.2.2]⟩]) :=
  by
    subst hl8
    refine FX.of (T := TTx) Try.call48 Try.func48 rfl rfl fun w0 L0 => ?_
    unfold M_i_MotionTo2 at h
    refine JS.ptr 1 a4 rfl ?_
    refine JS.ptr 2 a9 rfl ?_
    refine JS.seq ?_
    refine JS.region ?_
    refine JO.reg ttOk 1 [] [] [] _ rfl ⟨trivial, rfl⟩ ?_
    refine JO.done rfl ?_
    refine JS.seq ?_
    refine JS.region ?_
    refine JO.loadV ttOk rfl rfl rfl rfl rfl rfl 1 rfl rfl 0 0 (Sl.v ⟨a5, x1.length, c6⟩) ⟨rfl, rfl⟩ rfl rfl rfl ?_
    refine JO.reg ttOk 1 [] [] [(6, .v (.int .i64 x0))] _ rfl ⟨⟨rfl, trivial⟩, rfl⟩ ?_
    refine JO.loadV ttOk rfl rfl rfl rfl rfl rfl 2 rfl rfl 0 0 x2 ⟨rfl, rfl⟩ rfl rfl rfl ?_
    obtain ⟨y10, hy11, h⟩ := bindO_some h
    refine JO.call rfl rfl rfl rfl (ok_i_ViWordBack x1 x0 x2 a5 c6 x1.length rfl _ hy11) rfl [0] rfl rfl ?_
    intro _ _
    refine JO.reg ttOk 1 [] [] [(4, .v (.int .i64 y10))] _ rfl ⟨⟨rfl, trivial⟩, rfl⟩ ?_
    refine JO.done rfl ?_
    cases h
    exact JS.retX ttOk () trivial rfl rfl [0, 0] rfl

def M_i_repeated_f48_L1 (x1 : Int) (x2 : (List Int) × Bool) (j27 : (Int × Bool) → Option (Int × List Int × Bool)) (k22 : (Int × Int × Bool) → Option (Int × List Int × Bool)) : (Int × Int × Bool) → Option (Int × List Int × Bool) := fun (x10, x11, x15) =>
  (bif (decide (x11 < x1)) then
  (bindO (M_i_MotionTo2 x10 x2.1 x15) fun (y16, y17, y18) =>
  k22 (y16, (W (x11 + 1)), y18))
  else
  j27 (x10, x15))

def M_i_repeated_f48 (x0 : Int) (x1 : Int) (x2 : (List Int) × Bool) : Option (Int × List Int × Bool) :=
  (joinO (fun ((x25, x26) : Int × Bool) =>
  some (x25, x2.1, x26)) fun j27 =>
  (fixF (M_i_repeated_f48_L1 x1 x2 j27) FUEL (x0, 0, x2.2)))

theorem ok_i_repeated_f48 (x0 : Int) (x1 : Int) (x2 : (List Int) × Bool) (a4 : Option Addr) (a5 : Option Addr) (c6 : Nat) (l7 : Nat) (hl8 : x2.1.length = l7) (a9 : Option Addr) (r : Int × List Int × Bool) (h : M_i_repeated_f48 x0 x1 x2 = some r) :
    FX Try.prog 45 [.int .i64 x0, .int .i64 x1, .func (.func 48) #[] #[.pointer a4, .pointer a9]] [⟨(.int .i64), ⟨a5, l7, c6⟩, x2.1⟩] [⟨.val, ⟨a4, 1, 1⟩, [(Sl.v ⟨a5, l7, c6⟩)]⟩, ⟨.bool, ⟨a9, 1, 1⟩, [x2.2]⟩] (fun _ : Unit => True) (fun _ => .int .i64 r.1) (fun _ => [⟨.val, ⟨a4, 1, 1⟩, [(Sl.v ⟨a5, l7, c6⟩)]⟩, ⟨.bool, ⟨a9, 1, 1⟩, [r.2.2]⟩]) :=
  by
    subst hl8
    refine FX.of (T := TTx) Try.call45 Try.func45 rfl rfl fun w0 L0 => ?_
    unfold M_i_repeated_f48 at h
    refine JS.seq ?_
    refine JS.region ?_
    refine JO.reg ttOk 1 [] [] [] _ rfl ⟨trivial, rfl⟩ ?_
    refine JO.done rfl ?_
    refine JS.seq ?_
    refine JS.seq ?_
    refine JS.region ?_
    refine JO.reg ttOk 2 [] [] [(7, .v (.int .i64 x1)), (8, .v (.int .i64 0))] _ rfl ⟨⟨rfl, rfl, trivial⟩, rfl⟩ ?_
    refine JO.done rfl ?_
    obtain ⟨j27, hj31, h⟩ := joinO_some h
    refine JS.blockJ (ι := Int × Bool) ⟨fun z => j27 (z.1, z.2) = some r, fun z => [(0, .v (.int .i64 z.1))], fun z => .nil, fun z => [⟨(.int .i64), ⟨a5, x2.1.length, c6⟩, x2.1⟩], fun z => [⟨.val, ⟨a4, 1, 1⟩, [(Sl.v ⟨a5, x2.1.length, c6⟩)]⟩, ⟨.bool, ⟨a9, 1, 1⟩, [z.2]⟩], fun z => 0⟩ ?_ ?_
    · refine JS.loop (ι := Nat × Int × Int × Bool) ⟨fun z => fixF (M_i_repeated_f48_L1 x1 x2 j27) z.1 (z.2.1, z.2.2.1, z.2.2.2) = some r, fun z => [(0, .v (.int .i64 z.2.1)), (2, .v (.func (.func 48) #[] #[.pointer a4, .pointer a9])), (7, .v (.int .i64 x1)), (8, .v (.int .i64 z.2.2.1))], fun z => .nil, fun z => [⟨(.int .i64), ⟨a5, x2.1.length, c6⟩, x2.1⟩], fun z => [⟨.val, ⟨a4, 1, 1⟩, [(Sl.v ⟨a5, x2.1.length, c6⟩)]⟩, ⟨.bool, ⟨a9, 1, 1⟩, [z.2.2.2]⟩], fun z => z.1⟩ (FUEL, x0, 0, x2.2) h ⟨rfl, rfl, rfl, rfl, trivial⟩ trivial [0] rfl [0, 0] rfl ?_
      rintro ⟨n23, x10, x11, x15⟩ h
      obtain ⟨n23, rfl, h⟩ := fixF_some h
      rw [M_i_repeated_f48_L1] at h
      refine JS.seq ?_
      refine JS.region ?_
      refine JO.reg ttOk 1 [] [] [(9, .v (.bool (decide (x11 < x1))))] _ rfl ⟨⟨rfl, trivial⟩, rfl⟩ ?_
      refine JO.done rfl ?_
      refine JS.seq ?_
      refine JS.cond rfl (fun ht30 => ?_) (fun ht30 => ?_)
      · have h := condT h ht30
        refine JS.skip ?_
        refine JS.seq ?_
        refine JS.block ?_
        refine JS.region ?_
        refine JO.reg ttOk 2 [] [] [(10, .v (.func (.func 48) #[] #[.pointer a4, .pointer a9])), (11, .v (.int .i64 x10))] _ rfl ⟨⟨rfl, rfl, trivial⟩, rfl⟩ ?_
        obtain ⟨⟨y16, y17, y18⟩, hy19, h⟩ := bindO_some h
        refine JO.callXV (vs0 := [.int .i64 x10]) (caps := [.pointer a4, .pointer a9]) rfl rfl rfl rfl rfl (ok_i_MotionTo2 x10 x2.1 x15 a4 a5 c6 x2.1.length rfl a9 _ hy19) rfl [0, 0] rfl [0] rfl rfl ?_
        intro _ _
        refine JO.reg ttOk 1 [] [] [(0, .v (.int .i64 y16))] _ rfl ⟨⟨rfl, trivial⟩, rfl⟩ ?_
        refine JO.done rfl ?_
        refine JS.endB ?_
        refine JS.region ?_
        refine JO.reg ttOk 2 [(W (x11 + 1))] [] [(8, .v (.int .i64 (W (x11 + 1))))] _ rfl ⟨⟨trivial, rfl⟩, ⟨rfl, trivial⟩, rfl⟩ ?_
        refine JO.done rfl ?_
        exact JS.endL (n23, y16, (W (x11 + 1)), y18) h (Nat.lt_succ_self _) ⟨rfl, rfl, rfl, rfl, trivial⟩ trivial [0] rfl [0, 0] rfl
      · have h := condF h ht30
        refine JS.exit rfl ?_
        exact JS.endJ (x10, x15) h ⟨rfl, trivial⟩ trivial [0] rfl [0, 0] rfl
    · rintro ⟨x25, x26⟩ h
      subst hj31
      refine JS.seq ?_
      refine JS.region ?_
      refine JO.reg ttOk 2 [] [] [(6, .v (.int .i64 x25))] _ rfl ⟨⟨rfl, trivial⟩, rfl⟩ ?_
      refine JO.done rfl ?_
      cases h
      exact JS.retX ttOk () trivial rfl rfl [0, 0] rfl

def M_i_MotionTo3 (x0 : Int) (x1 : List Int) (x2 : Bool) : Option (Int × List Int × Bool) :=
  (bindO (M_i_ViWordEnd x1 x0 x2) fun (y10 : Int) =>
  some (y10, x1, x2))

theorem ok_i_MotionTo3 (x0 : Int) (x1 : List Int) (x2 : Bool) (a4 : Option Addr) (a5 : Option Addr) (c6 : Nat) (l7 : Nat) (hl8 : x1.length = l7) (a9 : Option Addr) (r : Int × List Int × Bool) (h : M_i_MotionTo3 x0 x1 x2 = some r) :
    FX Try.prog 50 [.int .i64 x0, .pointer a4, .pointer a9] [⟨(.int .i64), ⟨a5, l7, c6⟩, x1⟩] [⟨.val, ⟨a4, 1, 1⟩, [(Sl.v ⟨a5, l7, c6⟩)]⟩, ⟨.bool, ⟨a9, 1, 1⟩, [x2]⟩] (fun _ : Unit => True) (fun _ => .int .i64 r.1) (fun _ => [⟨.val, ⟨a4, 1, 1⟩, [(Sl.v ⟨a5, l7, c6⟩)]⟩, ⟨.bool, ⟨a9, 1, 1⟩, [r.2.2]⟩]) :=
  by
    subst hl8
    refine FX.of (T := TTx) Try.call50 Try.func50 rfl rfl fun w0 L0 => ?_
    unfold M_i_MotionTo3 at h
    refine JS.ptr 1 a4 rfl ?_
    refine JS.ptr 2 a9 rfl ?_
    refine JS.seq ?_
    refine JS.region ?_
    refine JO.reg ttOk 1 [] [] [] _ rfl ⟨trivial, rfl⟩ ?_
    refine JO.done rfl ?_
    refine JS.seq ?_
    refine JS.region ?_
    refine JO.loadV ttOk rfl rfl rfl rfl rfl rfl 1 rfl rfl 0 0 (Sl.v ⟨a5, x1.length, c6⟩) ⟨rfl, rfl⟩ rfl rfl rfl ?_
    refine JO.reg ttOk 1 [] [] [(6, .v (.int .i64 x0))] _ rfl ⟨⟨rfl, trivial⟩, rfl⟩ ?_
    refine JO.loadV ttOk rfl rfl rfl rfl rfl rfl 2 rfl rfl 0 0 x2 ⟨rfl, rfl⟩ rfl rfl rfl ?_
    obtain ⟨y10, hy11, h⟩ := bindO_some h
    refine JO.call rfl rfl rfl rfl (ok_i_ViWordEnd x1 x0 x2 a5 c6 x1.length rfl _ hy11) rfl [0] rfl rfl ?_
    intro _ _
    refine JO.reg ttOk 1 [] [] [(4, .v (.int .i64 y10))] _ rfl ⟨⟨rfl, trivial⟩, rfl⟩ ?_
    refine JO.done rfl ?_
    cases h
    exact JS.retX ttOk () trivial rfl rfl [0, 0] rfl

def M_i_repeated_f50_L1 (x1 : Int) (x2 : (List Int) × Bool) (j27 : (Int × Bool) → Option (Int × List Int × Bool)) (k22 : (Int × Int × Bool) → Option (Int × List Int × Bool)) : (Int × Int × Bool) → Option (Int × List Int × Bool) := fun (x10, x11, x15) =>
  (bif (decide (x11 < x1)) then
  (bindO (M_i_MotionTo3 x10 x2.1 x15) fun (y16, y17, y18) =>
  k22 (y16, (W (x11 + 1)), y18))
  else
  j27 (x10, x15))

def M_i_repeated_f50 (x0 : Int) (x1 : Int) (x2 : (List Int) × Bool) : Option (Int × List Int × Bool) :=
  (joinO (fun ((x25, x26) : Int × Bool) =>
  some (x25, x2.1, x26)) fun j27 =>
  (fixF (M_i_repeated_f50_L1 x1 x2 j27) FUEL (x0, 0, x2.2)))

theorem ok_i_repeated_f50 (x0 : Int) (x1 : Int) (x2 : (List Int) × Bool) (a4 : Option Addr) (a5 : Option Addr) (c6 : Nat) (l7 : Nat) (hl8 : x2.1.length = l7) (a9 : Option Addr) (r : Int × List Int × Bool) (h : M_i_repeated_f50 x0 x1 x2 = some r) :
    FX Try.prog 45 [.int .i64 x0, .int .i64 x1, .func (.func 50) #[] #[.pointer a4, .pointer a9]] [⟨(.int .i64), ⟨a5, l7, c6⟩, x2.1⟩] [⟨.val, ⟨a4, 1, 1⟩, [(Sl.v ⟨a5, l7, c6⟩)]⟩, ⟨.bool, ⟨a9, 1, 1⟩, [x2.2]⟩] (fun _ : Unit => True) (fun _ => .int .i64 r.1) (fun _ => [⟨.val, ⟨a4, 1, 1⟩, [(Sl.v ⟨a5, l7, c6⟩)]⟩, ⟨.bool, ⟨a9, 1, 1⟩, [r.2.2]⟩]) :=
  by
    subst hl8
    refine FX.of (T := TTx) Try.call45 Try.func45 rfl rfl fun w0 L0 => ?_
    unfold M_i_repeated_f50 at h
    refine JS.seq ?_
    refine JS.region ?_
    refine JO.reg ttOk 1 [] [] [] _ rfl ⟨trivial, rfl⟩ ?_
    refine JO.done rfl ?_
    refine JS.seq ?_
    refine JS.seq ?_
    refine JS.region ?_
    refine JO.reg ttOk 2 [] [] [(7, .v (.int .i64 x1)), (8, .v (.int .i64 0))] _ rfl ⟨⟨rfl, rfl, trivial⟩, rfl⟩ ?_
    refine JO.done rfl ?_
    obtain ⟨j27, hj31, h⟩ := joinO_some h
    refine JS.blockJ (ι := Int × Bool) ⟨fun z => j27 (z.1, z.2) = some r, fun z => [(0, .v (.int .i64 z.1))], fun z => .nil, fun z => [⟨(.int .i64), ⟨a5, x2.1.length, c6⟩, x2.1⟩], fun z => [⟨.val, ⟨a4, 1, 1⟩, [(Sl.v ⟨a5, x2.1.length, c6⟩)]⟩, ⟨.bool, ⟨a9, 1, 1⟩, [z.2]⟩], fun z => 0⟩ ?_ ?_
    · refine JS.loop (ι := Nat × Int × Int × Bool) ⟨fun z => fixF (M_i_repeated_f50_L1 x1 x2 j27) z.1 (z.2.1, z.2.2.1, z.2.2.2) = some r, fun z => [(0, .v (.int .i64 z.2.1)), (2, .v (.func (.func 50) #[] #[.pointer a4, .pointer a9])), (7, .v (.int .i64 x1)), (8, .v (.int .i64 z.2.2.1))], fun z => .nil, fun z => [⟨(.int .i64), ⟨a5, x2.1.length, c6⟩, x2.1⟩], fun z => [⟨.val, ⟨a4, 1, 1⟩, [(Sl.v ⟨a5, x2.1.length, c6⟩)]⟩, ⟨.bool, ⟨a9, 1, 1⟩, [z.2.2.2]⟩], fun z => z.1⟩ (FUEL, x0, 0, x2.2) h ⟨rfl, rfl, rfl, rfl, trivial⟩ trivial [0] rfl [0, 0] rfl ?_
      rintro ⟨n23, x10, x11, x15⟩ h
      obtain ⟨n23, rfl, h⟩ := fixF_some h
      rw [M_i_repeated_f50_L1] at h
      refine JS.seq ?_
      refine JS.region ?_
      refine JO.reg ttOk 1 [] [] [(9, .v (.bool (decide (x11 < x1))))] _ rfl ⟨⟨rfl, trivial⟩, rfl⟩ ?_
      refine JO.done rfl ?_
      refine JS.seq ?_
      refine JS.cond rfl (fun ht30 => ?_) (fun ht30 => ?_)
      · have h := condT h ht30
        refine JS.skip ?_
        refine JS.seq ?_
        refine JS.block ?_
        refine JS.region ?_
        refine JO.reg ttOk 2 [] [] [(10, .v (.func (.func 50) #[] #[.pointer a4, .pointer a9])), (11, .v (.int .i64 x10))] _ rfl ⟨⟨rfl, rfl, trivial⟩, rfl⟩ ?_
        obtain ⟨⟨y16, y17, y18⟩, hy19, h⟩ := bindO_some h
        refine JO.callXV (vs0 := [.int .i64 x10]) (caps := [.pointer a4, .pointer a9]) rfl rfl rfl rfl rfl (ok_i_MotionTo3 x10 x2.1 x15 a4 a5 c6 x2.1.length rfl a9 _ hy19) rfl [0, 0] rfl [0] rfl rfl ?_
        intro _ _
        refine JO.reg ttOk 1 [] [] [(0, .v (.int .i64 y16))] _ rfl ⟨⟨rfl, trivial⟩, rfl⟩ ?_
        refine JO.done rfl ?_
        refine JS.endB ?_
        refine JS.region ?_
        refine JO.reg ttOk 2 [(W (x11 + 1))] [] [(8, .v (.int .i64 (W (x11 + 1))))] _ rfl ⟨⟨trivial, rfl⟩, ⟨rfl, trivial⟩, rfl⟩ ?_
        refine JO.done rfl ?_
        exact JS.endL (n23, y16, (W (x11 + 1)), y18) h (Nat.lt_succ_self _) ⟨rfl, rfl, rfl, rfl, trivial⟩ trivial [0] rfl [0, 0] rfl
      · have h := condF h ht30
        refine JS.exit rfl ?_
        exact JS.endJ (x10, x15) h ⟨rfl, trivial⟩ trivial [0] rfl [0, 0] rfl
    · rintro ⟨x25, x26⟩ h
      subst hj31
      refine JS.seq ?_
      refine JS.region ?_
      refine JO.reg ttOk 2 [] [] [(6, .v (.int .i64 x25))] _ rfl ⟨⟨rfl, trivial⟩, rfl⟩ ?_
      refine JO.done rfl ?_
      cases h
      exact JS.retX ttOk () trivial rfl rfl [0, 0] rfl

def M_i_MotionTo_L1 (x0 : List Int) (j68 : Int → Option (Int × Bool × Bool)) (k60 : Int → Option (Int × Bool × Bool)) : Int → Option (Int × Bool × Bool) := fun x43 =>
  (guardO (((decide (x43 < (x0.length : Int))) = true) → 0 ≤ x43 ∧ x43 < (x0.length : Int)) <|
  (callO ((decide (x43 < (x0.length : Int))) = true) (M_i_ClassOf (at' x0 x43)) (0 : Int) fun (y51 : Int) =>
  (bif (bif (decide (x43 < (x0.length : Int))) then (decide (y51 = 0)) else false) then
  k60 (W (x43 + 1))
  else
  j68 x43)))

def M_i_MotionTo (x0 : List Int) (x1 : Int) (x2 : Int) (x3 : Int) : Option (Int × Bool × Bool) :=
  (bindO (M_i_within x1 (x0.length : Int)) fun (y9 : Int) =>
  (bindO (M_i_isUpper x2) fun (y11 : Bool) =>
  (joinO (fun (_ : Unit) =>
  some (0, false, false)) fun j88 =>
  (bif (decide (x2 = 104)) then
  some ((max (W (y9 - (max (1 : Int) (min x3 999)))) 0), false, true)
  else
  (joinO (fun (x14 : Bool) =>
  (bif x14 then
  some ((min (W (y9 + (max (1 : Int) (min x3 999)))) (x0.length : Int)), false, true)
  else
  (joinO (fun (x18 : Bool) =>
  (bif x18 then
  (bindO (M_i_repeated_f46 y9 (max (1 : Int) (min x3 999)) (x0, y11)) fun (y23, y24, y25) =>
  some (y23, false, true))
  else
  (joinO (fun (x28 : Bool) =>
  (bif x28 then
  (bindO (M_i_repeated_f48 y9 (max (1 : Int) (min x3 999)) (x0, y11)) fun (y31, y32, y33) =>
  some (y31, false, true))
  else
  (joinO (fun (x36 : Bool) =>
  (bif x36 then
  (bindO (M_i_repeated_f50 y9 (max (1 : Int) (min x3 999)) (x0, y11)) fun (y39, y40, y41) =>
  some (y39, (decide (0 < (x0.length : Int))), true))
  else
  (bif (decide (x2 = 48)) then
  some (0, false, true)
  else
  (bif (decide (x2 = 94)) then
  (joinO (fun (x67 : Int) =>
  some (x67, false, true)) fun j68 =>
  (fixF (M_i_MotionTo_L1 x0 j68) FUEL 0))
  else
  (bif (decide (x2 = 36)) then
  some ((max (W ((x0.length : Int) - 1)) 0), (decide (0 < (x0.length : Int))), true)
  else
  (bif (decide (x2 = 124)) then
  some ((min (W ((max (1 : Int) (min x3 999)) - 1)) (x0.length : Int)), false, true)
  else
  j88 ())))))) fun j37 =>
  (bif (decide (x2 = 101)) then
  j37 (decide (x2 = 101))
  else
  j37 (decide (x2 = 69)))))) fun j29 =>
  (bif (decide (x2 = 98)) then
  j29 (decide (x2 = 98))
  else
  j29 (decide (x2 = 66)))))) fun j19 =>
  (bif (decide (x2 = 119)) then
  j19 (decide (x2 = 119))
  else
  j19 (decide (x2 = 87)))))) fun j15 =>
  (bif (decide (x2 = 108)) then
  j15 (decide (x2 = 108))
  else
  j15 (decide (x2 = 32))))))))

theorem ok_i_MotionTo (x0 : List Int) (x1 : Int) (x2 : Int) (x3 : Int) (a5 : Option Addr) (c6 : Nat) (l7 : Nat) (hl8 : x0.length = l7) (r : Int × Bool × Bool) (h : M_i_MotionTo x0 x1 x2 x3 = some r) :
    FC Try.prog 15 [.slice a5 l7 c6, .int .i64 x1, .int .i64 x2, .int .i64 x3] [⟨(.int .i64), ⟨a5, l7, c6⟩, x0⟩] (fun _ : Unit => True) (fun _ => .tuple #[.int .i64 r.1, .bool r.2.1, .bool r.2.2]) (fun _ => []) :=
  by
    subst hl8
    refine FC.of (T := TTx) Try.call15 Try.func15 rfl rfl fun w0 => ?_
    unfold M_i_MotionTo at h
    refine JS.seq ?_
    refine JS.region ?_
    refine JO.regB ttOk 4 [] [2] [(4, .bp 2 0)] (.new 2 23 [.slice a5 x0.length c6] .nil) rfl ⟨⟨rfl, trivial⟩, ⟨rfl, rfl, rfl, rfl, trivial⟩⟩ ?_
    refine JO.done rfl ?_
    refine JS.seq ?_
    refine JS.region ?_
    refine JO.reg ttOk 3 [] [] [(11, .v (.int .i64 (x0.length : Int)))] _ rfl ⟨⟨rfl, trivial⟩, rfl⟩ ?_
    refine JO.done rfl ?_
    refine JS.seq ?_
    refine JS.region ?_
    refine JO.reg ttOk 2 [] [] [(16, .v (.int .i64 x1)), (17, .v (.int .i64 (x0.length : Int)))] _ rfl ⟨⟨rfl, rfl, trivial⟩, rfl⟩ ?_
    obtain ⟨y9, hy10, h⟩ := bindO_some h
    refine JO.call rfl rfl rfl rfl (ok_i_within x1 (x0.length : Int) _ hy10) rfl [] rfl rfl ?_
    intro _ _
    refine JO.reg ttOk 5 [] [] [(1, .v (.int .i64 y9)), (3, .v (.int .i64 (max (1 : Int) (min x3 999))))] _ rfl ⟨⟨rfl, rfl, trivial⟩, rfl⟩ ?_
    refine JO.done rfl ?_
    refine JS.seq ?_
    refine JS.region ?_
    refine JO.reg ttOk 1 [] [] [(22, .v (.int .i64 x2))] _ rfl ⟨⟨rfl, trivial⟩, rfl⟩ ?_
    obtain ⟨y11, hy12, h⟩ := bindO_some h
    refine JO.call rfl rfl rfl rfl (ok_i_isUpper x2 _ hy12) rfl [] rfl rfl ?_
    intro _ _
    refine JO.regB ttOk 2 [] [7] [(12, .bp 7 0)] (.new 2 23 [.slice a5 x0.length c6] (.new 7 4 [.bool y11] .nil)) rfl ⟨⟨rfl, trivial⟩, ⟨rfl, rfl, rfl, rfl, rfl, rfl, rfl, rfl, trivial⟩⟩ ?_
    refine JO.done rfl ?_
    refine JS.seq ?_
    refine JS.seq ?_
    refine JS.region ?_
    refine JO.reg ttOk 1 [] [] [(24, .v (.int .i64 x2))] _ rfl ⟨⟨rfl, trivial⟩, rfl⟩ ?_
    refine JO.done rfl ?_
    obtain ⟨j88, hj136, h⟩ := joinO_some h
    refine JS.blockJ (ι := Unit) ⟨fun _ => j88 () = some r, fun _ => [], fun _ => .nil, fun _ => [], fun _ => [], fun _ => 0⟩ ?_ ?_
    · refine JS.seq ?_
      refine JS.region ?_
      refine JO.reg ttOk 2 [] [] [(25, .v (.bool (decide (x2 = 104))))] _ rfl ⟨⟨rfl, trivial⟩, rfl⟩ ?_
      refine JO.done rfl ?_
      refine JS.cond rfl (fun ht135 => ?_) (fun ht135 => ?_)
      · have h := condT h ht135
        refine JS.seq ?_
        refine JS.region ?_
        refine JO.reg ttOk 7 [(W (y9 - (max (1 : Int) (min x3 999))))] [] [(8, .v (.int .i64 (max (W (y9 - (max (1 : Int) (min x3 999)))) 0))), (9, .v (.bool false)), (10, .v (.bool true))] _ rfl ⟨⟨trivial, rfl⟩, ⟨rfl, rfl, rfl, trivial⟩, rfl⟩ ?_
        refine JO.done rfl ?_
        cases h
        exact JS.ret ttOk () trivial rfl rfl [] rfl
      · have h := condF h ht135
        obtain ⟨j15, hj134, h⟩ := joinO_some h
        refine JS.seqJ (ι := Bool) ⟨fun z => j15 z = some r, fun z => [(1, .v (.int .i64 y9)), (3, .v (.int .i64 (max (1 : Int) (min x3 999)))), (4, .bp 2 0), (11, .v (.int .i64 (x0.length : Int))), (12, .bp 7 0), (24, .v (.int .i64 x2)), (31, .v (.bool z))], fun z => (.new 2 23 [.slice a5 x0.length c6] (.new 7 4 [.bool y11] .nil)), fun z => [⟨(.int .i64), ⟨a5, x0.length, c6⟩, x0⟩], fun z => [], fun z => 0⟩ ?_ ?_
        · refine JS.seq ?_
          refine JS.region ?_
          refine JO.reg ttOk 2 [] [] [(31, .v (.bool (decide (x2 = 108))))] _ rfl ⟨⟨rfl, trivial⟩, rfl⟩ ?_
          refine JO.done rfl ?_
          refine JS.cond rfl (fun ht113 => ?_) (fun ht113 => ?_)
          · have h := condT h ht113
            refine JS.skip ?_
            exact JS.endJ (decide (x2 = 108)) h ⟨rfl, rfl, rfl, rfl, rfl, rfl, rfl, trivial⟩ ⟨rfl, rfl, rfl, rfl, rfl, rfl, rfl, rfl, trivial⟩ [0] rfl [] rfl
          · have h := condF h ht113
            refine JS.region ?_
            refine JO.reg ttOk 2 [] [] [(31, .v (.bool (decide (x2 = 32))))] _ rfl ⟨⟨rfl, trivial⟩, rfl⟩ ?_
            refine JO.done rfl ?_
            exact JS.endJ (decide (x2 = 32)) h ⟨rfl, rfl, rfl, rfl, rfl, rfl, rfl, trivial⟩ ⟨rfl, rfl, rfl, rfl, rfl, rfl, rfl, rfl, trivial⟩ [0] rfl [] rfl
        · rintro x14 h
          subst hj134
          refine JS.cond rfl (fun ht133 => ?_) (fun ht133 => ?_)
          · have h := condT h ht133
            refine JS.seq ?_
            refine JS.region ?_
            refine JO.reg ttOk 8 [(W (y9 + (max (1 : Int) (min x3 999))))] [] [(8, .v (.int .i64 (min (W (y9 + (max (1 : Int) (min x3 999)))) (x0.length : Int)))), (9, .v (.bool false)), (10, .v (.bool true))] _ rfl ⟨⟨trivial, rfl⟩, ⟨rfl, rfl, rfl, trivial⟩, rfl⟩ ?_
            refine JO.done rfl ?_
            cases h
            exact JS.ret ttOk () trivial rfl rfl [] rfl
          · have h := condF h ht133
            obtain ⟨j19, hj132, h⟩ := joinO_some h
            refine JS.seqJ (ι := Bool) ⟨fun z => j19 z = some r, fun z => [(1, .v (.int .i64 y9)), (3, .v (.int .i64 (max (1 : Int) (min x3 999)))), (4, .bp 2 0), (11, .v (.int .i64 (x0.length : Int))), (12, .bp 7 0), (24, .v (.int .i64 x2)), (39, .v (.bool z))], fun z => (.new 2 23 [.slice a5 x0.length c6] (.new 7 4 [.bool y11] .nil)), fun z => [⟨(.int .i64), ⟨a5, x0.length, c6⟩, x0⟩], fun z => [], fun z => 0⟩ ?_ ?_
            · refine JS.seq ?_
              refine JS.region ?_
              refine JO.reg ttOk 2 [] [] [(39, .v (.bool (decide (x2 = 119))))] _ rfl ⟨⟨rfl, trivial⟩, rfl⟩ ?_
              refine JO.done rfl ?_
              refine JS.cond rfl (fun ht114 => ?_) (fun ht114 => ?_)
              · have h := condT h ht114
                refine JS.skip ?_
                exact JS.endJ (decide (x2 = 119)) h ⟨rfl, rfl, rfl, rfl, rfl, rfl, rfl, trivial⟩ ⟨rfl, rfl, rfl, rfl, rfl, rfl, rfl, rfl, trivial⟩ [0] rfl [] rfl
              · have h := condF h ht114
                refine JS.region ?_
                refine JO.reg ttOk 2 [] [] [(39, .v (.bool (decide (x2 = 87))))] _ rfl ⟨⟨rfl, trivial⟩, rfl⟩ ?_
                refine JO.done rfl ?_
                exact JS.endJ (decide (x2 = 87)) h ⟨rfl, rfl, rfl, rfl, rfl, rfl, rfl, trivial⟩ ⟨rfl, rfl, rfl, rfl, rfl, rfl, rfl, rfl, trivial⟩ [0] rfl [] rfl
            · rintro x18 h
              subst hj132
              refine JS.cond rfl (fun ht131 => ?_) (fun ht131 => ?_)
              · have h := condT h ht131
                refine JS.seq ?_
                refine JS.region ?_
                refine JO.reg ttOk 2 [] [] [(42, .v (.int .i64 y9)), (43, .v (.int .i64 (max (1 : Int) (min x3 999))))] _ rfl ⟨⟨rfl, rfl, trivial⟩, rfl⟩ ?_
                refine JO.unbox 2 rfl (B' := (.new 7 4 [.bool y11] .nil)) ⟨rfl, rfl, rfl, rfl, trivial⟩ rfl .val (Sl.v ⟨a5, x0.length, c6⟩) ⟨rfl, rfl, rfl⟩ (fun a21 => [(1, .v (.int .i64 y9)), (3, .v (.int .i64 (max (1 : Int) (min x3 999)))), (4, .ep ⟨a21, 1, 1⟩ 0), (11, .v (.int .i64 (x0.length : Int))), (12, .bp 7 0), (24, .v (.int .i64 x2)), (39, .v (.bool x18)), (42, .v (.int .i64 y9)), (43, .v (.int .i64 (max (1 : Int) (min x3 999))))]) (fun _ => ⟨rfl, rfl, rfl, rfl, rfl, rfl, rfl, rfl, rfl, trivial⟩) fun a21 => ?_
                refine JO.unbox 7 rfl (B' := .nil) trivial rfl .bool y11 ⟨rfl, rfl⟩ (fun a22 => [(1, .v (.int .i64 y9)), (3, .v (.int .i64 (max (1 : Int) (min x3 999)))), (4, .ep ⟨a21, 1, 1⟩ 0), (11, .v (.int .i64 (x0.length : Int))), (12, .ep ⟨a22, 1, 1⟩ 0), (24, .v (.int .i64 x2)), (39, .v (.bool x18)), (42, .v (.int .i64 y9)), (43, .v (.int .i64 (max (1 : Int) (min x3 999))))]) (fun _ => ⟨rfl, rfl, rfl, rfl, rfl, rfl, rfl, rfl, rfl, trivial⟩) fun a22 => ?_
                refine JO.mkFunc rfl rfl rfl rfl rfl rfl ?_
                obtain ⟨⟨y23, y24, y25⟩, hy26, h⟩ := bindO_some h
                refine JO.callX rfl rfl rfl rfl (ok_i_repeated_f46 y9 (max (1 : Int) (min x3 999)) (x0, y11) a21 a5 c6 x0.length rfl a22 _ hy26) rfl [1, 0] rfl [0] rfl rfl ?_
                intro _ _
                refine JO.reg ttOk 3 [] [] [(8, .v (.int .i64 y23)), (9, .v (.bool false)), (10, .v (.bool true))] _ rfl ⟨⟨rfl, rfl, rfl, trivial⟩, rfl⟩ ?_
                refine JO.done rfl ?_
                cases h
                exact JS.ret ttOk () trivial rfl rfl [] rfl
              · have h := condF h ht131
                obtain ⟨j29, hj130, h⟩ := joinO_some h
                refine JS.seqJ (ι := Bool) ⟨fun z => j29 z = some r, fun z => [(1, .v (.int .i64 y9)), (3, .v (.int .i64 (max (1 : Int) (min x3 999)))), (4, .bp 2 0), (11, .v (.int .i64 (x0.length : Int))), (12, .bp 7 0), (24, .v (.int .i64 x2)), (46, .v (.bool z))], fun z => (.new 2 23 [.slice a5 x0.length c6] (.new 7 4 [.bool y11] .nil)), fun z => [⟨(.int .i64), ⟨a5, x0.length, c6⟩, x0⟩], fun z => [], fun z => 0⟩ ?_ ?_
                · refine JS.seq ?_
                  refine JS.region ?_
                  refine JO.reg ttOk 2 [] [] [(46, .v (.bool (decide (x2 = 98))))] _ rfl ⟨⟨rfl, trivial⟩, rfl⟩ ?_
                  refine JO.done rfl ?_
                  refine JS.cond rfl (fun ht115 => ?_) (fun ht115 => ?_)
                  · have h := condT h ht115
                    refine JS.skip ?_
                    exact JS.endJ (decide (x2 = 98)) h ⟨rfl, rfl, rfl, rfl, rfl, rfl, rfl, trivial⟩ ⟨rfl, rfl, rfl, rfl, rfl, rfl, rfl, rfl, trivial⟩ [0] rfl [] rfl
                  · have h := condF h ht115
                    refine JS.region ?_
                    refine JO.reg ttOk 2 [] [] [(46, .v (.bool (decide (x2 = 66))))] _ rfl ⟨⟨rfl, trivial⟩, rfl⟩ ?_
                    refine JO.done rfl ?_
                    exact JS.endJ (decide (x2 = 66)) h ⟨rfl, rfl, rfl, rfl, rfl, rfl, rfl, trivial⟩ ⟨rfl, rfl, rfl, rfl, rfl, rfl, rfl, rfl, trivial⟩ [0] rfl [] rfl
                · rintro x28 h
                  subst hj130
                  refine JS.cond rfl (fun ht129 => ?_) (fun ht129 => ?_)
                  · have h := condT h ht129
                    refine JS.seq ?_
                    refine JS.region ?_
                    refine JO.reg ttOk 2 [] [] [(49, .v (.int .i64 y9)), (50, .v (.int .i64 (max (1 : Int) (min x3 999))))] _ rfl ⟨⟨rfl, rfl, trivial⟩, rfl⟩ ?_
                    refine JO.unbox 2 rfl (B' := (.new 7 4 [.bool y11] .nil)) ⟨rfl, rfl, rfl, rfl, trivial⟩ rfl .val (Sl.v ⟨a5, x0.length, c6⟩) ⟨rfl, rfl, rfl⟩ (fun a21 => [(1, .v (.int .i64 y9)), (3, .v (.int .i64 (max (1 : Int) (min x3 999)))), (4, .ep ⟨a21, 1, 1⟩ 0), (11, .v (.int .i64 (x0.length : Int))), (12, .bp 7 0), (24, .v (.int .i64 x2)), (46, .v (.bool x28)), (49, .v (.int .i64 y9)), (50, .v (.int .i64 (max (1 : Int) (min x3 999))))]) (fun _ => ⟨rfl, rfl, rfl, rfl, rfl, rfl, rfl, rfl, rfl, trivial⟩) fun a21 => ?_
                    refine JO.unbox 7 rfl (B' := .nil) trivial rfl .bool y11 ⟨rfl, rfl⟩ (fun a22 => [(1, .v (.int .i64 y9)), (3, .v (.int .i64 (max (1 : Int) (min x3 999)))), (4, .ep ⟨a21, 1, 1⟩ 0), (11, .v (.int .i64 (x0.length : Int))), (12, .ep ⟨a22, 1, 1⟩ 0), (24, .v (.int .i64 x2)), (46, .v (.bool x28)), (49, .v (.int .i64 y9)), (50, .v (.int .i64 (max (1 : Int) (min x3 999))))]) (fun _ => ⟨rfl, rfl, rfl, rfl, rfl, rfl, rfl, rfl, rfl, trivial⟩) fun a22 => ?_
                    refine JO.mkFunc rfl rfl rfl rfl rfl rfl ?_
                    obtain ⟨⟨y31, y32, y33⟩, hy34, h⟩ := bindO_some h
                    refine JO.callX rfl rfl rfl rfl (ok_i_repeated_f48 y9 (max (1 : Int) (min x3 999)) (x0, y11) a21 a5 c6 x0.length rfl a22 _ hy34) rfl [1, 0] rfl [0] rfl rfl ?_
                    intro _ _
                    refine JO.reg ttOk 3 [] [] [(8, .v (.int .i64 y31)), (9, .v (.bool false)), (10, .v (.bool true))] _ rfl ⟨⟨rfl, rfl, rfl, trivial⟩, rfl⟩ ?_
                    refine JO.done rfl ?_
                    cases h
                    exact JS.ret ttOk () trivial rfl rfl [] rfl
                  · have h := condF h ht129
                    obtain ⟨j37, hj128, h⟩ := joinO_some h
                    refine JS.seqJ (ι := Bool) ⟨fun z => j37 z = some r, fun z => [(1, .v (.int .i64 y9)), (3, .v (.int .i64 (max (1 : Int) (min x3 999)))), (4, .bp 2 0), (11, .v (.int .i64 (x0.length : Int))), (12, .bp 7 0), (24, .v (.int .i64 x2)), (53, .v (.bool z))], fun z => (.new 2 23 [.slice a5 x0.length c6] (.new 7 4 [.bool y11] .nil)), fun z => [⟨(.int .i64), ⟨a5, x0.length, c6⟩, x0⟩], fun z => [], fun z => 0⟩ ?_ ?_
                    · refine JS.seq ?_
                      refine JS.region ?_
                      refine JO.reg ttOk 2 [] [] [(53, .v (.bool (decide (x2 = 101))))] _ rfl ⟨⟨rfl, trivial⟩, rfl⟩ ?_
                      refine JO.done rfl ?_
                      refine JS.cond rfl (fun ht116 => ?_) (fun ht116 => ?_)
                      · have h := condT h ht116
                        refine JS.skip ?_
                        exact JS.endJ (decide (x2 = 101)) h ⟨rfl, rfl, rfl, rfl, rfl, rfl, rfl, trivial⟩ ⟨rfl, rfl, rfl, rfl, rfl, rfl, rfl, rfl, trivial⟩ [0] rfl [] rfl
                      · have h := condF h ht116
                        refine JS.region ?_
                        refine JO.reg ttOk 2 [] [] [(53, .v (.bool (decide (x2 = 69))))] _ rfl ⟨⟨rfl, trivial⟩, rfl⟩ ?_
                        refine JO.done rfl ?_
                        exact JS.endJ (decide (x2 = 69)) h ⟨rfl, rfl, rfl, rfl, rfl, rfl, rfl, trivial⟩ ⟨rfl, rfl, rfl, rfl, rfl, rfl, rfl, rfl, trivial⟩ [0] rfl [] rfl
                    · rintro x36 h
                      subst hj128
                      refine JS.cond rfl (fun ht127 => ?_) (fun ht127 => ?_)
                      · have h := condT h ht127
                        refine JS.seq ?_
                        refine JS.region ?_
                        refine JO.reg ttOk 2 [] [] [(56, .v (.int .i64 y9)), (57, .v (.int .i64 (max (1 : Int) (min x3 999))))] _ rfl ⟨⟨rfl, rfl, trivial⟩, rfl⟩ ?_
                        refine JO.unbox 2 rfl (B' := (.new 7 4 [.bool y11] .nil)) ⟨rfl, rfl, rfl, rfl, trivial⟩ rfl .val (Sl.v ⟨a5, x0.length, c6⟩) ⟨rfl, rfl, rfl⟩ (fun a21 => [(1, .v (.int .i64 y9)), (3, .v (.int .i64 (max (1 : Int) (min x3 999)))), (4, .ep ⟨a21, 1, 1⟩ 0), (11, .v (.int .i64 (x0.length : Int))), (12, .bp 7 0), (24, .v (.int .i64 x2)), (53, .v (.bool x36)), (56, .v (.int .i64 y9)), (57, .v (.int .i64 (max (1 : Int) (min x3 999))))]) (fun _ => ⟨rfl, rfl, rfl, rfl, rfl, rfl, rfl, rfl, rfl, trivial⟩) fun a21 => ?_
                        refine JO.unbox 7 rfl (B' := .nil) trivial rfl .bool y11 ⟨rfl, rfl⟩ (fun a22 => [(1, .v (.int .i64 y9)), (3, .v (.int .i64 (max (1 : Int) (min x3 999)))), (4, .ep ⟨a21, 1, 1⟩ 0), (11, .v (.int .i64 (x0.length : Int))), (12, .ep ⟨a22, 1, 1⟩ 0), (24, .v (.int .i64 x2)), (53, .v (.bool x36)), (56, .v (.int .i64 y9)), (57, .v (.int .i64 (max (1 : Int) (min x3 999))))]) (fun _ => ⟨rfl, rfl, rfl, rfl, rfl, rfl, rfl, rfl, rfl, trivial⟩) fun a22 => ?_
                        refine JO.mkFunc rfl rfl rfl rfl rfl rfl ?_
                        obtain ⟨⟨y39, y40, y41⟩, hy42, h⟩ := bindO_some h
                        refine JO.callX rfl rfl rfl rfl (ok_i_repeated_f50 y9 (max (1 : Int) (min x3 999)) (x0, y11) a21 a5 c6 x0.length rfl a22 _ hy42) rfl [1, 0] rfl [0] rfl rfl ?_
                        intro _ _
                        refine JO.reg ttOk 5 [] [] [(8, .v (.int .i64 y39)), (9, .v (.bool (decide (0 < (x0.length : Int))))), (10, .v (.bool true))] _ rfl ⟨⟨rfl, rfl, rfl, trivial⟩, rfl⟩ ?_
                        refine JO.done rfl ?_
                        cases h
                        exact JS.ret ttOk () trivial rfl rfl [] rfl
                      · have h := condF h ht127
                        refine JS.seq ?_
                        refine JS.region ?_
                        refine JO.reg ttOk 2 [] [] [(62, .v (.bool (decide (x2 = 48))))] _ rfl ⟨⟨rfl, trivial⟩, rfl⟩ ?_
                        refine JO.done rfl ?_
                        refine JS.cond rfl (fun ht126 => ?_) (fun ht126 => ?_)
                        · have h := condT h ht126
                          refine JS.seq ?_
                          refine JS.region ?_
                          refine JO.reg ttOk 3 [] [] [(8, .v (.int .i64 0)), (9, .v (.bool false)), (10, .v (.bool true))] _ rfl ⟨⟨rfl, rfl, rfl, trivial⟩, rfl⟩ ?_
                          refine JO.done rfl ?_
                          cases h
                          exact JS.ret ttOk () trivial rfl rfl [] rfl
                        · have h := condF h ht126
                          refine JS.seq ?_
                          refine JS.region ?_
                          refine JO.reg ttOk 2 [] [] [(64, .v (.bool (decide (x2 = 94))))] _ rfl ⟨⟨rfl, trivial⟩, rfl⟩ ?_
                          refine JO.done rfl ?_
                          refine JS.cond rfl (fun ht125 => ?_) (fun ht125 => ?_)
                          · have h := condT h ht125
                            refine JS.seq ?_
                            refine JS.region ?_
                            refine JO.reg ttOk 1 [] [] [(13, .v (.int .i64 0))] _ rfl ⟨⟨rfl, trivial⟩, rfl⟩ ?_
                            refine JO.done rfl ?_
                            refine JS.seq ?_
                            obtain ⟨j68, hj122, h⟩ := joinO_some h
                            refine JS.blockJ (ι := Int) ⟨fun z => j68 z = some r, fun z => [(13, .v (.int .i64 z))], fun z => .nil, fun z => [], fun z => [], fun z => 0⟩ ?_ ?_
                            · refine JS.loop (ι := Nat × Int) ⟨fun z => fixF (M_i_MotionTo_L1 x0 j68) z.1 z.2 = some r, fun z => [(4, .bp 2 0), (11, .v (.int .i64 (x0.length : Int))), (13, .v (.int .i64 z.2))], fun z => (.new 2 23 [.slice a5 x0.length c6] .nil), fun z => [⟨(.int .i64), ⟨a5, x0.length, c6⟩, x0⟩], fun z => [], fun z => z.1⟩ (FUEL, 0) h ⟨rfl, rfl, rfl, trivial⟩ ⟨rfl, rfl, rfl, rfl, trivial⟩ [0] rfl [] rfl ?_
                              rintro ⟨n61, x43⟩ h
                              obtain ⟨n61, rfl, h⟩ := fixF_some h
                              rw [M_i_MotionTo_L1] at h
                              refine JS.seq ?_
                              refine JS.seq ?_
                              refine JS.region ?_
                              refine JO.know 0 rfl fun hs117 => ?_
                              obtain ⟨g48, h⟩ := guardO_some h
                              refine JO.reg ttOk 7 [] [] [(69, .v (.bool (decide (x43 < (x0.length : Int))))), (72, .cd [(69, true)] (.ep ⟨a5, x0.length, c6⟩ (Int.toNat x43 * 1)))] _ rfl ⟨(fun q118 => hs117.ix (g48 q118)), ⟨rfl, rfl, trivial⟩, rfl⟩ ?_
                              refine JO.load ttOk rfl rfl rfl rfl rfl rfl rfl 0 rfl rfl (Int.toNat x43) 0 (at' x0 x43) (fun q119 => ⟨at_some (g48 q119), rfl⟩) rfl rfl ?_
                              obtain ⟨y51, hy52, -, h⟩ := callO_some h
                              refine JO.callg rfl rfl rfl rfl (fun q120 => ok_i_ClassOf (at' x0 x43) _ (hy52 q120)) rfl [] rfl rfl ?_
                              refine JO.reg ttOk 2 [] [] [(76, .v (.bool (bif (decide (x43 < (x0.length : Int))) then (decide (y51 = 0)) else false)))] _ rfl ⟨⟨rfl, trivial⟩, rfl⟩ ?_
                              refine JO.done rfl ?_
                              refine JS.cond rfl (fun ht121 => ?_) (fun ht121 => ?_)
                              · have h := condT h ht121
                                refine JS.skip ?_
                                refine JS.block ?_
                                refine JS.region ?_
                                refine JO.reg ttOk 3 [(W (x43 + 1))] [] [(13, .v (.int .i64 (W (x43 + 1))))] _ rfl ⟨⟨trivial, rfl⟩, ⟨rfl, trivial⟩, rfl⟩ ?_
                                refine JO.done rfl ?_
                                refine JS.endB ?_
                                exact JS.endL (n61, (W (x43 + 1))) h (Nat.lt_succ_self _) ⟨rfl, rfl, rfl, trivial⟩ ⟨rfl, rfl, rfl, rfl, trivial⟩ [0] rfl [] rfl
                              · have h := condF h ht121
                                refine JS.exit rfl ?_
                                exact JS.endJ x43 h ⟨rfl, trivial⟩ trivial [] rfl [] rfl
                            · rintro x67 h
                              subst hj122
                              refine JS.seq ?_
                              refine JS.region ?_
                              refine JO.reg ttOk 4 [] [] [(8, .v (.int .i64 x67)), (9, .v (.bool false)), (10, .v (.bool true))] _ rfl ⟨⟨rfl, rfl, rfl, trivial⟩, rfl⟩ ?_
                              refine JO.done rfl ?_
                              cases h
                              exact JS.ret ttOk () trivial rfl rfl [] rfl
                          · have h := condF h ht125
                            refine JS.seq ?_
                            refine JS.region ?_
                            refine JO.reg ttOk 2 [] [] [(80, .v (.bool (decide (x2 = 36))))] _ rfl ⟨⟨rfl, trivial⟩, rfl⟩ ?_
                            refine JO.done rfl ?_
                            refine JS.cond rfl (fun ht124 => ?_) (fun ht124 => ?_)
                            · have h := condT h ht124
                              refine JS.seq ?_
                              refine JS.region ?_
                              refine JO.reg ttOk 8 [(W ((x0.length : Int) - 1))] [] [(8, .v (.int .i64 (max (W ((x0.length : Int) - 1)) 0))), (9, .v (.bool (decide (0 < (x0.length : Int))))), (10, .v (.bool true))] _ rfl ⟨⟨trivial, rfl⟩, ⟨rfl, rfl, rfl, trivial⟩, rfl⟩ ?_
                              refine JO.done rfl ?_
                              cases h
                              exact JS.ret ttOk () trivial rfl rfl [] rfl
                            · have h := condF h ht124
                              refine JS.seq ?_
                              refine JS.region ?_
                              refine JO.reg ttOk 2 [] [] [(87, .v (.bool (decide (x2 = 124))))] _ rfl ⟨⟨rfl, trivial⟩, rfl⟩ ?_
                              refine JO.done rfl ?_
                              refine JS.cond rfl (fun ht123 => ?_) (fun ht123 => ?_)
                              · have h := condT h ht123
                                refine JS.seq ?_
                                refine JS.region ?_
                                refine JO.reg ttOk 7 [(W ((max (1 : Int) (min x3 999)) - 1))] [] [(8, .v (.int .i64 (min (W ((max (1 : Int) (min x3 999)) - 1)) (x0.length : Int)))), (9, .v (.bool false)), (10, .v (.bool true))] _ rfl ⟨⟨trivial, rfl⟩, ⟨rfl, rfl, rfl, trivial⟩, rfl⟩ ?_
                                refine JO.done rfl ?_
                                cases h
                                exact JS.ret ttOk () trivial rfl rfl [] rfl
                              · have h := condF h ht123
                                refine JS.skip ?_
                                refine JS.endB ?_
                                exact JS.endJ () h trivial trivial [] rfl [] rfl
    · rintro _ h
      subst hj136
      refine JS.seq ?_
      refine JS.region ?_
      refine JO.reg ttOk 3 [] [] [(8, .v (.int .i64 0)), (9, .v (.bool false)), (10, .v (.bool false))] _ rfl ⟨⟨rfl, rfl, rfl, trivial⟩, rfl⟩ ?_
      refine JO.done rfl ?_
      cases h
      exact JS.ret ttOk () trivial rfl rfl [] rfl

def M_l_eqIntS_L1 (x0 : List Int) (x1 : List Int) (j28 : Unit → Option Bool) (k20 : Int → Option Bool) : Int → Option Bool := fun x11 =>
  (bif (decide (x11 < (x0.length : Int))) then
  (guardO (0 ≤ x11 ∧ x11 < (x0.length : Int)) <|
  (guardO (0 ≤ x11 ∧ x11 < (x1.length : Int)) <|
  (bif (!(decide ((at' x0 x11) = (at' x1 x11)))) then
  some false
  else
  k20 (W (x11 + 1)))))
  else
  j28 ())

def M_l_eqIntS (x0 : List Int) (x1 : List Int) : Option Bool :=
  (bif (!(decide ((x0.length : Int) = (x1.length : Int)))) then
  some false
  else
  (joinO (fun (_ : Unit) =>
  some true) fun j28 =>
  (fixF (M_l_eqIntS_L1 x0 x1 j28) FUEL 0)))

theorem ok_l_eqIntS (x0 : List Int) (x1 : List Int) (a3 : Option Addr) (c4 : Nat) (l5 : Nat) (hl6 : x0.length = l5) (a7 : Option Addr) (c8 : Nat) (l9 : Nat) (hl10 : x1.length = l9) (r : Bool) (h : M_l_eqIntS x0 x1 = some r) :
    FC Try.prog 19 [.slice a3 l5 c4, .slice a7 l9 c8] [⟨(.int .i64), ⟨a3, l5, c4⟩, x0⟩, ⟨(.int .i64), ⟨a7, l9, c8⟩, x1⟩] (fun _ : Unit => True) (fun _ => .bool r) (fun _ => []) :=
  by
    subst hl6
    subst hl10
    refine FC.of (T := TTx) Try.call19 Try.func19 rfl rfl fun w0 => ?_
    unfold M_l_eqIntS at h
    refine JS.seq ?_
    refine JS.region ?_
    refine JO.reg ttOk 1 [] [] [] _ rfl ⟨trivial, rfl⟩ ?_
    refine JO.done rfl ?_
    refine JS.seq ?_
    refine JS.seq ?_
    refine JS.region ?_
    refine JO.reg ttOk 5 [] [] [(10, .v (.bool (!(decide ((x0.length : Int) = (x1.length : Int))))))] _ rfl ⟨⟨rfl, trivial⟩, rfl⟩ ?_
    refine JO.done rfl ?_
    refine JS.cond rfl (fun ht44 => ?_) (fun ht44 => ?_)
    · have h := condT h ht44
      refine JS.seq ?_
      refine JS.region ?_
      refine JO.reg ttOk 1 [] [] [(4, .v (.bool false))] _ rfl ⟨⟨rfl, trivial⟩, rfl⟩ ?_
      refine JO.done rfl ?_
      cases h
      exact JS.ret ttOk () trivial rfl rfl [] rfl
    · have h := condF h ht44
      refine JS.skip ?_
      refine JS.seq ?_
      refine JS.seq ?_
      refine JS.region ?_
      refine JO.reg ttOk 1 [] [] [(5, .v (.int .i64 0))] _ rfl ⟨⟨rfl, trivial⟩, rfl⟩ ?_
      refine JO.done rfl ?_
      obtain ⟨j28, hj43, h⟩ := joinO_some h
      refine JS.blockJ (ι := Unit) ⟨fun _ => j28 () = some r, fun _ => [], fun _ => .nil, fun _ => [], fun _ => [], fun _ => 0⟩ ?_ ?_
      · refine JS.loop (ι := Nat × Int) ⟨fun z => fixF (M_l_eqIntS_L1 x0 x1 j28) z.1 z.2 = some r, fun z => [(0, .v (.slice a3 x0.length c4)), (1, .v (.slice a7 x1.length c8)), (5, .v (.int .i64 z.2))], fun z => .nil, fun z => [⟨(.int .i64), ⟨a3, x0.length, c4⟩, x0⟩, ⟨(.int .i64), ⟨a7, x1.length, c8⟩, x1⟩], fun z => [], fun z => z.1⟩ (FUEL, 0) h ⟨rfl, rfl, rfl, trivial⟩ trivial [0, 1] rfl [] rfl ?_
        rintro ⟨n21, x11⟩ h
        obtain ⟨n21, rfl, h⟩ := fixF_some h
        rw [M_l_eqIntS_L1] at h
        refine JS.seq ?_
        refine JS.seq ?_
        refine JS.region ?_
        refine JO.reg ttOk 4 [] [] [(14, .v (.bool (decide (x11 < (x0.length : Int)))))] _ rfl ⟨⟨rfl, trivial⟩, rfl⟩ ?_
        refine JO.done rfl ?_
        refine JS.cond rfl (fun ht42 => ?_) (fun ht42 => ?_)
        · have h := condT h ht42
          refine JS.skip ?_
          refine JS.seq ?_
          refine JS.block ?_
          refine JS.seq ?_
          obtain ⟨g13, h⟩ := guardO_some h
          obtain ⟨g15, h⟩ := guardO_some h
          refine JS.know 0 rfl fun hs39 => ?_
          refine JS.know 1 rfl fun hs40 => ?_
          refine JS.regionQ rfl (by kernel_rfl) ?_
          refine JQ.reg ttOk 3 [] [(19, .ep ⟨a3, x0.length, c4⟩ (Int.toNat x11 * 1))] rfl ⟨hs39.ix g13, ⟨rfl, trivial⟩⟩ ?_
          refine JQ.load ttOk rfl rfl rfl rfl rfl rfl rfl 0 rfl rfl (Int.toNat x11) 0 (at' x0 x11) ⟨at_some g13, rfl⟩ rfl rfl ?_
          refine JQ.reg ttOk 3 [] [(23, .ep ⟨a7, x1.length, c8⟩ (Int.toNat x11 * 1))] rfl ⟨hs40.ix g15, ⟨rfl, trivial⟩⟩ ?_
          refine JQ.load ttOk rfl rfl rfl rfl rfl rfl rfl 1 rfl rfl (Int.toNat x11) 0 (at' x1 x11) ⟨at_some g15, rfl⟩ rfl rfl ?_
          refine JQ.reg ttOk 1 [] [(25, .v (.bool (!(decide ((at' x0 x11) = (at' x1 x11))))))] rfl ⟨rfl, trivial⟩ ?_
          refine JQ.done rfl ?_
          refine JS.cond rfl (fun ht41 => ?_) (fun ht41 => ?_)
          · have h := condT h ht41
            refine JS.seq ?_
            refine JS.region ?_
            refine JO.reg ttOk 1 [] [] [(4, .v (.bool false))] _ rfl ⟨⟨rfl, trivial⟩, rfl⟩ ?_
            refine JO.done rfl ?_
            cases h
            exact JS.ret ttOk () trivial rfl rfl [] rfl
          · have h := condF h ht41
            refine JS.skip ?_
            refine JS.endB ?_
            refine JS.region ?_
            refine JO.reg ttOk 3 [(W (x11 + 1))] [] [(5, .v (.int .i64 (W (x11 + 1))))] _ rfl ⟨⟨trivial, rfl⟩, ⟨rfl, trivial⟩, rfl⟩ ?_
            refine JO.done rfl ?_
            exact JS.endL (n21, (W (x11 + 1))) h (Nat.lt_succ_self _) ⟨rfl, rfl, rfl, trivial⟩ trivial [0, 1] rfl [] rfl
        · have h := condF h ht42
          refine JS.exit rfl ?_
          exact JS.endJ () h trivial trivial [] rfl [] rfl
      · rintro _ h
        subst hj43
        refine JS.seq ?_
        refine JS.region ?_
        refine JO.reg ttOk 1 [] [] [(4, .v (.bool true))] _ rfl ⟨⟨rfl, trivial⟩, rfl⟩ ?_
        refine JO.done rfl ?_
        cases h
        exact JS.ret ttOk () trivial rfl rfl [] rfl

def M_l_FnExactMotionTo (x0 : List Int) (x1 : Int) (x2 : Int) (x3 : Int) : Option Bool :=
  (bif (decide (1048576 < (x0.length : Int))) then
  some true
  else
  (bindO (M_l_toIntS x0) fun (y9 : List Int) =>
  (bindO (M_s_MotionTo y9 x1 x2 x3) fun (y13, y14, y15) =>
  (bindO (M_l_toIntS x0) fun (y17 : List Int) =>
  (bindO (M_i_MotionTo y17 x1 x2 x3) fun (y21, y22, y23) =>
  (bif (bif (bif (!(decide (y21 = y13))) then true else (!(y22 == y14))) then true else (!(y23 == y15))) then
  some false
  else
  (bindO (M_l_toIntS x0) fun (y25 : List Int) =>
  (bindO (M_l_eqIntS y17 y25) fun (y29 : Bool) =>
  (bif (!y29) then
  some false
  else
  some true)))))))))

theorem ok_l_FnExactMotionTo (x0 : List Int) (x1 : Int) (x2 : Int) (x3 : Int) (a5 : Option Addr) (c6 : Nat) (l7 : Nat) (hl8 : x0.length = l7) (r : Bool) (h : M_l_FnExactMotionTo x0 x1 x2 x3 = some r) :
    FC Try.prog 5 [.slice a5 l7 c6, .int .i64 x1, .int .i64 x2, .int .i64 x3] [⟨(.int .i64), ⟨a5, l7, c6⟩, x0⟩] (fun _ : Unit => True) (fun _ => .bool r) (fun _ => []) :=
  by
    subst hl8
    refine FC.of (T := TTx) Try.call5 Try.func5 rfl rfl fun w0 => ?_
    unfold M_l_FnExactMotionTo at h
    refine JS.seq ?_
    refine JS.region ?_
    refine JO.reg ttOk 1 [] [] [] _ rfl ⟨trivial, rfl⟩ ?_
    refine JO.done rfl ?_
    refine JS.seq ?_
    refine JS.seq ?_
    refine JS.region ?_
    refine JO.reg ttOk 3 [] [] [(18, .v (.bool (decide (1048576 < (x0.length : Int)))))] _ rfl ⟨⟨rfl, trivial⟩, rfl⟩ ?_
    refine JO.done rfl ?_
    refine JS.cond rfl (fun ht36 => ?_) (fun ht36 => ?_)
    · have h := condT h ht36
      refine JS.seq ?_
      refine JS.region ?_
      refine JO.reg ttOk 1 [] [] [(8, .v (.bool true))] _ rfl ⟨⟨rfl, trivial⟩, rfl⟩ ?_
      refine JO.done rfl ?_
      cases h
      exact JS.ret ttOk () trivial rfl rfl [] rfl
    · have h := condF h ht36
      refine JS.skip ?_
      refine JS.seq ?_
      refine JS.region ?_
      refine JO.reg ttOk 1 [] [] [(20, .v (.slice a5 x0.length c6))] _ rfl ⟨⟨rfl, trivial⟩, rfl⟩ ?_
      obtain ⟨y9, hy10, h⟩ := bindO_some h
      refine JO.call rfl rfl rfl rfl (ok_l_toIntS x0 a5 c6 x0.length rfl _ hy10) rfl [0] rfl rfl ?_
      rintro ⟨a11, c12⟩ -
      refine JO.reg ttOk 3 [] [] [(22, .v (.int .i64 x1)), (23, .v (.int .i64 x2)), (24, .v (.int .i64 x3))] _ rfl ⟨⟨rfl, rfl, rfl, trivial⟩, rfl⟩ ?_
      obtain ⟨⟨y13, y14, y15⟩, hy16, h⟩ := bindO_some h
      refine JO.call rfl rfl rfl rfl (ok_s_MotionTo y9 x1 x2 x3 a11 c12 y9.length rfl _ hy16) rfl [1] rfl rfl ?_
      intro _ _
      refine JO.reg ttOk 7 [] [] [(9, .v (.int .i64 y13)), (10, .v (.bool y14)), (11, .v (.bool y15))] _ rfl ⟨⟨rfl, rfl, rfl, trivial⟩, rfl⟩ ?_
      refine JO.done rfl ?_
      refine JS.seq ?_
      refine JS.region ?_
      refine JO.reg ttOk 1 [] [] [(29, .v (.slice a5 x0.length c6))] _ rfl ⟨⟨rfl, trivial⟩, rfl⟩ ?_
      obtain ⟨y17, hy18, h⟩ := bindO_some h
      refine JO.call rfl rfl rfl rfl (ok_l_toIntS x0 a5 c6 x0.length rfl _ hy18) rfl [0] rfl rfl ?_
      rintro ⟨a19, c20⟩ -
      refine JO.reg ttOk 1 [] [] [(12, .v (.slice a19 y17.length c20))] _ rfl ⟨⟨rfl, trivial⟩, rfl⟩ ?_
      refine JO.done rfl ?_
      refine JS.seq ?_
      refine JS.region ?_
      refine JO.reg ttOk 4 [] [] [(32, .v (.slice a19 y17.length c20)), (33, .v (.int .i64 x1)), (34, .v (.int .i64 x2)), (35, .v (.int .i64 x3))] _ rfl ⟨⟨rfl, rfl, rfl, rfl, trivial⟩, rfl⟩ ?_
      obtain ⟨⟨y21, y22, y23⟩, hy24, h⟩ := bindO_some h
      refine JO.call rfl rfl rfl rfl (ok_i_MotionTo y17 x1 x2 x3 a19 c20 y17.length rfl _ hy24) rfl [1] rfl rfl ?_
      intro _ _
      refine JO.reg ttOk 7 [] [] [(13, .v (.int .i64 y21)), (14, .v (.bool y22)), (15, .v (.bool y23))] _ rfl ⟨⟨rfl, rfl, rfl, trivial⟩, rfl⟩ ?_
      refine JO.done rfl ?_
      refine JS.seq ?_
      refine JS.seq ?_
      refine JS.region ?_
      refine JO.reg ttOk 13 [] [] [(52, .v (.bool (bif (bif (!(decide (y21 = y13))) then true else (!(y22 == y14))) then true else (!(y23 == y15)))))] _ rfl ⟨⟨rfl, trivial⟩, rfl⟩ ?_
      refine JO.done rfl ?_
      refine JS.cond rfl (fun ht35 => ?_) (fun ht35 => ?_)
      · have h := condT h ht35
        refine JS.seq ?_
        refine JS.region ?_
        refine JO.reg ttOk 1 [] [] [(8, .v (.bool false))] _ rfl ⟨⟨rfl, trivial⟩, rfl⟩ ?_
        refine JO.done rfl ?_
        cases h
        exact JS.ret ttOk () trivial rfl rfl [] rfl
      · have h := condF h ht35
        refine JS.skip ?_
        refine JS.seq ?_
        refine JS.seq ?_
        refine JS.region ?_
        refine JO.reg ttOk 2 [] [] [(53, .v (.slice a19 y17.length c20)), (54, .v (.slice a5 x0.length c6))] _ rfl ⟨⟨rfl, rfl, trivial⟩, rfl⟩ ?_
        obtain ⟨y25, hy26, h⟩ := bindO_some h
        refine JO.call rfl rfl rfl rfl (ok_l_toIntS x0 a5 c6 x0.length rfl _ hy26) rfl [0] rfl rfl ?_
        rintro ⟨a27, c28⟩ -
        obtain ⟨y29, hy30, h⟩ := bindO_some h
        refine JO.call rfl rfl rfl rfl (ok_l_eqIntS y17 y25 a19 c20 y17.length rfl a27 c28 y25.length rfl _ hy30) rfl [2, 1] rfl rfl ?_
        intro _ _
        refine JO.reg ttOk 1 [] [] [(57, .v (.bool (!y29)))] _ rfl ⟨⟨rfl, trivial⟩, rfl⟩ ?_
        refine JO.done rfl ?_
        refine JS.cond rfl (fun ht34 => ?_) (fun ht34 => ?_)
        · have h := condT h ht34
          refine JS.seq ?_
          refine JS.region ?_
          refine JO.reg ttOk 1 [] [] [(8, .v (.bool false))] _ rfl ⟨⟨rfl, trivial⟩, rfl⟩ ?_
          refine JO.done rfl ?_
          cases h
          exact JS.ret ttOk () trivial rfl rfl [] rfl
        · have h := condF h ht34
          refine JS.skip ?_
          refine JS.seq ?_
          refine JS.region ?_
          refine JO.reg ttOk 1 [] [] [(8, .v (.bool true))] _ rfl ⟨⟨rfl, trivial⟩, rfl⟩ ?_
          refine JO.done rfl ?_
          cases h
          exact JS.ret ttOk () trivial rfl rfl [] rfl

end
end Go.Eng
