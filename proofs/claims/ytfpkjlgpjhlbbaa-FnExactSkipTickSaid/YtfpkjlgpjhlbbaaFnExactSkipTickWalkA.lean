/- The walks of the functions that FnExactSkipTick reaches: what each computes, as a plain function (M_..), and that the model computes it (ok_..). Condition of each: that the plain function answers. -/
import Derived.Test.YtfpkjlgpjhlbbaaEngA
import Derived.Test.YtfpkjlgpjhlbbaaChecked
set_option linter.unusedVariables false
set_option linter.unusedSimpArgs false
namespace Go.Eng
open Go Go.Proofs

def TTx : TT := [
  (2, ⟨.int .i64, 1, 8, [.int .i64 0]⟩),
  (3, ⟨.int .i64, 1, 8, [.int .i64 0]⟩),
  (4, ⟨.bool, 1, 1, [.bool false]⟩),
  (5, ⟨.int .u8, 1, 1, [.int .u8 0]⟩),
  (6, ⟨.int .u8, 1, 1, [.int .u8 0]⟩),
  (7, ⟨.struct [(0, 2), (1, 3), (2, 4), (3, 6)], 4, 24, [.int .i64 0, .int .i64 0, .bool false, .int .u8 0]⟩),
  (8, ⟨.struct [(0, 2), (1, 3), (2, 4), (3, 6)], 4, 24, [.int .i64 0, .int .i64 0, .bool false, .int .u8 0]⟩),
  (9, ⟨.str, 1, 16, [.string ByteArray.empty]⟩),
  (10, ⟨.str, 1, 16, [.string ByteArray.empty]⟩),
  (11, ⟨.str, 1, 16, [.string ByteArray.empty]⟩),
  (12, ⟨.int .u64, 1, 8, [.int .u64 0]⟩),
  (13, ⟨.struct [(0, 9), (1, 12)], 2, 24, [.string ByteArray.empty, .int .u64 0]⟩),
  (14, ⟨.struct [(0, 9), (1, 12)], 2, 24, [.string ByteArray.empty, .int .u64 0]⟩),
  (21, ⟨.int .i32, 1, 4, [.int .i32 0]⟩),
  (29, ⟨.struct [(0, 3), (1, 3), (2, 9), (3, 3)], 4, 40, [.int .i64 0, .int .i64 0, .string ByteArray.empty, .int .i64 0]⟩),
  (30, ⟨.struct [(0, 3), (1, 3), (2, 9), (3, 3)], 4, 40, [.int .i64 0, .int .i64 0, .string ByteArray.empty, .int .i64 0]⟩),
  (34, ⟨.slice 3, 1, 24, [.slice none 0 0]⟩),
  (52, ⟨.int .u32, 1, 4, [.int .u32 0]⟩),
  (53, ⟨.int .u8, 1, 1, [.int .u8 0]⟩),
  (54, ⟨.int .u8, 1, 1, [.int .u8 0]⟩),
  (57, ⟨.int .i32, 1, 4, [.int .i32 0]⟩),
  (58, ⟨.int .i32, 1, 4, [.int .i32 0]⟩)]

theorem ttOk : TTok Try.prog TTx := TTok.of (by
  simp only [TTx, List.forall_mem_cons]
  exact ⟨⟨⟨_, _, rfl, rfl, rfl, rfl, rfl⟩, rfl⟩, ⟨⟨_, _, rfl, rfl, rfl, rfl, rfl⟩, rfl⟩, ⟨⟨_, _, rfl, rfl, rfl, rfl, rfl⟩, rfl⟩, ⟨⟨_, _, rfl, rfl, rfl, rfl, rfl⟩, rfl⟩, ⟨⟨_, _, rfl, rfl, rfl, rfl, rfl⟩, rfl⟩, ⟨⟨_, _, rfl, rfl, rfl, rfl, rfl⟩, ⟨_, rfl, rfl⟩⟩, ⟨⟨_, _, rfl, rfl, rfl, rfl, rfl⟩, ⟨_, rfl, rfl⟩⟩, ⟨⟨_, _, rfl, rfl, rfl, rfl, rfl⟩, rfl⟩, ⟨⟨_, _, rfl, rfl, rfl, rfl, rfl⟩, rfl⟩, ⟨⟨_, _, rfl, rfl, rfl, rfl, rfl⟩, rfl⟩, ⟨⟨_, _, rfl, rfl, rfl, rfl, rfl⟩, rfl⟩, ⟨⟨_, _, rfl, rfl, rfl, rfl, rfl⟩, ⟨_, rfl, rfl⟩⟩, ⟨⟨_, _, rfl, rfl, rfl, rfl, rfl⟩, ⟨_, rfl, rfl⟩⟩, ⟨⟨_, _, rfl, rfl, rfl, rfl, rfl⟩, rfl⟩, ⟨⟨_, _, rfl, rfl, rfl, rfl, rfl⟩, ⟨_, rfl, rfl⟩⟩, ⟨⟨_, _, rfl, rfl, rfl, rfl, rfl⟩, ⟨_, rfl, rfl⟩⟩, ⟨⟨_, _, rfl, rfl, rfl, rfl, rfl⟩, rfl⟩, ⟨⟨_, _, rfl, rfl, rfl, rfl, rfl⟩, rfl⟩, ⟨⟨_, _, rfl, rfl, rfl, rfl, rfl⟩, rfl⟩, ⟨⟨_, _, rfl, rfl, rfl, rfl, rfl⟩, rfl⟩, ⟨⟨_, _, rfl, rfl, rfl, rfl, rfl⟩, rfl⟩, ⟨⟨_, _, rfl, rfl, rfl, rfl, rfl⟩, rfl⟩, by simp⟩)

def M_s_l08Clamp (x0 : Int) (x1 : Int) : Option Int :=
  (bif (decide (x0 < 0)) then
  some 0
  else
  (bif (decide (x1 < x0)) then
  some x1
  else
  some x0))

theorem ok_s_l08Clamp (x0 : Int) (x1 : Int) (r : Int) (h : M_s_l08Clamp x0 x1 = some r) :
    FC Try.prog 30 [.int .i64 x0, .int .i64 x1] [] (fun _ : Unit => True) (fun _ => .int .i64 r) (fun _ => []) :=
  FC.of (T := TTx) Try.call30 Try.func30 rfl rfl fun w0 => by
    unfold M_s_l08Clamp at h
    refine JS.seq ?_
    refine JS.region ?_
    refine JO.reg ttOk 1 [] [] [] _ rfl ⟨trivial, rfl⟩ ?_
    refine JO.done rfl ?_
    refine JS.seq ?_
    refine JS.seq ?_
    refine JS.region ?_
    refine JO.reg ttOk 2 [] [] [(6, .v (.bool (decide (x0 < 0))))] _ rfl ⟨⟨rfl, trivial⟩, rfl⟩ ?_
    refine JO.done rfl ?_
    refine JS.cond rfl (fun ht6 => ?_) (fun ht6 => ?_)
    · have h := condT h ht6
      refine JS.seq ?_
      refine JS.region ?_
      refine JO.reg ttOk 1 [] [] [(4, .v (.int .i64 0))] _ rfl ⟨⟨rfl, trivial⟩, rfl⟩ ?_
      refine JO.done rfl ?_
      cases h
      exact JS.ret ttOk () trivial rfl rfl [] rfl
    · have h := condF h ht6
      refine JS.skip ?_
      refine JS.seq ?_
      refine JS.seq ?_
      refine JS.region ?_
      refine JO.reg ttOk 3 [] [] [(9, .v (.bool (decide (x1 < x0))))] _ rfl ⟨⟨rfl, trivial⟩, rfl⟩ ?_
      refine JO.done rfl ?_
      refine JS.cond rfl (fun ht5 => ?_) (fun ht5 => ?_)
      · have h := condT h ht5
        refine JS.seq ?_
        refine JS.region ?_
        refine JO.reg ttOk 2 [] [] [(4, .v (.int .i64 x1))] _ rfl ⟨⟨rfl, trivial⟩, rfl⟩ ?_
        refine JO.done rfl ?_
        cases h
        exact JS.ret ttOk () trivial rfl rfl [] rfl
      · have h := condF h ht5
        refine JS.skip ?_
        refine JS.seq ?_
        refine JS.region ?_
        refine JO.reg ttOk 2 [] [] [(4, .v (.int .i64 x0))] _ rfl ⟨⟨rfl, trivial⟩, rfl⟩ ?_
        refine JO.done rfl ?_
        cases h
        exact JS.ret ttOk () trivial rfl rfl [] rfl

def M_s_SkipTick_L1 (x0 : List UInt8) (j26 : Unit → Option Int) (k18 : Int → Option Int) : Int → Option Int := fun x5 =>
  (bif (decide (x5 < (x0.length : Int))) then
  (joinO (fun (x10 : Int) =>
  k18 (W (x10 + 1))) fun j11 =>
  (guardO (0 ≤ x5 ∧ x5 < (x0.length : Int)) <|
  (bif (decide (((at' x0 x5).toNat : Int) = (96 : Int))) then
  some (W (x5 + 1))
  else
  (guardO (0 ≤ x5 ∧ x5 < (x0.length : Int)) <|
  (bif (decide (((at' x0 x5).toNat : Int) = (92 : Int))) then
  j11 (W (x5 + 1))
  else
  j11 x5)))))
  else
  j26 ())

def M_s_SkipTick (x0 : List UInt8) (x1 : Int) : Option Int :=
  (bindO (M_s_l08Clamp x1 (x0.length : Int)) fun (y3 : Int) =>
  (joinO (fun (_ : Unit) =>
  some (-1)) fun j26 =>
  (fixF (M_s_SkipTick_L1 x0 j26) FUEL y3)))

theorem ok_s_SkipTick (x0 : List UInt8) (x1 : Int) (r : Int) (h : M_s_SkipTick x0 x1 = some r) :
    FC Try.prog 14 [.string (bs x0), .int .i64 x1] [] (fun _ : Unit => True) (fun _ => .int .i64 r) (fun _ => []) :=
  FC.of (T := TTx) Try.call14 Try.func14 rfl rfl fun w0 => by
    unfold M_s_SkipTick at h
    refine JS.seq ?_
    refine JS.region ?_
    refine JO.reg ttOk 1 [] [] [] _ rfl ⟨trivial, rfl⟩ ?_
    refine JO.done rfl ?_
    refine JS.seq ?_
    refine JS.seq ?_
    refine JS.region ?_
    refine JO.reg ttOk 3 [] [] [(6, .v (.int .i64 x1)), (8, .v (.int .i64 (x0.length : Int)))] _ rfl ⟨⟨rfl, rfl, trivial⟩, rfl⟩ ?_
    obtain ⟨y3, hy34, h⟩ := bindO_some h
    refine JO.call rfl rfl rfl rfl (ok_s_l08Clamp x1 (x0.length : Int) _ hy34) rfl [] rfl rfl ?_
    intro _ _
    refine JO.reg ttOk 1 [] [] [(5, .v (.int .i64 y3))] _ rfl ⟨⟨rfl, trivial⟩, rfl⟩ ?_
    refine JO.done rfl ?_
    obtain ⟨j26, hj41, h⟩ := joinO_some h
    refine JS.blockJ (ι := Unit) ⟨fun _ => j26 () = some r, fun _ => [], fun _ => .nil, fun _ => [], fun _ => [], fun _ => 0⟩ ?_ ?_
    · refine JS.loop (ι := Nat × Int) ⟨fun z => fixF (M_s_SkipTick_L1 x0 j26) z.1 z.2 = some r, fun z => [(0, .v (.string (bs x0))), (5, .v (.int .i64 z.2))], fun z => .nil, fun z => [], fun z => [], fun z => z.1⟩ (FUEL, y3) h ⟨rfl, rfl, trivial⟩ trivial [] rfl [] rfl ?_
      rintro ⟨n19, x5⟩ h
      obtain ⟨n19, rfl, h⟩ := fixF_some h
      rw [M_s_SkipTick_L1] at h
      refine JS.seq ?_
      refine JS.seq ?_
      refine JS.region ?_
      refine JO.reg ttOk 4 [] [] [(13, .v (.bool (decide (x5 < (x0.length : Int)))))] _ rfl ⟨⟨rfl, trivial⟩, rfl⟩ ?_
      refine JO.done rfl ?_
      refine JS.cond rfl (fun ht40 => ?_) (fun ht40 => ?_)
      · have h := condT h ht40
        refine JS.skip ?_
        refine JS.seq ?_
        obtain ⟨j11, hj39, h⟩ := joinO_some h
        refine JS.blockJ (ι := Int) ⟨fun z => j11 z = some r, fun z => [(0, .v (.string (bs x0))), (5, .v (.int .i64 z))], fun z => .nil, fun z => [], fun z => [], fun z => 0⟩ ?_ ?_
        · refine JS.seq ?_
          refine JS.seq ?_
          refine JS.region ?_
          obtain ⟨g35, h⟩ := guardO_some h
          refine JO.reg ttOk 4 [] [] [(19, .v (.bool (decide (((at' x0 x5).toNat : Int) = (96 : Int)))))] _ rfl ⟨g35, ⟨rfl, trivial⟩, rfl⟩ ?_
          refine JO.done rfl ?_
          refine JS.cond rfl (fun ht38 => ?_) (fun ht38 => ?_)
          · have h := condT h ht38
            refine JS.seq ?_
            refine JS.region ?_
            refine JO.reg ttOk 3 [(W (x5 + 1))] [] [(4, .v (.int .i64 (W (x5 + 1))))] _ rfl ⟨⟨trivial, rfl⟩, ⟨rfl, trivial⟩, rfl⟩ ?_
            refine JO.done rfl ?_
            cases h
            exact JS.ret ttOk () trivial rfl rfl [] rfl
          · have h := condF h ht38
            refine JS.skip ?_
            refine JS.seq ?_
            refine JS.region ?_
            obtain ⟨g36, h⟩ := guardO_some h
            refine JO.reg ttOk 4 [] [] [(25, .v (.bool (decide (((at' x0 x5).toNat : Int) = (92 : Int)))))] _ rfl ⟨g36, ⟨rfl, trivial⟩, rfl⟩ ?_
            refine JO.done rfl ?_
            refine JS.cond rfl (fun ht37 => ?_) (fun ht37 => ?_)
            · have h := condT h ht37
              refine JS.region ?_
              refine JO.reg ttOk 3 [(W (x5 + 1))] [] [(5, .v (.int .i64 (W (x5 + 1))))] _ rfl ⟨⟨trivial, rfl⟩, ⟨rfl, trivial⟩, rfl⟩ ?_
              refine JO.done rfl ?_
              refine JS.endB ?_
              exact JS.endJ (W (x5 + 1)) h ⟨rfl, rfl, trivial⟩ trivial [] rfl [] rfl
            · have h := condF h ht37
              refine JS.skip ?_
              refine JS.endB ?_
              exact JS.endJ x5 h ⟨rfl, rfl, trivial⟩ trivial [] rfl [] rfl
        · rintro x10 h
          subst hj39
          refine JS.region ?_
          refine JO.reg ttOk 3 [(W (x10 + 1))] [] [(5, .v (.int .i64 (W (x10 + 1))))] _ rfl ⟨⟨trivial, rfl⟩, ⟨rfl, trivial⟩, rfl⟩ ?_
          refine JO.done rfl ?_
          exact JS.endL (n19, (W (x10 + 1))) h (Nat.lt_succ_self _) ⟨rfl, rfl, trivial⟩ trivial [] rfl [] rfl
      · have h := condF h ht40
        refine JS.exit rfl ?_
        exact JS.endJ () h trivial trivial [] rfl [] rfl
    · rintro _ h
      subst hj41
      refine JS.seq ?_
      refine JS.region ?_
      refine JO.reg ttOk 1 [] [] [(4, .v (.int .i64 (-1)))] _ rfl ⟨⟨rfl, trivial⟩, rfl⟩ ?_
      refine JO.done rfl ?_
      cases h
      exact JS.ret ttOk () trivial rfl rfl [] rfl

def M_i_within (x0 : Int) (x1 : Int) : Option Int :=
  some (max (0 : Int) (min x0 x1))

theorem ok_i_within (x0 : Int) (x1 : Int) (r : Int) (h : M_i_within x0 x1 = some r) :
    FC Try.prog 31 [.int .i64 x0, .int .i64 x1] [] (fun _ : Unit => True) (fun _ => .int .i64 r) (fun _ => []) :=
  FC.of (T := TTx) Try.call31 Try.func31 rfl rfl fun w0 => by
    unfold M_i_within at h
    refine JS.seq ?_
    refine JS.region ?_
    refine JO.reg ttOk 1 [] [] [] _ rfl ⟨trivial, rfl⟩ ?_
    refine JO.done rfl ?_
    refine JS.seq ?_
    refine JS.region ?_
    refine JO.reg ttOk 5 [] [] [(4, .v (.int .i64 (max (0 : Int) (min x0 x1))))] _ rfl ⟨⟨rfl, trivial⟩, rfl⟩ ?_
    refine JO.done rfl ?_
    cases h
    exact JS.ret ttOk () trivial rfl rfl [] rfl

def M_i_SkipTick_L1 (x0 : List UInt8) (j22 : Unit → Option Int) (k15 : Int → Option Int) : Int → Option Int := fun x5 =>
  (bif (decide (x5 < (x0.length : Int))) then
  (guardO (0 ≤ x5 ∧ x5 < (x0.length : Int)) <|
  (joinO (fun (x9 : Int) =>
  k15 (W (x9 + 1))) fun j10 =>
  (bif (decide (((at' x0 x5).toNat : Int) = (92 : Int))) then
  j10 (W (x5 + 1))
  else
  (bif (decide (((at' x0 x5).toNat : Int) = (96 : Int))) then
  some (W (x5 + 1))
  else
  j10 x5))))
  else
  j22 ())

def M_i_SkipTick (x0 : List UInt8) (x1 : Int) : Option Int :=
  (bindO (M_i_within x1 (x0.length : Int)) fun (y3 : Int) =>
  (joinO (fun (_ : Unit) =>
  some (-1)) fun j22 =>
  (fixF (M_i_SkipTick_L1 x0 j22) FUEL y3)))

theorem ok_i_SkipTick (x0 : List UInt8) (x1 : Int) (r : Int) (h : M_i_SkipTick x0 x1 = some r) :
    FC Try.prog 15 [.string (bs x0), .int .i64 x1] [] (fun _ : Unit => True) (fun _ => .int .i64 r) (fun _ => []) :=
  FC.of (T := TTx) Try.call15 Try.func15 rfl rfl fun w0 => by
    unfold M_i_SkipTick at h
    refine JS.seq ?_
    refine JS.region ?_
    refine JO.reg ttOk 1 [] [] [] _ rfl ⟨trivial, rfl⟩ ?_
    refine JO.done rfl ?_
    refine JS.seq ?_
    refine JS.seq ?_
    refine JS.region ?_
    refine JO.reg ttOk 3 [] [] [(6, .v (.int .i64 x1)), (8, .v (.int .i64 (x0.length : Int)))] _ rfl ⟨⟨rfl, rfl, trivial⟩, rfl⟩ ?_
    obtain ⟨y3, hy29, h⟩ := bindO_some h
    refine JO.call rfl rfl rfl rfl (ok_i_within x1 (x0.length : Int) _ hy29) rfl [] rfl rfl ?_
    intro _ _
    refine JO.reg ttOk 1 [] [] [(5, .v (.int .i64 y3))] _ rfl ⟨⟨rfl, trivial⟩, rfl⟩ ?_
    refine JO.done rfl ?_
    obtain ⟨j22, hj35, h⟩ := joinO_some h
    refine JS.blockJ (ι := Unit) ⟨fun _ => j22 () = some r, fun _ => [], fun _ => .nil, fun _ => [], fun _ => [], fun _ => 0⟩ ?_ ?_
    · refine JS.loop (ι := Nat × Int) ⟨fun z => fixF (M_i_SkipTick_L1 x0 j22) z.1 z.2 = some r, fun z => [(0, .v (.string (bs x0))), (5, .v (.int .i64 z.2))], fun z => .nil, fun z => [], fun z => [], fun z => z.1⟩ (FUEL, y3) h ⟨rfl, rfl, trivial⟩ trivial [] rfl [] rfl ?_
      rintro ⟨n16, x5⟩ h
      obtain ⟨n16, rfl, h⟩ := fixF_some h
      rw [M_i_SkipTick_L1] at h
      refine JS.seq ?_
      refine JS.seq ?_
      refine JS.region ?_
      refine JO.reg ttOk 4 [] [] [(13, .v (.bool (decide (x5 < (x0.length : Int)))))] _ rfl ⟨⟨rfl, trivial⟩, rfl⟩ ?_
      refine JO.done rfl ?_
      refine JS.cond rfl (fun ht34 => ?_) (fun ht34 => ?_)
      · have h := condT h ht34
        refine JS.skip ?_
        refine JS.seq ?_
        refine JS.block ?_
        refine JS.seq ?_
        refine JS.region ?_
        obtain ⟨g30, h⟩ := guardO_some h
        refine JO.reg ttOk 3 [] [] [(18, .v (.int .u8 ((at' x0 x5).toNat : Int)))] _ rfl ⟨g30, ⟨rfl, trivial⟩, rfl⟩ ?_
        refine JO.done rfl ?_
        obtain ⟨j10, hj33, h⟩ := joinO_some h
        refine JS.blockJ (ι := Int) ⟨fun z => j10 z = some r, fun z => [(0, .v (.string (bs x0))), (5, .v (.int .i64 z))], fun z => .nil, fun z => [], fun z => [], fun z => 0⟩ ?_ ?_
        · refine JS.seq ?_
          refine JS.region ?_
          refine JO.reg ttOk 2 [] [] [(19, .v (.bool (decide (((at' x0 x5).toNat : Int) = (92 : Int)))))] _ rfl ⟨⟨rfl, trivial⟩, rfl⟩ ?_
          refine JO.done rfl ?_
          refine JS.cond rfl (fun ht32 => ?_) (fun ht32 => ?_)
          · have h := condT h ht32
            refine JS.region ?_
            refine JO.reg ttOk 3 [(W (x5 + 1))] [] [(5, .v (.int .i64 (W (x5 + 1))))] _ rfl ⟨⟨trivial, rfl⟩, ⟨rfl, trivial⟩, rfl⟩ ?_
            refine JO.done rfl ?_
            refine JS.endB ?_
            exact JS.endJ (W (x5 + 1)) h ⟨rfl, rfl, trivial⟩ trivial [] rfl [] rfl
          · have h := condF h ht32
            refine JS.seq ?_
            refine JS.region ?_
            refine JO.reg ttOk 2 [] [] [(23, .v (.bool (decide (((at' x0 x5).toNat : Int) = (96 : Int)))))] _ rfl ⟨⟨rfl, trivial⟩, rfl⟩ ?_
            refine JO.done rfl ?_
            refine JS.cond rfl (fun ht31 => ?_) (fun ht31 => ?_)
            · have h := condT h ht31
              refine JS.seq ?_
              refine JS.region ?_
              refine JO.reg ttOk 3 [(W (x5 + 1))] [] [(4, .v (.int .i64 (W (x5 + 1))))] _ rfl ⟨⟨trivial, rfl⟩, ⟨rfl, trivial⟩, rfl⟩ ?_
              refine JO.done rfl ?_
              cases h
              exact JS.ret ttOk () trivial rfl rfl [] rfl
            · have h := condF h ht31
              refine JS.skip ?_
              refine JS.endB ?_
              exact JS.endJ x5 h ⟨rfl, rfl, trivial⟩ trivial [] rfl [] rfl
        · rintro x9 h
          subst hj33
          refine JS.endB ?_
          refine JS.region ?_
          refine JO.reg ttOk 3 [(W (x9 + 1))] [] [(5, .v (.int .i64 (W (x9 + 1))))] _ rfl ⟨⟨trivial, rfl⟩, ⟨rfl, trivial⟩, rfl⟩ ?_
          refine JO.done rfl ?_
          exact JS.endL (n16, (W (x9 + 1))) h (Nat.lt_succ_self _) ⟨rfl, rfl, trivial⟩ trivial [] rfl [] rfl
      · have h := condF h ht34
        refine JS.exit rfl ?_
        exact JS.endJ () h trivial trivial [] rfl [] rfl
    · rintro _ h
      subst hj35
      refine JS.seq ?_
      refine JS.region ?_
      refine JO.reg ttOk 1 [] [] [(4, .v (.int .i64 (-1)))] _ rfl ⟨⟨rfl, trivial⟩, rfl⟩ ?_
      refine JO.done rfl ?_
      cases h
      exact JS.ret ttOk () trivial rfl rfl [] rfl

def M_l_FnExactSkipTick (x0 : List UInt8) (x1 : Int) : Option Bool :=
  (bif (decide (1048576 < (x0.length : Int))) then
  some true
  else
  (bindO (M_s_SkipTick x0 x1) fun (y3 : Int) =>
  (bindO (M_i_SkipTick x0 x1) fun (y5 : Int) =>
  (bif (!(decide (y5 = y3))) then
  some false
  else
  some true))))

theorem ok_l_FnExactSkipTick (x0 : List UInt8) (x1 : Int) (r : Bool) (h : M_l_FnExactSkipTick x0 x1 = some r) :
    FC Try.prog 5 [.string (bs x0), .int .i64 x1] [] (fun _ : Unit => True) (fun _ => .bool r) (fun _ => []) :=
  FC.of (T := TTx) Try.call5 Try.func5 rfl rfl fun w0 => by
    unfold M_l_FnExactSkipTick at h
    refine JS.seq ?_
    refine JS.region ?_
    refine JO.reg ttOk 1 [] [] [] _ rfl ⟨trivial, rfl⟩ ?_
    refine JO.done rfl ?_
    refine JS.seq ?_
    refine JS.seq ?_
    refine JS.region ?_
    refine JO.reg ttOk 3 [] [] [(9, .v (.bool (decide (1048576 < (x0.length : Int)))))] _ rfl ⟨⟨rfl, trivial⟩, rfl⟩ ?_
    refine JO.done rfl ?_
    refine JS.cond rfl (fun ht12 => ?_) (fun ht12 => ?_)
    · have h := condT h ht12
      refine JS.seq ?_
      refine JS.region ?_
      refine JO.reg ttOk 1 [] [] [(4, .v (.bool true))] _ rfl ⟨⟨rfl, trivial⟩, rfl⟩ ?_
      refine JO.done rfl ?_
      cases h
      exact JS.ret ttOk () trivial rfl rfl [] rfl
    · have h := condF h ht12
      refine JS.skip ?_
      refine JS.seq ?_
      refine JS.region ?_
      refine JO.reg ttOk 2 [] [] [(10, .v (.string (bs x0))), (11, .v (.int .i64 x1))] _ rfl ⟨⟨rfl, rfl, trivial⟩, rfl⟩ ?_
      obtain ⟨y3, hy9, h⟩ := bindO_some h
      refine JO.call rfl rfl rfl rfl (ok_s_SkipTick x0 x1 _ hy9) rfl [] rfl rfl ?_
      intro _ _
      refine JO.reg ttOk 1 [] [] [(5, .v (.int .i64 y3))] _ rfl ⟨⟨rfl, trivial⟩, rfl⟩ ?_
      refine JO.done rfl ?_
      refine JS.seq ?_
      refine JS.region ?_
      refine JO.reg ttOk 2 [] [] [(13, .v (.string (bs x0))), (14, .v (.int .i64 x1))] _ rfl ⟨⟨rfl, rfl, trivial⟩, rfl⟩ ?_
      obtain ⟨y5, hy10, h⟩ := bindO_some h
      refine JO.call rfl rfl rfl rfl (ok_i_SkipTick x0 x1 _ hy10) rfl [] rfl rfl ?_
      intro _ _
      refine JO.reg ttOk 1 [] [] [(6, .v (.int .i64 y5))] _ rfl ⟨⟨rfl, trivial⟩, rfl⟩ ?_
      refine JO.done rfl ?_
      refine JS.seq ?_
      refine JS.seq ?_
      refine JS.region ?_
      refine JO.reg ttOk 3 [] [] [(18, .v (.bool (!(decide (y5 = y3)))))] _ rfl ⟨⟨rfl, trivial⟩, rfl⟩ ?_
      refine JO.done rfl ?_
      refine JS.cond rfl (fun ht11 => ?_) (fun ht11 => ?_)
      · have h := condT h ht11
        refine JS.seq ?_
        refine JS.region ?_
        refine JO.reg ttOk 1 [] [] [(4, .v (.bool false))] _ rfl ⟨⟨rfl, trivial⟩, rfl⟩ ?_
        refine JO.done rfl ?_
        cases h
        exact JS.ret ttOk () trivial rfl rfl [] rfl
      · have h := condF h ht11
        refine JS.skip ?_
        refine JS.seq ?_
        refine JS.region ?_
        refine JO.reg ttOk 1 [] [] [(4, .v (.bool true))] _ rfl ⟨⟨rfl, trivial⟩, rfl⟩ ?_
        refine JO.done rfl ?_
        cases h
        exact JS.ret ttOk () trivial rfl rfl [] rfl

end Go.Eng
