/- The walks of the functions that FnExactSkipSum reaches: what each computes, as a plain function (M_..), and that the model computes it (ok_..). Condition of each: that the plain function answers. -/
import Derived.Test.YtfpkjlgpjhlbbaaEngA
import Derived.Test.YtfpkjlgpjhlbbaaChecked
set_option linter.unusedVariables false
set_option linter.unusedSimpArgs false
namespace Go.Eng
open Go Go.Proofs

def TTx : TT := [
  (2, ⟨.int .i64, 1, 8, [.int .i64 0]⟩),
  (3, ⟨.int .i64, 1, 8, [.int .i64 0]⟩),
  (4, ⟨.bool, 1, 1, [.bool false]⟩),
  (5, ⟨.int .u8, 1, 1, [.int .u8 0]⟩),
  (6, ⟨.int .u8, 1, 1, [.int .u8 0]⟩),
  (7, ⟨.struct [(0, 2), (1, 3), (2, 4), (3, 6)], 4, 24, [.int .i64 0, .int .i64 0, .bool false, .int .u8 0]⟩),
  (8, ⟨.struct [(0, 2), (1, 3), (2, 4), (3, 6)], 4, 24, [.int .i64 0, .int .i64 0, .bool false, .int .u8 0]⟩),
  (9, ⟨.str, 1, 16, [.string ByteArray.empty]⟩),
  (10, ⟨.str, 1, 16, [.string ByteArray.empty]⟩),
  (11, ⟨.str, 1, 16, [.string ByteArray.empty]⟩),
  (12, ⟨.int .u64, 1, 8, [.int .u64 0]⟩),
  (13, ⟨.struct [(0, 9), (1, 12)], 2, 24, [.string ByteArray.empty, .int .u64 0]⟩),
  (14, ⟨.struct [(0, 9), (1, 12)], 2, 24, [.string ByteArray.empty, .int .u64 0]⟩),
  (21, ⟨.int .i32, 1, 4, [.int .i32 0]⟩),
  (29, ⟨.struct [(0, 3), (1, 3), (2, 9), (3, 3)], 4, 40, [.int .i64 0, .int .i64 0, .string ByteArray.empty, .int .i64 0]⟩),
  (30, ⟨.struct [(0, 3), (1, 3), (2, 9), (3, 3)], 4, 40, [.int .i64 0, .int .i64 0, .string ByteArray.empty, .int .i64 0]⟩),
  (34, ⟨.slice 3, 1, 24, [.slice none 0 0]⟩),
  (52, ⟨.int .u32, 1, 4, [.int .u32 0]⟩),
  (53, ⟨.int .u8, 1, 1, [.int .u8 0]⟩),
  (54, ⟨.int .u8, 1, 1, [.int .u8 0]⟩),
  (57, ⟨.int .i32, 1, 4, [.int .i32 0]⟩),
  (58, ⟨.int .i32, 1, 4, [.int .i32 0]⟩)]

theorem ttOk : TTok Try.prog TTx := TTok.of (by
  simp only [TTx, List.forall_mem_cons]
  exact ⟨⟨⟨_, _, rfl, rfl, rfl, rfl, rfl⟩, rfl⟩, ⟨⟨_, _, rfl, rfl, rfl, rfl, rfl⟩, rfl⟩, ⟨⟨_, _, rfl, rfl, rfl, rfl, rfl⟩, rfl⟩, ⟨⟨_, _, rfl, rfl, rfl, rfl, rfl⟩, rfl⟩, ⟨⟨_, _, rfl, rfl, rfl, rfl, rfl⟩, rfl⟩, ⟨⟨_, _, rfl, rfl, rfl, rfl, rfl⟩, ⟨_, rfl, rfl⟩⟩, ⟨⟨_, _, rfl, rfl, rfl, rfl, rfl⟩, ⟨_, rfl, rfl⟩⟩, ⟨⟨_, _, rfl, rfl, rfl, rfl, rfl⟩, rfl⟩, ⟨⟨_, _, rfl, rfl, rfl, rfl, rfl⟩, rfl⟩, ⟨⟨_, _, rfl, rfl, rfl, rfl, rfl⟩, rfl⟩, ⟨⟨_, _, rfl, rfl, rfl, rfl, rfl⟩, rfl⟩, ⟨⟨_, _, rfl, rfl, rfl, rfl, rfl⟩, ⟨_, rfl, rfl⟩⟩, ⟨⟨_, _, rfl, rfl, rfl, rfl, rfl⟩, ⟨_, rfl, rfl⟩⟩, ⟨⟨_, _, rfl, rfl, rfl, rfl, rfl⟩, rfl⟩, ⟨⟨_, _, rfl, rfl, rfl, rfl, rfl⟩, ⟨_, rfl, rfl⟩⟩, ⟨⟨_, _, rfl, rfl, rfl, rfl, rfl⟩, ⟨_, rfl, rfl⟩⟩, ⟨⟨_, _, rfl, rfl, rfl, rfl, rfl⟩, rfl⟩, ⟨⟨_, _, rfl, rfl, rfl, rfl, rfl⟩, rfl⟩, ⟨⟨_, _, rfl, rfl, rfl, rfl, rfl⟩, rfl⟩, ⟨⟨_, _, rfl, rfl, rfl, rfl, rfl⟩, rfl⟩, ⟨⟨_, _, rfl, rfl, rfl, rfl, rfl⟩, rfl⟩, ⟨⟨_, _, rfl, rfl, rfl, rfl, rfl⟩, rfl⟩, by simp⟩)

def M_s_l08Clamp (x0 : Int) (x1 : Int) : Option Int :=
  (bif (decide (x0 < 0)) then
  some 0
  else
  (bif (decide (x1 < x0)) then
  some x1
  else
  some x0))

theorem ok_s_l08Clamp (x0 : Int) (x1 : Int) (r : Int) (h : M_s_l08Clamp x0 x1 = some r) :
    FC Try.prog 30 [.int .i64 x0, .int .i64 x1] [] (fun _ : Unit => True) (fun _ => .int .i64 r) (fun _ => []) :=
  FC.of (T := TTx) Try.call30 Try.func30 rfl rfl fun w0 => by
    unfold M_s_l08Clamp at h
    refine JS.seq ?_
    refine JS.region ?_
    refine JO.reg ttOk 1 [] [] [] _ rfl ⟨trivial, rfl⟩ ?_
    refine JO.done rfl ?_
    refine JS.seq ?_
    refine JS.seq ?_
    refine JS.region ?_
    refine JO.reg ttOk 2 [] [] [(6, .v (.bool (decide (x0 < 0))))] _ rfl ⟨⟨rfl, trivial⟩, rfl⟩ ?_
    refine JO.done rfl ?_
    refine JS.cond rfl (fun ht6 => ?_) (fun ht6 => ?_)
    · have h := condT h ht6
      refine JS.seq ?_
      refine JS.region ?_
      refine JO.reg ttOk 1 [] [] [(4, .v (.int .i64 0))] _ rfl ⟨⟨rfl, trivial⟩, rfl⟩ ?_
      refine JO.done rfl ?_
      cases h
      exact JS.ret ttOk () trivial rfl rfl [] rfl
    · have h := condF h ht6
      refine JS.skip ?_
      refine JS.seq ?_
      refine JS.seq ?_
      refine JS.region ?_
      refine JO.reg ttOk 3 [] [] [(9, .v (.bool (decide (x1 < x0))))] _ rfl ⟨⟨rfl, trivial⟩, rfl⟩ ?_
      refine JO.done rfl ?_
      refine JS.cond rfl (fun ht5 => ?_) (fun ht5 => ?_)
      · have h := condT h ht5
        refine JS.seq ?_
        refine JS.region ?_
        refine JO.reg ttOk 2 [] [] [(4, .v (.int .i64 x1))] _ rfl ⟨⟨rfl, trivial⟩, rfl⟩ ?_
        refine JO.done rfl ?_
        cases h
        exact JS.ret ttOk () trivial rfl rfl [] rfl
      · have h := condF h ht5
        refine JS.skip ?_
        refine JS.seq ?_
        refine JS.region ?_
        refine JO.reg ttOk 2 [] [] [(4, .v (.int .i64 x0))] _ rfl ⟨⟨rfl, trivial⟩, rfl⟩ ?_
        refine JO.done rfl ?_
        cases h
        exact JS.ret ttOk () trivial rfl rfl [] rfl

def M_s_SkipSum_L1 (x0 : List UInt8) (j59 : Int → Option (Int × Int)) (k42 : (Int × Int) → Option (Int × Int)) : (Int × Int) → Option (Int × Int) := fun (x5, x6) =>
  (bif (decide (x6 < (x0.length : Int))) then
  (joinO (fun (x26 : Int) =>
  k42 (x26, (W (x6 + 1)))) fun j27 =>
  (guardO (0 ≤ x6 ∧ x6 < (x0.length : Int)) <|
  (joinO (fun (x10 : UInt8) =>
  (bif (bif (bif (bif (bif (decide (((at' x0 x6).toNat : Int) = (39 : Int))) then true else (decide (((at' x0 x6).toNat : Int) = (34 : Int)))) then true else (decide (((at' x0 x6).toNat : Int) = (92 : Int)))) then true else (decide (((at' x0 x6).toNat : Int) = (96 : Int)))) then true else (bif (decide (((at' x0 x6).toNat : Int) = (36 : Int))) then (bif (decide ((x10.toNat : Int) = (40 : Int))) then true else (decide ((x10.toNat : Int) = (123 : Int)))) else false)) then
  some ((-2), x6)
  else
  (joinO (fun (x15 : Int) =>
  (bif (bif (decide (((at' x0 x6).toNat : Int) = (41 : Int))) then (decide (0 < x15)) else false) then
  j27 (W (x15 - 1))
  else
  (bif (bif (decide (((at' x0 x6).toNat : Int) = (41 : Int))) then (decide ((W (x6 + 1)) = (x0.length : Int))) else false) then
  some ((-1), 1)
  else
  (bif (bif (decide (((at' x0 x6).toNat : Int) = (41 : Int))) then (!(decide ((x10.toNat : Int) = (41 : Int)))) else false) then
  some ((-2), x6)
  else
  (bif (decide (((at' x0 x6).toNat : Int) = (41 : Int))) then
  some ((W (x6 + 2)), 0)
  else
  j27 x15))))) fun j16 =>
  (bif (decide (((at' x0 x6).toNat : Int) = (40 : Int))) then
  j16 (W (x5 + 1))
  else
  j16 x5)))) fun j11 =>
  (bif (decide ((W (x6 + 1)) < (x0.length : Int))) then
  (guardO (0 ≤ (W (x6 + 1)) ∧ (W (x6 + 1)) < (x0.length : Int)) <|
  j11 (at' x0 (W (x6 + 1))))
  else
  j11 (0 : UInt8)))))
  else
  j59 x5)

def M_s_SkipSum (x0 : List UInt8) (x1 : Int) : Option (Int × Int) :=
  (bindO (M_s_l08Clamp x1 (x0.length : Int)) fun (y3 : Int) =>
  (joinO (fun (x58 : Int) =>
  some ((-1), (W (x58 + 2)))) fun j59 =>
  (fixF (M_s_SkipSum_L1 x0 j59) FUEL (0, y3))))

theorem ok_s_SkipSum (x0 : List UInt8) (x1 : Int) (r : Int × Int) (h : M_s_SkipSum x0 x1 = some r) :
    FC Try.prog 18 [.string (bs x0), .int .i64 x1] [] (fun _ : Unit => True) (fun _ => .tuple #[.int .i64 r.1, .int .i64 r.2]) (fun _ => []) :=
  FC.of (T := TTx) Try.call18 Try.func18 rfl rfl fun w0 => by
    unfold M_s_SkipSum at h
    refine JS.seq ?_
    refine JS.region ?_
    refine JO.reg ttOk 2 [] [] [] _ rfl ⟨trivial, rfl⟩ ?_
    refine JO.done rfl ?_
    refine JS.seq ?_
    refine JS.region ?_
    refine JO.reg ttOk 1 [] [] [(6, .v (.int .i64 0))] _ rfl ⟨⟨rfl, trivial⟩, rfl⟩ ?_
    refine JO.done rfl ?_
    refine JS.seq ?_
    refine JS.seq ?_
    refine JS.region ?_
    refine JO.reg ttOk 3 [] [] [(10, .v (.int .i64 x1)), (12, .v (.int .i64 (x0.length : Int)))] _ rfl ⟨⟨rfl, rfl, trivial⟩, rfl⟩ ?_
    obtain ⟨y3, hy75, h⟩ := bindO_some h
    refine JO.call rfl rfl rfl rfl (ok_s_l08Clamp x1 (x0.length : Int) _ hy75) rfl [] rfl rfl ?_
    intro _ _
    refine JO.reg ttOk 1 [] [] [(7, .v (.int .i64 y3))] _ rfl ⟨⟨rfl, trivial⟩, rfl⟩ ?_
    refine JO.done rfl ?_
    obtain ⟨j59, hj90, h⟩ := joinO_some h
    refine JS.blockJ (ι := Int) ⟨fun z => j59 z = some r, fun z => [(6, .v (.int .i64 z))], fun z => .nil, fun z => [], fun z => [], fun z => 0⟩ ?_ ?_
    · refine JS.loop (ι := Nat × Int × Int) ⟨fun z => fixF (M_s_SkipSum_L1 x0 j59) z.1 (z.2.1, z.2.2) = some r, fun z => [(0, .v (.string (bs x0))), (6, .v (.int .i64 z.2.1)), (7, .v (.int .i64 z.2.2))], fun z => .nil, fun z => [], fun z => [], fun z => z.1⟩ (FUEL, 0, y3) h ⟨rfl, rfl, rfl, trivial⟩ trivial [] rfl [] rfl ?_
      rintro ⟨n43, x5, x6⟩ h
      obtain ⟨n43, rfl, h⟩ := fixF_some h
      rw [M_s_SkipSum_L1] at h
      refine JS.seq ?_
      refine JS.seq ?_
      refine JS.region ?_
      refine JO.reg ttOk 4 [] [] [(17, .v (.bool (decide (x6 < (x0.length : Int)))))] _ rfl ⟨⟨rfl, trivial⟩, rfl⟩ ?_
      refine JO.done rfl ?_
      refine JS.cond rfl (fun ht89 => ?_) (fun ht89 => ?_)
      · have h := condT h ht89
        refine JS.skip ?_
        refine JS.seq ?_
        obtain ⟨j27, hj88, h⟩ := joinO_some h
        refine JS.blockJ (ι := Int) ⟨fun z => j27 z = some r, fun z => [(0, .v (.string (bs x0))), (6, .v (.int .i64 z)), (7, .v (.int .i64 x6))], fun z => .nil, fun z => [], fun z => [], fun z => 0⟩ ?_ ?_
        · refine JS.seq ?_
          refine JS.region ?_
          obtain ⟨g76, h⟩ := guardO_some h
          refine JO.reg ttOk 4 [] [] [(8, .v (.int .u8 ((at' x0 x6).toNat : Int)))] _ rfl ⟨g76, ⟨rfl, trivial⟩, rfl⟩ ?_
          refine JO.done rfl ?_
          refine JS.seq ?_
          refine JS.region ?_
          refine JO.reg ttOk 1 [] [] [(9, .v (.int .u8 (0 : Int)))] _ rfl ⟨⟨rfl, trivial⟩, rfl⟩ ?_
          refine JO.done rfl ?_
          obtain ⟨j11, hj87, h⟩ := joinO_some h
          refine JS.seqJ (ι := UInt8) ⟨fun z => j11 z = some r, fun z => [(0, .v (.string (bs x0))), (6, .v (.int .i64 x5)), (7, .v (.int .i64 x6)), (8, .v (.int .u8 ((at' x0 x6).toNat : Int))), (9, .v (.int .u8 (z.toNat : Int)))], fun z => .nil, fun z => [], fun z => [], fun z => 0⟩ ?_ ?_
          · refine JS.seq ?_
            refine JS.region ?_
            refine JO.reg ttOk 5 [(W (x6 + 1))] [] [(27, .v (.bool (decide ((W (x6 + 1)) < (x0.length : Int)))))] _ rfl ⟨⟨trivial, rfl⟩, ⟨rfl, trivial⟩, rfl⟩ ?_
            refine JO.done rfl ?_
            refine JS.cond rfl (fun ht78 => ?_) (fun ht78 => ?_)
            · have h := condT h ht78
              refine JS.region ?_
              obtain ⟨g77, h⟩ := guardO_some h
              refine JO.reg ttOk 5 [(W (x6 + 1))] [] [(9, .v (.int .u8 ((at' x0 (W (x6 + 1))).toNat : Int)))] _ rfl ⟨⟨trivial, rfl⟩, g77, ⟨rfl, trivial⟩, rfl⟩ ?_
              refine JO.done rfl ?_
              exact JS.endJ (at' x0 (W (x6 + 1))) h ⟨rfl, rfl, rfl, rfl, rfl, trivial⟩ trivial [] rfl [] rfl
            · have h := condF h ht78
              refine JS.skip ?_
              exact JS.endJ (0 : UInt8) h ⟨rfl, rfl, rfl, rfl, rfl, trivial⟩ trivial [] rfl [] rfl
          · rintro x10 h
            subst hj87
            refine JS.seq ?_
            refine JS.seq ?_
            refine JS.region ?_
            refine JO.reg ttOk 26 [] [] [(57, .v (.bool (bif (bif (bif (bif (decide (((at' x0 x6).toNat : Int) = (39 : Int))) then true else (decide (((at' x0 x6).toNat : Int) = (34 : Int)))) then true else (decide (((at' x0 x6).toNat : Int) = (92 : Int)))) then true else (decide (((at' x0 x6).toNat : Int) = (96 : Int)))) then true else (bif (decide (((at' x0 x6).toNat : Int) = (36 : Int))) then (bif (decide ((x10.toNat : Int) = (40 : Int))) then true else (decide ((x10.toNat : Int) = (123 : Int)))) else false))))] _ rfl ⟨⟨rfl, trivial⟩, rfl⟩ ?_
            refine JO.done rfl ?_
            refine JS.cond rfl (fun ht86 => ?_) (fun ht86 => ?_)
            · have h := condT h ht86
              refine JS.seq ?_
              refine JS.region ?_
              refine JO.reg ttOk 3 [] [] [(4, .v (.int .i64 (-2))), (5, .v (.int .i64 x6))] _ rfl ⟨⟨rfl, rfl, trivial⟩, rfl⟩ ?_
              refine JO.done rfl ?_
              cases h
              exact JS.ret ttOk () trivial rfl rfl [] rfl
            · have h := condF h ht86
              refine JS.skip ?_
              obtain ⟨j16, hj85, h⟩ := joinO_some h
              refine JS.seqJ (ι := Int) ⟨fun z => j16 z = some r, fun z => [(0, .v (.string (bs x0))), (6, .v (.int .i64 z)), (7, .v (.int .i64 x6)), (8, .v (.int .u8 ((at' x0 x6).toNat : Int))), (9, .v (.int .u8 (x10.toNat : Int)))], fun z => .nil, fun z => [], fun z => [], fun z => 0⟩ ?_ ?_
              · refine JS.seq ?_
                refine JS.region ?_
                refine JO.reg ttOk 2 [] [] [(60, .v (.bool (decide (((at' x0 x6).toNat : Int) = (40 : Int)))))] _ rfl ⟨⟨rfl, trivial⟩, rfl⟩ ?_
                refine JO.done rfl ?_
                refine JS.cond rfl (fun ht79 => ?_) (fun ht79 => ?_)
                · have h := condT h ht79
                  refine JS.region ?_
                  refine JO.reg ttOk 3 [(W (x5 + 1))] [] [(6, .v (.int .i64 (W (x5 + 1))))] _ rfl ⟨⟨trivial, rfl⟩, ⟨rfl, trivial⟩, rfl⟩ ?_
                  refine JO.done rfl ?_
                  exact JS.endJ (W (x5 + 1)) h ⟨rfl, rfl, rfl, rfl, rfl, trivial⟩ trivial [] rfl [] rfl
                · have h := condF h ht79
                  refine JS.skip ?_
                  exact JS.endJ x5 h ⟨rfl, rfl, rfl, rfl, rfl, trivial⟩ trivial [] rfl [] rfl
              · rintro x15 h
                subst hj85
                refine JS.seq ?_
                refine JS.seq ?_
                refine JS.region ?_
                refine JO.reg ttOk 6 [] [] [(68, .v (.bool (bif (decide (((at' x0 x6).toNat : Int) = (41 : Int))) then (decide (0 < x15)) else false)))] _ rfl ⟨⟨rfl, trivial⟩, rfl⟩ ?_
                refine JO.done rfl ?_
                refine JS.cond rfl (fun ht84 => ?_) (fun ht84 => ?_)
                · have h := condT h ht84
                  refine JS.seq ?_
                  refine JS.region ?_
                  refine JO.reg ttOk 3 [(W (x15 - 1))] [] [(6, .v (.int .i64 (W (x15 - 1))))] _ rfl ⟨⟨trivial, rfl⟩, ⟨rfl, trivial⟩, rfl⟩ ?_
                  refine JO.done rfl ?_
                  refine JS.exit rfl ?_
                  exact JS.endJ (W (x15 - 1)) h ⟨rfl, rfl, rfl, trivial⟩ trivial [] rfl [] rfl
                · have h := condF h ht84
                  refine JS.skip ?_
                  refine JS.seq ?_
                  refine JS.seq ?_
                  refine JS.region ?_
                  refine JO.reg ttOk 9 [(W (x6 + 1))] [] [(79, .v (.bool (bif (decide (((at' x0 x6).toNat : Int) = (41 : Int))) then (decide ((W (x6 + 1)) = (x0.length : Int))) else false)))] _ rfl ⟨(fun q80 => ⟨trivial, rfl⟩), ⟨rfl, trivial⟩, rfl⟩ ?_
                  refine JO.done rfl ?_
                  refine JS.cond rfl (fun ht83 => ?_) (fun ht83 => ?_)
                  · have h := condT h ht83
                    refine JS.seq ?_
                    refine JS.region ?_
                    refine JO.reg ttOk 2 [] [] [(4, .v (.int .i64 (-1))), (5, .v (.int .i64 1))] _ rfl ⟨⟨rfl, rfl, trivial⟩, rfl⟩ ?_
                    refine JO.done rfl ?_
                    cases h
                    exact JS.ret ttOk () trivial rfl rfl [] rfl
                  · have h := condF h ht83
                    refine JS.skip ?_
                    refine JS.seq ?_
                    refine JS.seq ?_
                    refine JS.region ?_
                    refine JO.reg ttOk 6 [] [] [(85, .v (.bool (bif (decide (((at' x0 x6).toNat : Int) = (41 : Int))) then (!(decide ((x10.toNat : Int) = (41 : Int)))) else false)))] _ rfl ⟨⟨rfl, trivial⟩, rfl⟩ ?_
                    refine JO.done rfl ?_
                    refine JS.cond rfl (fun ht82 => ?_) (fun ht82 => ?_)
                    · have h := condT h ht82
                      refine JS.seq ?_
                      refine JS.region ?_
                      refine JO.reg ttOk 3 [] [] [(4, .v (.int .i64 (-2))), (5, .v (.int .i64 x6))] _ rfl ⟨⟨rfl, rfl, trivial⟩, rfl⟩ ?_
                      refine JO.done rfl ?_
                      cases h
                      exact JS.ret ttOk () trivial rfl rfl [] rfl
                    · have h := condF h ht82
                      refine JS.skip ?_
                      refine JS.seq ?_
                      refine JS.region ?_
                      refine JO.reg ttOk 2 [] [] [(88, .v (.bool (decide (((at' x0 x6).toNat : Int) = (41 : Int)))))] _ rfl ⟨⟨rfl, trivial⟩, rfl⟩ ?_
                      refine JO.done rfl ?_
                      refine JS.cond rfl (fun ht81 => ?_) (fun ht81 => ?_)
                      · have h := condT h ht81
                        refine JS.seq ?_
                        refine JS.region ?_
                        refine JO.reg ttOk 4 [(W (x6 + 2))] [] [(4, .v (.int .i64 (W (x6 + 2)))), (5, .v (.int .i64 0))] _ rfl ⟨⟨trivial, rfl⟩, ⟨rfl, rfl, trivial⟩, rfl⟩ ?_
                        refine JO.done rfl ?_
                        cases h
                        exact JS.ret ttOk () trivial rfl rfl [] rfl
                      · have h := condF h ht81
                        refine JS.skip ?_
                        refine JS.endB ?_
                        exact JS.endJ x15 h ⟨rfl, rfl, rfl, trivial⟩ trivial [] rfl [] rfl
        · rintro x26 h
          subst hj88
          refine JS.region ?_
          refine JO.reg ttOk 3 [(W (x6 + 1))] [] [(7, .v (.int .i64 (W (x6 + 1))))] _ rfl ⟨⟨trivial, rfl⟩, ⟨rfl, trivial⟩, rfl⟩ ?_
          refine JO.done rfl ?_
          exact JS.endL (n43, x26, (W (x6 + 1))) h (Nat.lt_succ_self _) ⟨rfl, rfl, rfl, trivial⟩ trivial [] rfl [] rfl
      · have h := condF h ht89
        refine JS.exit rfl ?_
        exact JS.endJ x5 h ⟨rfl, trivial⟩ trivial [] rfl [] rfl
    · rintro x58 h
      subst hj90
      refine JS.seq ?_
      refine JS.region ?_
      refine JO.reg ttOk 4 [(W (x58 + 2))] [] [(4, .v (.int .i64 (-1))), (5, .v (.int .i64 (W (x58 + 2))))] _ rfl ⟨⟨trivial, rfl⟩, ⟨rfl, rfl, trivial⟩, rfl⟩ ?_
      refine JO.done rfl ?_
      cases h
      exact JS.ret ttOk () trivial rfl rfl [] rfl

def M_i_within (x0 : Int) (x1 : Int) : Option Int :=
  some (max (0 : Int) (min x0 x1))

theorem ok_i_within (x0 : Int) (x1 : Int) (r : Int) (h : M_i_within x0 x1 = some r) :
    FC Try.prog 31 [.int .i64 x0, .int .i64 x1] [] (fun _ : Unit => True) (fun _ => .int .i64 r) (fun _ => []) :=
  FC.of (T := TTx) Try.call31 Try.func31 rfl rfl fun w0 => by
    unfold M_i_within at h
    refine JS.seq ?_
    refine JS.region ?_
    refine JO.reg ttOk 1 [] [] [] _ rfl ⟨trivial, rfl⟩ ?_
    refine JO.done rfl ?_
    refine JS.seq ?_
    refine JS.region ?_
    refine JO.reg ttOk 5 [] [] [(4, .v (.int .i64 (max (0 : Int) (min x0 x1))))] _ rfl ⟨⟨rfl, trivial⟩, rfl⟩ ?_
    refine JO.done rfl ?_
    cases h
    exact JS.ret ttOk () trivial rfl rfl [] rfl

def M_i_SkipSum_L1 (x0 : List UInt8) (j86 : Int → Option (Int × Int)) (k59 : (Int × Int) → Option (Int × Int)) : (Int × Int) → Option (Int × Int) := fun (x5, x6) =>
  (bif (decide (x6 < (x0.length : Int))) then
  (guardO (0 ≤ x6 ∧ x6 < (x0.length : Int)) <|
  (joinO (fun (x34 : Int) =>
  k59 (x34, (W (x6 + 1)))) fun j35 =>
  (bif (decide (((at' x0 x6).toNat : Int) = (40 : Int))) then
  j35 (W (x5 + 1))
  else
  (bif (decide (((at' x0 x6).toNat : Int) = (41 : Int))) then
  (bif (decide (0 < x5)) then
  j35 (W (x5 - 1))
  else
  (bif (decide ((W (x6 + 1)) = (x0.length : Int))) then
  some ((-1), 1)
  else
  (guardO (0 ≤ (W (x6 + 1)) ∧ (W (x6 + 1)) < (x0.length : Int)) <|
  (bif (decide (((at' x0 (W (x6 + 1))).toNat : Int) = (41 : Int))) then
  some ((W (x6 + 2)), 0)
  else
  some ((-2), x6)))))
  else
  (joinO (fun (x15 : Bool) =>
  (bif x15 then
  some ((-2), x6)
  else
  (bif (decide (((at' x0 x6).toNat : Int) = (36 : Int))) then
  (guardO (((decide ((W (x6 + 1)) < (x0.length : Int))) = true) → 0 ≤ (W (x6 + 1)) ∧ (W (x6 + 1)) < (x0.length : Int)) <|
  (guardO (((decide (((at' x0 (W (x6 + 1))).toNat : Int) = (40 : Int))) = false) → ((decide ((W (x6 + 1)) < (x0.length : Int))) = true) → 0 ≤ (W (x6 + 1)) ∧ (W (x6 + 1)) < (x0.length : Int)) <|
  (bif (bif (decide ((W (x6 + 1)) < (x0.length : Int))) then (bif (decide (((at' x0 (W (x6 + 1))).toNat : Int) = (40 : Int))) then true else (decide (((at' x0 (W (x6 + 1))).toNat : Int) = (123 : Int)))) else false) then
  some ((-2), x6)
  else
  j35 x5)))
  else
  j35 x5))) fun j16 =>
  (bif (decide (((at' x0 x6).toNat : Int) = (39 : Int))) then
  j16 (decide (((at' x0 x6).toNat : Int) = (39 : Int)))
  else
  (bif (decide (((at' x0 x6).toNat : Int) = (34 : Int))) then
  j16 (decide (((at' x0 x6).toNat : Int) = (34 : Int)))
  else
  (bif (decide (((at' x0 x6).toNat : Int) = (92 : Int))) then
  j16 (decide (((at' x0 x6).toNat : Int) = (92 : Int)))
  else
  j16 (decide (((at' x0 x6).toNat : Int) = (96 : Int)))))))))))
  else
  j86 x5)

def M_i_SkipSum (x0 : List UInt8) (x1 : Int) : Option (Int × Int) :=
  (bindO (M_i_within x1 (x0.length : Int)) fun (y3 : Int) =>
  (joinO (fun (x85 : Int) =>
  some ((-1), (W (x85 + 2)))) fun j86 =>
  (fixF (M_i_SkipSum_L1 x0 j86) FUEL (0, y3))))

theorem ok_i_SkipSum (x0 : List UInt8) (x1 : Int) (r : Int × Int) (h : M_i_SkipSum x0 x1 = some r) :
    FC Try.prog 19 [.string (bs x0), .int .i64 x1] [] (fun _ : Unit => True) (fun _ => .tuple #[.int .i64 r.1, .int .i64 r.2]) (fun _ => []) :=
  FC.of (T := TTx) Try.call19 Try.func19 rfl rfl fun w0 => by
    unfold M_i_SkipSum at h
    refine JS.seq ?_
    refine JS.region ?_
    refine JO.reg ttOk 2 [] [] [] _ rfl ⟨trivial, rfl⟩ ?_
    refine JO.done rfl ?_
    refine JS.seq ?_
    refine JS.region ?_
    refine JO.reg ttOk 1 [] [] [(6, .v (.int .i64 0))] _ rfl ⟨⟨rfl, trivial⟩, rfl⟩ ?_
    refine JO.done rfl ?_
    refine JS.seq ?_
    refine JS.seq ?_
    refine JS.region ?_
    refine JO.reg ttOk 3 [] [] [(8, .v (.int .i64 x1)), (10, .v (.int .i64 (x0.length : Int)))] _ rfl ⟨⟨rfl, rfl, trivial⟩, rfl⟩ ?_
    obtain ⟨y3, hy112, h⟩ := bindO_some h
    refine JO.call rfl rfl rfl rfl (ok_i_within x1 (x0.length : Int) _ hy112) rfl [] rfl rfl ?_
    intro _ _
    refine JO.reg ttOk 1 [] [] [(7, .v (.int .i64 y3))] _ rfl ⟨⟨rfl, trivial⟩, rfl⟩ ?_
    refine JO.done rfl ?_
    obtain ⟨j86, hj137, h⟩ := joinO_some h
    refine JS.blockJ (ι := Int) ⟨fun z => j86 z = some r, fun z => [(6, .v (.int .i64 z))], fun z => .nil, fun z => [], fun z => [], fun z => 0⟩ ?_ ?_
    · refine JS.loop (ι := Nat × Int × Int) ⟨fun z => fixF (M_i_SkipSum_L1 x0 j86) z.1 (z.2.1, z.2.2) = some r, fun z => [(0, .v (.string (bs x0))), (6, .v (.int .i64 z.2.1)), (7, .v (.int .i64 z.2.2))], fun z => .nil, fun z => [], fun z => [], fun z => z.1⟩ (FUEL, 0, y3) h ⟨rfl, rfl, rfl, trivial⟩ trivial [] rfl [] rfl ?_
      rintro ⟨n60, x5, x6⟩ h
      obtain ⟨n60, rfl, h⟩ := fixF_some h
      rw [M_i_SkipSum_L1] at h
      refine JS.seq ?_
      refine JS.seq ?_
      refine JS.region ?_
      refine JO.reg ttOk 4 [] [] [(15, .v (.bool (decide (x6 < (x0.length : Int)))))] _ rfl ⟨⟨rfl, trivial⟩, rfl⟩ ?_
      refine JO.done rfl ?_
      refine JS.cond rfl (fun ht136 => ?_) (fun ht136 => ?_)
      · have h := condT h ht136
        refine JS.skip ?_
        refine JS.seq ?_
        refine JS.block ?_
        refine JS.seq ?_
        refine JS.region ?_
        obtain ⟨g113, h⟩ := guardO_some h
        refine JO.reg ttOk 3 [] [] [(20, .v (.int .u8 ((at' x0 x6).toNat : Int)))] _ rfl ⟨g113, ⟨rfl, trivial⟩, rfl⟩ ?_
        refine JO.done rfl ?_
        obtain ⟨j35, hj135, h⟩ := joinO_some h
        refine JS.blockJ (ι := Int) ⟨fun z => j35 z = some r, fun z => [(0, .v (.string (bs x0))), (6, .v (.int .i64 z)), (7, .v (.int .i64 x6))], fun z => .nil, fun z => [], fun z => [], fun z => 0⟩ ?_ ?_
        · refine JS.seq ?_
          refine JS.region ?_
          refine JO.reg ttOk 2 [] [] [(21, .v (.bool (decide (((at' x0 x6).toNat : Int) = (40 : Int)))))] _ rfl ⟨⟨rfl, trivial⟩, rfl⟩ ?_
          refine JO.done rfl ?_
          refine JS.cond rfl (fun ht134 => ?_) (fun ht134 => ?_)
          · have h := condT h ht134
            refine JS.region ?_
            refine JO.reg ttOk 3 [(W (x5 + 1))] [] [(6, .v (.int .i64 (W (x5 + 1))))] _ rfl ⟨⟨trivial, rfl⟩, ⟨rfl, trivial⟩, rfl⟩ ?_
            refine JO.done rfl ?_
            refine JS.endB ?_
            exact JS.endJ (W (x5 + 1)) h ⟨rfl, rfl, rfl, trivial⟩ trivial [] rfl [] rfl
          · have h := condF h ht134
            refine JS.seq ?_
            refine JS.region ?_
            refine JO.reg ttOk 2 [] [] [(25, .v (.bool (decide (((at' x0 x6).toNat : Int) = (41 : Int)))))] _ rfl ⟨⟨rfl, trivial⟩, rfl⟩ ?_
            refine JO.done rfl ?_
            refine JS.cond rfl (fun ht133 => ?_) (fun ht133 => ?_)
            · have h := condT h ht133
              refine JS.block ?_
              refine JS.seq ?_
              refine JS.region ?_
              refine JO.reg ttOk 3 [] [] [(28, .v (.bool (decide (0 < x5))))] _ rfl ⟨⟨rfl, trivial⟩, rfl⟩ ?_
              refine JO.done rfl ?_
              refine JS.cond rfl (fun ht117 => ?_) (fun ht117 => ?_)
              · have h := condT h ht117
                refine JS.region ?_
                refine JO.reg ttOk 3 [(W (x5 - 1))] [] [(6, .v (.int .i64 (W (x5 - 1))))] _ rfl ⟨⟨trivial, rfl⟩, ⟨rfl, trivial⟩, rfl⟩ ?_
                refine JO.done rfl ?_
                refine JS.endB ?_
                refine JS.endB ?_
                exact JS.endJ (W (x5 - 1)) h ⟨rfl, rfl, rfl, trivial⟩ trivial [] rfl [] rfl
              · have h := condF h ht117
                refine JS.seq ?_
                refine JS.region ?_
                refine JO.reg ttOk 6 [(W (x6 + 1))] [] [(33, .v (.bool (decide ((W (x6 + 1)) = (x0.length : Int)))))] _ rfl ⟨⟨trivial, rfl⟩, ⟨rfl, trivial⟩, rfl⟩ ?_
                refine JO.done rfl ?_
                refine JS.cond rfl (fun ht116 => ?_) (fun ht116 => ?_)
                · have h := condT h ht116
                  refine JS.seq ?_
                  refine JS.region ?_
                  refine JO.reg ttOk 2 [] [] [(4, .v (.int .i64 (-1))), (5, .v (.int .i64 1))] _ rfl ⟨⟨rfl, rfl, trivial⟩, rfl⟩ ?_
                  refine JO.done rfl ?_
                  cases h
                  exact JS.ret ttOk () trivial rfl rfl [] rfl
                · have h := condF h ht116
                  refine JS.seq ?_
                  refine JS.region ?_
                  obtain ⟨g114, h⟩ := guardO_some h
                  refine JO.reg ttOk 6 [(W (x6 + 1))] [] [(39, .v (.bool (decide (((at' x0 (W (x6 + 1))).toNat : Int) = (41 : Int)))))] _ rfl ⟨⟨trivial, rfl⟩, g114, ⟨rfl, trivial⟩, rfl⟩ ?_
                  refine JO.done rfl ?_
                  refine JS.cond rfl (fun ht115 => ?_) (fun ht115 => ?_)
                  · have h := condT h ht115
                    refine JS.seq ?_
                    refine JS.region ?_
                    refine JO.reg ttOk 4 [(W (x6 + 2))] [] [(4, .v (.int .i64 (W (x6 + 2)))), (5, .v (.int .i64 0))] _ rfl ⟨⟨trivial, rfl⟩, ⟨rfl, rfl, trivial⟩, rfl⟩ ?_
                    refine JO.done rfl ?_
                    cases h
                    exact JS.ret ttOk () trivial rfl rfl [] rfl
                  · have h := condF h ht115
                    refine JS.seq ?_
                    refine JS.region ?_
                    refine JO.reg ttOk 3 [] [] [(4, .v (.int .i64 (-2))), (5, .v (.int .i64 x6))] _ rfl ⟨⟨rfl, rfl, trivial⟩, rfl⟩ ?_
                    refine JO.done rfl ?_
                    cases h
                    exact JS.ret ttOk () trivial rfl rfl [] rfl
            · have h := condF h ht133
              obtain ⟨j16, hj132, h⟩ := joinO_some h
              refine JS.seqJ (ι := Bool) ⟨fun z => j16 z = some r, fun z => [(0, .v (.string (bs x0))), (6, .v (.int .i64 x5)), (7, .v (.int .i64 x6)), (20, .v (.int .u8 ((at' x0 x6).toNat : Int))), (47, .v (.bool z))], fun z => .nil, fun z => [], fun z => [], fun z => 0⟩ ?_ ?_
              · refine JS.seq ?_
                refine JS.region ?_
                refine JO.reg ttOk 2 [] [] [(47, .v (.bool (decide (((at' x0 x6).toNat : Int) = (39 : Int)))))] _ rfl ⟨⟨rfl, trivial⟩, rfl⟩ ?_
                refine JO.done rfl ?_
                refine JS.cond rfl (fun ht120 => ?_) (fun ht120 => ?_)
                · have h := condT h ht120
                  refine JS.skip ?_
                  exact JS.endJ (decide (((at' x0 x6).toNat : Int) = (39 : Int))) h ⟨rfl, rfl, rfl, rfl, rfl, trivial⟩ trivial [] rfl [] rfl
                · have h := condF h ht120
                  refine JS.seq ?_
                  refine JS.region ?_
                  refine JO.reg ttOk 2 [] [] [(47, .v (.bool (decide (((at' x0 x6).toNat : Int) = (34 : Int)))))] _ rfl ⟨⟨rfl, trivial⟩, rfl⟩ ?_
                  refine JO.done rfl ?_
                  refine JS.cond rfl (fun ht119 => ?_) (fun ht119 => ?_)
                  · have h := condT h ht119
                    refine JS.skip ?_
                    exact JS.endJ (decide (((at' x0 x6).toNat : Int) = (34 : Int))) h ⟨rfl, rfl, rfl, rfl, rfl, trivial⟩ trivial [] rfl [] rfl
                  · have h := condF h ht119
                    refine JS.seq ?_
                    refine JS.region ?_
                    refine JO.reg ttOk 2 [] [] [(47, .v (.bool (decide (((at' x0 x6).toNat : Int) = (92 : Int)))))] _ rfl ⟨⟨rfl, trivial⟩, rfl⟩ ?_
                    refine JO.done rfl ?_
                    refine JS.cond rfl (fun ht118 => ?_) (fun ht118 => ?_)
                    · have h := condT h ht118
                      refine JS.skip ?_
                      exact JS.endJ (decide (((at' x0 x6).toNat : Int) = (92 : Int))) h ⟨rfl, rfl, rfl, rfl, rfl, trivial⟩ trivial [] rfl [] rfl
                    · have h := condF h ht118
                      refine JS.region ?_
                      refine JO.reg ttOk 2 [] [] [(47, .v (.bool (decide (((at' x0 x6).toNat : Int) = (96 : Int)))))] _ rfl ⟨⟨rfl, trivial⟩, rfl⟩ ?_
                      refine JO.done rfl ?_
                      exact JS.endJ (decide (((at' x0 x6).toNat : Int) = (96 : Int))) h ⟨rfl, rfl, rfl, rfl, rfl, trivial⟩ trivial [] rfl [] rfl
              · rintro x15 h
                subst hj132
                refine JS.cond rfl (fun ht131 => ?_) (fun ht131 => ?_)
                · have h := condT h ht131
                  refine JS.seq ?_
                  refine JS.region ?_
                  refine JO.reg ttOk 3 [] [] [(4, .v (.int .i64 (-2))), (5, .v (.int .i64 x6))] _ rfl ⟨⟨rfl, rfl, trivial⟩, rfl⟩ ?_
                  refine JO.done rfl ?_
                  cases h
                  exact JS.ret ttOk () trivial rfl rfl [] rfl
                · have h := condF h ht131
                  refine JS.seq ?_
                  refine JS.region ?_
                  refine JO.reg ttOk 2 [] [] [(53, .v (.bool (decide (((at' x0 x6).toNat : Int) = (36 : Int)))))] _ rfl ⟨⟨rfl, trivial⟩, rfl⟩ ?_
                  refine JO.done rfl ?_
                  refine JS.cond rfl (fun ht130 => ?_) (fun ht130 => ?_)
                  · have h := condT h ht130
                    refine JS.seq ?_
                    refine JS.region ?_
                    obtain ⟨g122, h⟩ := guardO_some h
                    obtain ⟨g126, h⟩ := guardO_some h
                    refine JO.reg ttOk 19 [(W (x6 + 1)), (W (x6 + 1)), (W (x6 + 1))] [] [(73, .v (.bool (bif (decide ((W (x6 + 1)) < (x0.length : Int))) then (bif (decide (((at' x0 (W (x6 + 1))).toNat : Int) = (40 : Int))) then true else (decide (((at' x0 (W (x6 + 1))).toNat : Int) = (123 : Int)))) else false)))] _ rfl ⟨⟨trivial, rfl⟩, (fun q121 => ⟨trivial, rfl⟩), (fun q123 => (g122 q123)), (fun q124 q125 => ⟨trivial, rfl⟩), (fun q127 q128 => (g126 q127 q128)), ⟨rfl, trivial⟩, rfl⟩ ?_
                    refine JO.done rfl ?_
                    refine JS.cond rfl (fun ht129 => ?_) (fun ht129 => ?_)
                    · have h := condT h ht129
                      refine JS.seq ?_
                      refine JS.region ?_
                      refine JO.reg ttOk 3 [] [] [(4, .v (.int .i64 (-2))), (5, .v (.int .i64 x6))] _ rfl ⟨⟨rfl, rfl, trivial⟩, rfl⟩ ?_
                      refine JO.done rfl ?_
                      cases h
                      exact JS.ret ttOk () trivial rfl rfl [] rfl
                    · have h := condF h ht129
                      refine JS.skip ?_
                      refine JS.endB ?_
                      exact JS.endJ x5 h ⟨rfl, rfl, rfl, trivial⟩ trivial [] rfl [] rfl
                  · have h := condF h ht130
                    refine JS.skip ?_
                    refine JS.endB ?_
                    exact JS.endJ x5 h ⟨rfl, rfl, rfl, trivial⟩ trivial [] rfl [] rfl
        · rintro x34 h
          subst hj135
          refine JS.endB ?_
          refine JS.region ?_
          refine JO.reg ttOk 3 [(W (x6 + 1))] [] [(7, .v (.int .i64 (W (x6 + 1))))] _ rfl ⟨⟨trivial, rfl⟩, ⟨rfl, trivial⟩, rfl⟩ ?_
          refine JO.done rfl ?_
          exact JS.endL (n60, x34, (W (x6 + 1))) h (Nat.lt_succ_self _) ⟨rfl, rfl, rfl, trivial⟩ trivial [] rfl [] rfl
      · have h := condF h ht136
        refine JS.exit rfl ?_
        exact JS.endJ x5 h ⟨rfl, trivial⟩ trivial [] rfl [] rfl
    · rintro x85 h
      subst hj137
      refine JS.seq ?_
      refine JS.region ?_
      refine JO.reg ttOk 4 [(W (x85 + 2))] [] [(4, .v (.int .i64 (-1))), (5, .v (.int .i64 (W (x85 + 2))))] _ rfl ⟨⟨trivial, rfl⟩, ⟨rfl, rfl, trivial⟩, rfl⟩ ?_
      refine JO.done rfl ?_
      cases h
      exact JS.ret ttOk () trivial rfl rfl [] rfl

def M_l_FnExactSkipSum (x0 : List UInt8) (x1 : Int) : Option Bool :=
  (bif (decide (1048576 < (x0.length : Int))) then
  some true
  else
  (bindO (M_s_SkipSum x0 x1) fun (y3, y4) =>
  (bindO (M_i_SkipSum x0 x1) fun (y6, y7) =>
  (bif (bif (!(decide (y6 = y3))) then true else (!(decide (y7 = y4)))) then
  some false
  else
  some true))))

theorem ok_l_FnExactSkipSum (x0 : List UInt8) (x1 : Int) (r : Bool) (h : M_l_FnExactSkipSum x0 x1 = some r) :
    FC Try.prog 7 [.string (bs x0), .int .i64 x1] [] (fun _ : Unit => True) (fun _ => .bool r) (fun _ => []) :=
  FC.of (T := TTx) Try.call7 Try.func7 rfl rfl fun w0 => by
    unfold M_l_FnExactSkipSum at h
    refine JS.seq ?_
    refine JS.region ?_
    refine JO.reg ttOk 1 [] [] [] _ rfl ⟨trivial, rfl⟩ ?_
    refine JO.done rfl ?_
    refine JS.seq ?_
    refine JS.seq ?_
    refine JS.region ?_
    refine JO.reg ttOk 3 [] [] [(11, .v (.bool (decide (1048576 < (x0.length : Int)))))] _ rfl ⟨⟨rfl, trivial⟩, rfl⟩ ?_
    refine JO.done rfl ?_
    refine JS.cond rfl (fun ht14 => ?_) (fun ht14 => ?_)
    · have h := condT h ht14
      refine JS.seq ?_
      refine JS.region ?_
      refine JO.reg ttOk 1 [] [] [(4, .v (.bool true))] _ rfl ⟨⟨rfl, trivial⟩, rfl⟩ ?_
      refine JO.done rfl ?_
      cases h
      exact JS.ret ttOk () trivial rfl rfl [] rfl
    · have h := condF h ht14
      refine JS.skip ?_
      refine JS.seq ?_
      refine JS.region ?_
      refine JO.reg ttOk 2 [] [] [(13, .v (.string (bs x0))), (14, .v (.int .i64 x1))] _ rfl ⟨⟨rfl, rfl, trivial⟩, rfl⟩ ?_
      obtain ⟨⟨y3, y4⟩, hy11, h⟩ := bindO_some h
      refine JO.call rfl rfl rfl rfl (ok_s_SkipSum x0 x1 _ hy11) rfl [] rfl rfl ?_
      intro _ _
      refine JO.reg ttOk 5 [] [] [(5, .v (.int .i64 y3)), (6, .v (.int .i64 y4))] _ rfl ⟨⟨rfl, rfl, trivial⟩, rfl⟩ ?_
      refine JO.done rfl ?_
      refine JS.seq ?_
      refine JS.region ?_
      refine JO.reg ttOk 2 [] [] [(19, .v (.string (bs x0))), (20, .v (.int .i64 x1))] _ rfl ⟨⟨rfl, rfl, trivial⟩, rfl⟩ ?_
      obtain ⟨⟨y6, y7⟩, hy12, h⟩ := bindO_some h
      refine JO.call rfl rfl rfl rfl (ok_i_SkipSum x0 x1 _ hy12) rfl [] rfl rfl ?_
      intro _ _
      refine JO.reg ttOk 5 [] [] [(7, .v (.int .i64 y6)), (8, .v (.int .i64 y7))] _ rfl ⟨⟨rfl, rfl, trivial⟩, rfl⟩ ?_
      refine JO.done rfl ?_
      refine JS.seq ?_
      refine JS.seq ?_
      refine JS.region ?_
      refine JO.reg ttOk 8 [] [] [(31, .v (.bool (bif (!(decide (y6 = y3))) then true else (!(decide (y7 = y4))))))] _ rfl ⟨⟨rfl, trivial⟩, rfl⟩ ?_
      refine JO.done rfl ?_
      refine JS.cond rfl (fun ht13 => ?_) (fun ht13 => ?_)
      · have h := condT h ht13
        refine JS.seq ?_
        refine JS.region ?_
        refine JO.reg ttOk 1 [] [] [(4, .v (.bool false))] _ rfl ⟨⟨rfl, trivial⟩, rfl⟩ ?_
        refine JO.done rfl ?_
        cases h
        exact JS.ret ttOk () trivial rfl rfl [] rfl
      · have h := condF h ht13
        refine JS.skip ?_
        refine JS.seq ?_
        refine JS.region ?_
        refine JO.reg ttOk 1 [] [] [(4, .v (.bool true))] _ rfl ⟨⟨rfl, trivial⟩, rfl⟩ ?_
        refine JO.done rfl ?_
        cases h
        exact JS.ret ttOk () trivial rfl rfl [] rfl

end Go.Eng
