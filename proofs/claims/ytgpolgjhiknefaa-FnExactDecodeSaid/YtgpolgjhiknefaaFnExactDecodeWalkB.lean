/- The walks of the functions that FnExactDecode reaches: what each computes, as a plain function (M_..), and that the model computes it (ok_..). Condition of each: that the plain function answers. -/
import Derived.Test.YtgpolgjhiknefaaFnExactDecodeWalkA
set_option linter.unusedVariables false
set_option linter.unusedSimpArgs false
namespace Go.Eng
open Go Go.Proofs
noncomputable section

def M_i_decode (x0 : Int × List UInt8) (x1 : Int) : Option ((Int × List UInt8) × List (Int × Int)) :=
  (bif (decide (x0.1 = 0)) then
  (bindO (M_i_decPlain x0.2 x1) fun (y7, y8) =>
  some (y7, y8))
  else
  (bif (decide (x0.1 = 1)) then
  (bindO (M_i_decEsc x1) fun (y14, y15) =>
  some (y14, y15))
  else
  (bif (decide (x0.1 = 2)) then
  (bindO (M_i_decCsi x0.2 x1) fun (y21, y22) =>
  some (y21, y22))
  else
  (bif (decide (x0.1 = 3)) then
  (bif (decide (x1 = 27)) then
  (bindO (M_i_bad ) fun (y28 : Int × Int) =>
  some ((1, []), ([y28] : List (Int × Int))))
  else
  (bindO (M_i_arrow x1) fun (y31 : Int × Int) =>
  some ((0, []), ([y31] : List (Int × Int)))))
  else
  (bindO (M_i_isDigit x1) fun (y35 : Bool) =>
  (bif (bif y35 then true else (decide (x1 = 59))) then
  some ((4, []), [])
  else
  (bif (decide (x1 = 27)) then
  some ((1, []), [])
  else
  some ((0, []), []))))))))

theorem ok_i_decode (x0 : Int × List UInt8) (x1 : Int) (a3 : Option Addr) (c4 : Nat) (l5 : Nat) (hl6 : x0.2.length = l5) (r : (Int × List UInt8) × List (Int × Int)) (h : M_i_decode x0 x1 = some r) :
    FC Try.prog 39 [.agg #[.int .i64 x0.1, .slice a3 l5 c4], .int .i64 x1] [⟨.byte, ⟨a3, l5, c4⟩, x0.2⟩] (fun _ : Option Addr × Nat × Option Addr × Nat => True) (fun q => .tuple #[.agg #[.int .i64 r.1.1, .slice q.1 r.1.2.length q.2.1], .slice q.2.2.1 r.2.length q.2.2.2]) (fun q => [⟨.byte, ⟨q.1, r.1.2.length, q.2.1⟩, r.1.2⟩, ⟨(.pair (.int .i64) (.int .i64)), ⟨q.2.2.1, r.2.length, q.2.2.2⟩, r.2⟩]) :=
  by
    subst hl6
    refine FC.of (T := TTx) Try.call39 Try.func39 rfl rfl fun w0 => ?_
    unfold M_i_decode at h
    refine JS.seq ?_
    refine JS.region ?_
    refine JO.regB ttOk 3 [] [2, 3] [(2, .bp 2 0), (4, .bp 3 0)] (.new 2 26 [.int .i64 x0.1, .slice a3 x0.2.length c4] (.new 3 26 [.int .i64 0, .slice none 0 0] .nil)) rfl ⟨⟨rfl, rfl, trivial⟩, ⟨rfl, rfl, rfl, rfl, rfl, rfl, rfl, rfl, trivial⟩⟩ ?_
    refine JO.done rfl ?_
    refine JS.seq ?_
    refine JS.seq ?_
    refine JS.region ?_
    refine JO.reg ttOk 2 [] [] [(7, .v (.int .i64 x0.1))] _ rfl ⟨⟨rfl, trivial⟩, rfl⟩ ?_
    refine JO.done rfl ?_
    refine JS.block ?_
    refine JS.seq ?_
    refine JS.region ?_
    refine JO.reg ttOk 2 [] [] [(8, .v (.bool (decide (x0.1 = 0))))] _ rfl ⟨⟨rfl, trivial⟩, rfl⟩ ?_
    refine JO.done rfl ?_
    refine JS.cond rfl (fun ht49 => ?_) (fun ht49 => ?_)
    · have h := condT h ht49
      refine JS.seq ?_
      refine JS.region ?_
      refine JO.reg ttOk 3 [] [] [(11, .v (.slice a3 x0.2.length c4)), (12, .v (.int .i64 x1))] _ rfl ⟨⟨rfl, rfl, trivial⟩, rfl⟩ ?_
      obtain ⟨⟨y7, y8⟩, hy9, h⟩ := bindO_some h
      refine JO.call rfl rfl rfl rfl (ok_i_decPlain x0.2 x1 a3 c4 x0.2.length rfl _ hy9) rfl [0] rfl rfl ?_
      rintro ⟨a10, c11, a12, c13⟩ -
      refine JO.regB ttOk 4 [] [] [(5, .v (.slice a12 y8.length c13))] (.new 3 26 [.int .i64 y7.1, .slice a10 y7.2.length c11] .nil) rfl ⟨⟨rfl, trivial⟩, ⟨rfl, rfl, rfl, rfl, trivial⟩⟩ ?_
      refine JO.done rfl ?_
      cases h
      exact JS.ret ttOk (a10, c11, a12, c13) trivial rfl rfl [0, 0] rfl
    · have h := condF h ht49
      refine JS.seq ?_
      refine JS.region ?_
      refine JO.reg ttOk 2 [] [] [(16, .v (.bool (decide (x0.1 = 1))))] _ rfl ⟨⟨rfl, trivial⟩, rfl⟩ ?_
      refine JO.done rfl ?_
      refine JS.cond rfl (fun ht48 => ?_) (fun ht48 => ?_)
      · have h := condT h ht48
        refine JS.seq ?_
        refine JS.region ?_
        refine JO.reg ttOk 1 [] [] [(18, .v (.int .i64 x1))] _ rfl ⟨⟨rfl, trivial⟩, rfl⟩ ?_
        obtain ⟨⟨y14, y15⟩, hy16, h⟩ := bindO_some h
        refine JO.call rfl rfl rfl rfl (ok_i_decEsc x1 _ hy16) rfl [] rfl rfl ?_
        rintro ⟨a17, c18, a19, c20⟩ -
        refine JO.regB ttOk 4 [] [] [(5, .v (.slice a19 y15.length c20))] (.new 3 26 [.int .i64 y14.1, .slice a17 y14.2.length c18] .nil) rfl ⟨⟨rfl, trivial⟩, ⟨rfl, rfl, rfl, rfl, trivial⟩⟩ ?_
        refine JO.done rfl ?_
        cases h
        exact JS.ret ttOk (a17, c18, a19, c20) trivial rfl rfl [0, 0] rfl
      · have h := condF h ht48
        refine JS.seq ?_
        refine JS.region ?_
        refine JO.reg ttOk 2 [] [] [(22, .v (.bool (decide (x0.1 = 2))))] _ rfl ⟨⟨rfl, trivial⟩, rfl⟩ ?_
        refine JO.done rfl ?_
        refine JS.cond rfl (fun ht47 => ?_) (fun ht47 => ?_)
        · have h := condT h ht47
          refine JS.seq ?_
          refine JS.region ?_
          refine JO.reg ttOk 3 [] [] [(25, .v (.slice a3 x0.2.length c4)), (26, .v (.int .i64 x1))] _ rfl ⟨⟨rfl, rfl, trivial⟩, rfl⟩ ?_
          obtain ⟨⟨y21, y22⟩, hy23, h⟩ := bindO_some h
          refine JO.call rfl rfl rfl rfl (ok_i_decCsi x0.2 x1 a3 c4 x0.2.length rfl _ hy23) rfl [0] rfl rfl ?_
          rintro ⟨a24, c25, a26, c27⟩ -
          refine JO.regB ttOk 4 [] [] [(5, .v (.slice a26 y22.length c27))] (.new 3 26 [.int .i64 y21.1, .slice a24 y21.2.length c25] .nil) rfl ⟨⟨rfl, trivial⟩, ⟨rfl, rfl, rfl, rfl, trivial⟩⟩ ?_
          refine JO.done rfl ?_
          cases h
          exact JS.ret ttOk (a24, c25, a26, c27) trivial rfl rfl [0, 0] rfl
        · have h := condF h ht47
          refine JS.seq ?_
          refine JS.region ?_
          refine JO.reg ttOk 2 [] [] [(30, .v (.bool (decide (x0.1 = 3))))] _ rfl ⟨⟨rfl, trivial⟩, rfl⟩ ?_
          refine JO.done rfl ?_
          refine JS.cond rfl (fun ht46 => ?_) (fun ht46 => ?_)
          · have h := condT h ht46
            refine JS.seq ?_
            refine JS.seq ?_
            refine JS.region ?_
            refine JO.reg ttOk 2 [] [] [(33, .v (.bool (decide (x1 = 27))))] _ rfl ⟨⟨rfl, trivial⟩, rfl⟩ ?_
            refine JO.done rfl ?_
            refine JS.cond rfl (fun ht43 => ?_) (fun ht43 => ?_)
            · have h := condT h ht43
              refine JS.seq ?_
              refine JS.region ?_
              refine JO.reg ttOk 1 [] [] [(34, .v (.agg #[.int .i64 1, .slice none 0 0]))] _ rfl ⟨⟨rfl, trivial⟩, rfl⟩ ?_
              obtain ⟨y28, hy29, h⟩ := bindO_some h
              refine JO.call rfl rfl rfl rfl (ok_i_bad  _ hy29) rfl [] rfl rfl ?_
              intro _ _
              refine JO.ofK rfl (JK.buildSlice ttOk rfl rfl rfl rfl rfl rfl rfl rfl rfl rfl rfl [] rfl (.pair (.int .i64) (.int .i64)) [y28] ⟨rfl, rfl⟩ rfl rfl fun a30 => JO.toK ?_)
              refine JO.regB ttOk 2 [] [] [(5, .v (.slice a30 ([y28] : List (Int × Int)).length ([y28] : List (Int × Int)).length))] (.new 3 26 [.int .i64 1, .slice none 0 0] .nil) rfl ⟨⟨rfl, trivial⟩, ⟨rfl, rfl, rfl, rfl, trivial⟩⟩ ?_
              refine JO.done rfl ?_
              cases h
              refine JS.nilO .byte Sl.nil rfl rfl ?_
              exact JS.ret ttOk (none, 0, a30, ([y28] : List (Int × Int)).length) trivial rfl rfl [0, 0] rfl
            · have h := condF h ht43
              refine JS.skip ?_
              refine JS.seq ?_
              refine JS.region ?_
              refine JO.reg ttOk 2 [] [] [(37, .v (.agg #[.int .i64 0, .slice none 0 0])), (38, .v (.int .i64 x1))] _ rfl ⟨⟨rfl, rfl, trivial⟩, rfl⟩ ?_
              obtain ⟨y31, hy32, h⟩ := bindO_some h
              refine JO.call rfl rfl rfl rfl (ok_i_arrow x1 _ hy32) rfl [] rfl rfl ?_
              intro _ _
              refine JO.ofK rfl (JK.buildSlice ttOk rfl rfl rfl rfl rfl rfl rfl rfl rfl rfl rfl [] rfl (.pair (.int .i64) (.int .i64)) [y31] ⟨rfl, rfl⟩ rfl rfl fun a33 => JO.toK ?_)
              refine JO.regB ttOk 2 [] [] [(5, .v (.slice a33 ([y31] : List (Int × Int)).length ([y31] : List (Int × Int)).length))] (.new 3 26 [.int .i64 0, .slice none 0 0] .nil) rfl ⟨⟨rfl, trivial⟩, ⟨rfl, rfl, rfl, rfl, trivial⟩⟩ ?_
              refine JO.done rfl ?_
              cases h
              refine JS.nilO .byte Sl.nil rfl rfl ?_
              exact JS.ret ttOk (none, 0, a33, ([y31] : List (Int × Int)).length) trivial rfl rfl [0, 0] rfl
          · have h := condF h ht46
            refine JS.skip ?_
            refine JS.endB ?_
            refine JS.seq ?_
            refine JS.block ?_
            refine JS.seq ?_
            refine JS.region ?_
            refine JO.reg ttOk 1 [] [] [(42, .v (.int .i64 x1))] _ rfl ⟨⟨rfl, trivial⟩, rfl⟩ ?_
            obtain ⟨y35, hy36, h⟩ := bindO_some h
            refine JO.call rfl rfl rfl rfl (ok_i_isDigit x1 _ hy36) rfl [] rfl rfl ?_
            intro _ _
            refine JO.reg ttOk 5 [] [] [(41, .v (.bool (bif y35 then true else (decide (x1 = 59)))))] _ rfl ⟨⟨rfl, trivial⟩, rfl⟩ ?_
            refine JO.done rfl ?_
            refine JS.cond rfl (fun ht45 => ?_) (fun ht45 => ?_)
            · have h := condT h ht45
              refine JS.seq ?_
              refine JS.region ?_
              refine JO.regB ttOk 3 [] [] [(5, .v (.slice none 0 0))] (.new 3 26 [.int .i64 4, .slice none 0 0] .nil) rfl ⟨⟨rfl, trivial⟩, ⟨rfl, rfl, rfl, rfl, trivial⟩⟩ ?_
              refine JO.done rfl ?_
              cases h
              refine JS.nilO .byte Sl.nil rfl rfl ?_
              refine JS.nilO (.pair (.int .i64) (.int .i64)) Sl.nil rfl rfl ?_
              exact JS.ret ttOk (none, 0, none, 0) trivial rfl rfl [1, 0] rfl
            · have h := condF h ht45
              refine JS.seq ?_
              refine JS.region ?_
              refine JO.reg ttOk 3 [] [] [(49, .v (.bool (decide (x1 = 27))))] _ rfl ⟨⟨rfl, trivial⟩, rfl⟩ ?_
              refine JO.done rfl ?_
              refine JS.cond rfl (fun ht44 => ?_) (fun ht44 => ?_)
              · have h := condT h ht44
                refine JS.seq ?_
                refine JS.region ?_
                refine JO.regB ttOk 3 [] [] [(5, .v (.slice none 0 0))] (.new 3 26 [.int .i64 1, .slice none 0 0] .nil) rfl ⟨⟨rfl, trivial⟩, ⟨rfl, rfl, rfl, rfl, trivial⟩⟩ ?_
                refine JO.done rfl ?_
                cases h
                refine JS.nilO .byte Sl.nil rfl rfl ?_
                refine JS.nilO (.pair (.int .i64) (.int .i64)) Sl.nil rfl rfl ?_
                exact JS.ret ttOk (none, 0, none, 0) trivial rfl rfl [1, 0] rfl
              · have h := condF h ht44
                refine JS.skip ?_
                refine JS.endB ?_
                refine JS.seq ?_
                refine JS.region ?_
                refine JO.regB ttOk 3 [] [] [(5, .v (.slice none 0 0))] (.new 3 26 [.int .i64 0, .slice none 0 0] .nil) rfl ⟨⟨rfl, trivial⟩, ⟨rfl, rfl, rfl, rfl, trivial⟩⟩ ?_
                refine JO.done rfl ?_
                cases h
                refine JS.nilO .byte Sl.nil rfl rfl ?_
                refine JS.nilO (.pair (.int .i64) (.int .i64)) Sl.nil rfl rfl ?_
                exact JS.ret ttOk (none, 0, none, 0) trivial rfl rfl [1, 0] rfl

def M_i_Decode_L1 (x1 : List UInt8) (j55 : ((List (Int × Int)) × Int × List UInt8) → Option ((Int × List UInt8) × List (Int × Int))) (k44 : ((List (Int × Int)) × Int × Int × List UInt8) → Option ((Int × List UInt8) × List (Int × Int))) : ((List (Int × Int)) × Int × Int × List UInt8) → Option ((Int × List UInt8) × List (Int × Int)) := fun (x17, x20, x21, x22) =>
  (bif (decide (x20 < (x1.length : Int))) then
  (guardO (0 ≤ x20 ∧ x20 < (x1.length : Int)) <|
  (bindO (M_i_decode (x21, x22) ((at' x1 x20).toNat : Int)) fun (y31, y32) =>
  (guardO (x17.length + y32.length ≤ 536870912) <|
  k44 ((x17 ++ y32), (W (x20 + 1)), y31.1, y31.2))))
  else
  j55 (x17, x21, x22))

def M_i_Decode (x0 : Int × List UInt8) (x1 : List UInt8) : Option ((Int × List UInt8) × List (Int × Int)) :=
  (bindO (M_i_DecOk x0) fun (y11 : Bool) =>
  (bif (!y11) then
  some ((0, []), [])
  else
  (bindO (M_i_copyBytes x0.2) fun (y13 : List UInt8) =>
  (joinO (fun ((x48, x51, x52) : (List (Int × Int)) × Int × List UInt8) =>
  some ((x51, x52), x48)) fun j55 =>
  (fixF (M_i_Decode_L1 x1 j55) FUEL (([] : List (Int × Int)), 0, x0.1, y13))))))

theorem ok_i_Decode (x0 : Int × List UInt8) (x1 : List UInt8) (a3 : Option Addr) (c4 : Nat) (l5 : Nat) (hl6 : x0.2.length = l5) (a7 : Option Addr) (c8 : Nat) (l9 : Nat) (hl10 : x1.length = l9) (r : (Int × List UInt8) × List (Int × Int)) (h : M_i_Decode x0 x1 = some r) :
    FC Try.prog 19 [.agg #[.int .i64 x0.1, .slice a3 l5 c4], .slice a7 l9 c8] [⟨.byte, ⟨a3, l5, c4⟩, x0.2⟩, ⟨.byte, ⟨a7, l9, c8⟩, x1⟩] (fun _ : Option Addr × Nat × Option Addr × Nat => True) (fun q => .tuple #[.agg #[.int .i64 r.1.1, .slice q.1 r.1.2.length q.2.1], .slice q.2.2.1 r.2.length q.2.2.2]) (fun q => [⟨.byte, ⟨q.1, r.1.2.length, q.2.1⟩, r.1.2⟩, ⟨(.pair (.int .i64) (.int .i64)), ⟨q.2.2.1, r.2.length, q.2.2.2⟩, r.2⟩]) :=
  by
    subst hl6
    subst hl10
    refine FC.of (T := TTx) Try.call19 Try.func19 rfl rfl fun w0 => ?_
    unfold M_i_Decode at h
    refine JS.seq ?_
    refine JS.region ?_
    refine JO.regB ttOk 3 [] [3, 4] [(2, .bp 3 0), (4, .bp 4 0)] (.new 3 26 [.int .i64 x0.1, .slice a3 x0.2.length c4] (.new 4 26 [.int .i64 0, .slice none 0 0] .nil)) rfl ⟨⟨rfl, rfl, trivial⟩, ⟨rfl, rfl, rfl, rfl, rfl, rfl, rfl, rfl, trivial⟩⟩ ?_
    refine JO.done rfl ?_
    refine JS.seq ?_
    refine JS.seq ?_
    refine JS.region ?_
    refine JO.reg ttOk 1 [] [] [(11, .v (.agg #[.int .i64 x0.1, .slice a3 x0.2.length c4]))] _ rfl ⟨⟨rfl, trivial⟩, rfl⟩ ?_
    obtain ⟨y11, hy12, h⟩ := bindO_some h
    refine JO.call rfl rfl rfl rfl (ok_i_DecOk x0 a3 c4 x0.2.length rfl _ hy12) rfl [0] rfl rfl ?_
    intro _ _
    refine JO.reg ttOk 1 [] [] [(13, .v (.bool (!y11)))] _ rfl ⟨⟨rfl, trivial⟩, rfl⟩ ?_
    refine JO.done rfl ?_
    refine JS.cond rfl (fun ht63 => ?_) (fun ht63 => ?_)
    · have h := condT h ht63
      refine JS.seq ?_
      refine JS.region ?_
      refine JO.regB ttOk 3 [] [] [(5, .v (.slice none 0 0))] (.new 4 26 [.int .i64 0, .slice none 0 0] .nil) rfl ⟨⟨rfl, trivial⟩, ⟨rfl, rfl, rfl, rfl, trivial⟩⟩ ?_
      refine JO.done rfl ?_
      cases h
      refine JS.nilO .byte Sl.nil rfl rfl ?_
      refine JS.nilO (.pair (.int .i64) (.int .i64)) Sl.nil rfl rfl ?_
      exact JS.ret ttOk (none, 0, none, 0) trivial rfl rfl [1, 0] rfl
    · have h := condF h ht63
      refine JS.skip ?_
      refine JS.seq ?_
      refine JS.region ?_
      refine JO.reg ttOk 2 [] [] [(16, .v (.slice a3 x0.2.length c4))] _ rfl ⟨⟨rfl, trivial⟩, rfl⟩ ?_
      obtain ⟨y13, hy14, h⟩ := bindO_some h
      refine JO.call rfl rfl rfl rfl (ok_i_copyBytes x0.2 a3 c4 x0.2.length rfl _ hy14) rfl [0] rfl rfl ?_
      rintro ⟨a15, c16⟩ -
      refine JO.regB ttOk 2 [] [] [] (.new 3 26 [.int .i64 x0.1, .slice a15 y13.length c16] (.new 4 26 [.int .i64 0, .slice none 0 0] .nil)) rfl ⟨trivial, ⟨rfl, rfl, rfl, rfl, rfl, rfl, rfl, rfl, trivial⟩⟩ ?_
      refine JO.done rfl ?_
      refine JS.seq ?_
      refine JS.region ?_
      refine JO.reg ttOk 1 [] [] [(6, .v (.slice none 0 0))] _ rfl ⟨⟨rfl, trivial⟩, rfl⟩ ?_
      refine JO.done rfl ?_
      refine JS.seq ?_
      refine JS.seq ?_
      refine JS.region ?_
      refine JO.reg ttOk 3 [] [] [(19, .v (.slice a7 x1.length c8)), (20, .v (.int .i64 (x1.length : Int))), (21, .v (.int .i64 0))] _ rfl ⟨⟨rfl, rfl, rfl, trivial⟩, rfl⟩ ?_
      refine JO.done rfl ?_
      obtain ⟨j55, hj62, h⟩ := joinO_some h
      refine JS.blockJ (ι := (List (Int × Int)) × Int × List UInt8 × Option Addr × Nat × Option Addr × Nat) ⟨fun z => j55 (z.1, z.2.1, z.2.2.1) = some r, fun z => [(2, .bp 3 0), (4, .bp 4 0), (6, .v (.slice z.2.2.2.1 z.1.length z.2.2.2.2.1))], fun z => (.new 3 26 [.int .i64 z.2.1, .slice z.2.2.2.2.2.1 z.2.2.1.length z.2.2.2.2.2.2] (.new 4 26 [.int .i64 0, .slice none 0 0] .nil)), fun z => [], fun z => [⟨(.pair (.int .i64) (.int .i64)), ⟨z.2.2.2.1, z.1.length, z.2.2.2.2.1⟩, z.1⟩, ⟨.byte, ⟨z.2.2.2.2.2.1, z.2.2.1.length, z.2.2.2.2.2.2⟩, z.2.2.1⟩], fun z => 0⟩ ?_ ?_
      · refine JS.nilO (.pair (.int .i64) (.int .i64)) Sl.nil rfl rfl ?_
        refine JS.loop (ι := Nat × (List (Int × Int)) × Int × Int × List UInt8 × Option Addr × Nat × Option Addr × Nat) ⟨fun z => fixF (M_i_Decode_L1 x1 j55) z.1 (z.2.1, z.2.2.1, z.2.2.2.1, z.2.2.2.2.1) = some r, fun z => [(2, .bp 3 0), (4, .bp 4 0), (6, .v (.slice z.2.2.2.2.2.1 z.2.1.length z.2.2.2.2.2.2.1)), (19, .v (.slice a7 x1.length c8)), (20, .v (.int .i64 (x1.length : Int))), (21, .v (.int .i64 z.2.2.1))], fun z => (.new 3 26 [.int .i64 z.2.2.2.1, .slice z.2.2.2.2.2.2.2.1 z.2.2.2.2.1.length z.2.2.2.2.2.2.2.2] (.new 4 26 [.int .i64 0, .slice none 0 0] .nil)), fun z => [⟨.byte, ⟨a7, x1.length, c8⟩, x1⟩], fun z => [⟨(.pair (.int .i64) (.int .i64)), ⟨z.2.2.2.2.2.1, z.2.1.length, z.2.2.2.2.2.2.1⟩, z.2.1⟩, ⟨.byte, ⟨z.2.2.2.2.2.2.2.1, z.2.2.2.2.1.length, z.2.2.2.2.2.2.2.2⟩, z.2.2.2.2.1⟩], fun z => z.1⟩ (FUEL, ([] : List (Int × Int)), 0, x0.1, y13, none, 0, a15, c16) h ⟨rfl, rfl, rfl, rfl, rfl, rfl, trivial⟩ ⟨rfl, rfl, rfl, rfl, rfl, rfl, rfl, rfl, trivial⟩ [1] rfl [0, 0] rfl ?_
        rintro ⟨n45, x17, x20, x21, x22, a18, c19, a23, c24⟩ h
        obtain ⟨n45, rfl, h⟩ := fixF_some h
        rw [M_i_Decode_L1] at h
        refine JS.seq ?_
        refine JS.region ?_
        refine JO.reg ttOk 1 [] [] [(22, .v (.bool (decide (x20 < (x1.length : Int)))))] _ rfl ⟨⟨rfl, trivial⟩, rfl⟩ ?_
        refine JO.done rfl ?_
        refine JS.seq ?_
        refine JS.cond rfl (fun ht61 => ?_) (fun ht61 => ?_)
        · have h := condT h ht61
          refine JS.skip ?_
          refine JS.seq ?_
          refine JS.block ?_
          refine JS.seq ?_
          refine JS.region ?_
          refine JO.know 0 rfl fun hs60 => ?_
          obtain ⟨g30, h⟩ := guardO_some h
          refine JO.reg ttOk 1 [] [] [(23, .ep ⟨a7, x1.length, c8⟩ (Int.toNat x20 * 1))] _ rfl ⟨hs60.ix g30, ⟨rfl, trivial⟩, rfl⟩ ?_
          refine JO.load ttOk rfl rfl rfl rfl rfl rfl rfl 0 rfl rfl (Int.toNat x20) 0 (at' x1 x20) ⟨at_some g30, rfl⟩ rfl rfl ?_
          refine JO.reg ttOk 1 [] [] [(8, .v (.int .u8 ((at' x1 x20).toNat : Int)))] _ rfl ⟨⟨rfl, trivial⟩, rfl⟩ ?_
          refine JO.done rfl ?_
          refine JS.seq ?_
          refine JS.region ?_
          refine JO.reg ttOk 3 [((at' x1 x20).toNat : Int)] [] [(26, .v (.agg #[.int .i64 x21, .slice a23 x22.length c24])), (28, .v (.int .i64 ((at' x1 x20).toNat : Int)))] _ rfl ⟨⟨trivial, W_byte _⟩, ⟨rfl, rfl, trivial⟩, rfl⟩ ?_
          obtain ⟨⟨y31, y32⟩, hy33, h⟩ := bindO_some h
          refine JO.call rfl rfl rfl rfl (ok_i_decode (x21, x22) ((at' x1 x20).toNat : Int) a23 c24 x22.length rfl _ hy33) rfl [2] rfl rfl ?_
          rintro ⟨a34, c35, a36, c37⟩ -
          refine JO.regB ttOk 6 [] [37] [(9, .bp 37 0), (10, .v (.slice a36 y32.length c37))] (.new 3 26 [.int .i64 x21, .slice a23 x22.length c24] (.new 4 26 [.int .i64 0, .slice none 0 0] (.new 37 26 [.int .i64 y31.1, .slice a34 y31.2.length c35] .nil))) rfl ⟨⟨rfl, rfl, trivial⟩, ⟨rfl, rfl, rfl, rfl, rfl, rfl, rfl, rfl, rfl, rfl, rfl, rfl, trivial⟩⟩ ?_
          refine JO.done rfl ?_
          refine JS.seq ?_
          refine JS.region ?_
          refine JO.regB ttOk 2 [] [] [] (.new 3 26 [.int .i64 y31.1, .slice a34 y31.2.length c35] (.new 4 26 [.int .i64 0, .slice none 0 0] .nil)) rfl ⟨trivial, ⟨rfl, rfl, rfl, rfl, rfl, rfl, rfl, rfl, trivial⟩⟩ ?_
          refine JO.done rfl ?_
          refine JS.region ?_
          refine JO.reg ttOk 2 [] [] [(33, .v (.slice a18 x17.length c19)), (34, .v (.slice a36 y32.length c37))] _ rfl ⟨⟨rfl, rfl, trivial⟩, rfl⟩ ?_
          obtain ⟨g38, h⟩ := guardO_some h
          refine JO.appendR' ttOk rfl rfl rfl rfl ⟨rfl, rfl, rfl, rfl, trivial, rfl, rfl, rfl, rfl⟩ rfl rfl rfl [2] rfl 2 rfl g38 rfl ?_
          intro a39 c40
          refine JO.reg ttOk 1 [] [] [(6, .v (.slice a39 (x17 ++ y32).length c40))] _ rfl ⟨⟨rfl, trivial⟩, rfl⟩ ?_
          refine JO.done rfl ?_
          refine JS.endB ?_
          refine JS.region ?_
          refine JO.reg ttOk 2 [(W (x20 + 1))] [] [(21, .v (.int .i64 (W (x20 + 1))))] _ rfl ⟨⟨trivial, rfl⟩, ⟨rfl, trivial⟩, rfl⟩ ?_
          refine JO.done rfl ?_
          exact JS.endL (n45, (x17 ++ y32), (W (x20 + 1)), y31.1, y31.2, a39, c40, a34, c35) h (Nat.lt_succ_self _) ⟨rfl, rfl, rfl, rfl, rfl, rfl, trivial⟩ ⟨rfl, rfl, rfl, rfl, rfl, rfl, rfl, rfl, trivial⟩ [0] rfl [0, 0] rfl
        · have h := condF h ht61
          refine JS.exit rfl ?_
          exact JS.endJ (x17, x21, x22, a18, c19, a23, c24) h ⟨rfl, rfl, rfl, trivial⟩ ⟨rfl, rfl, rfl, rfl, rfl, rfl, rfl, rfl, trivial⟩ [] rfl [0, 0] rfl
      · rintro ⟨x48, x51, x52, a49, c50, a53, c54⟩ h
        subst hj62
        refine JS.seq ?_
        refine JS.region ?_
        refine JO.regB ttOk 4 [] [] [(5, .v (.slice a49 x48.length c50))] (.new 4 26 [.int .i64 x51, .slice a53 x52.length c54] .nil) rfl ⟨⟨rfl, trivial⟩, ⟨rfl, rfl, rfl, rfl, trivial⟩⟩ ?_
        refine JO.done rfl ?_
        cases h
        exact JS.ret ttOk (a53, c54, a49, c50) trivial rfl rfl [1, 0] rfl

def M_l_eqByteS_L1 (x0 : List UInt8) (x1 : List UInt8) (j28 : Unit → Option Bool) (k20 : Int → Option Bool) : Int → Option Bool := fun x11 =>
  (bif (decide (x11 < (x0.length : Int))) then
  (guardO (0 ≤ x11 ∧ x11 < (x0.length : Int)) <|
  (guardO (0 ≤ x11 ∧ x11 < (x1.length : Int)) <|
  (bif (!(decide (((at' x0 x11).toNat : Int) = ((at' x1 x11).toNat : Int)))) then
  some false
  else
  k20 (W (x11 + 1)))))
  else
  j28 ())

def M_l_eqByteS (x0 : List UInt8) (x1 : List UInt8) : Option Bool :=
  (bif (!(decide ((x0.length : Int) = (x1.length : Int)))) then
  some false
  else
  (joinO (fun (_ : Unit) =>
  some true) fun j28 =>
  (fixF (M_l_eqByteS_L1 x0 x1 j28) FUEL 0)))

theorem ok_l_eqByteS (x0 : List UInt8) (x1 : List UInt8) (a3 : Option Addr) (c4 : Nat) (l5 : Nat) (hl6 : x0.length = l5) (a7 : Option Addr) (c8 : Nat) (l9 : Nat) (hl10 : x1.length = l9) (r : Bool) (h : M_l_eqByteS x0 x1 = some r) :
    FC Try.prog 28 [.slice a3 l5 c4, .slice a7 l9 c8] [⟨.byte, ⟨a3, l5, c4⟩, x0⟩, ⟨.byte, ⟨a7, l9, c8⟩, x1⟩] (fun _ : Unit => True) (fun _ => .bool r) (fun _ => []) :=
  by
    subst hl6
    subst hl10
    refine FC.of (T := TTx) Try.call28 Try.func28 rfl rfl fun w0 => ?_
    unfold M_l_eqByteS at h
    refine JS.seq ?_
    refine JS.region ?_
    refine JO.reg ttOk 1 [] [] [] _ rfl ⟨trivial, rfl⟩ ?_
    refine JO.done rfl ?_
    refine JS.seq ?_
    refine JS.seq ?_
    refine JS.region ?_
    refine JO.reg ttOk 5 [] [] [(10, .v (.bool (!(decide ((x0.length : Int) = (x1.length : Int))))))] _ rfl ⟨⟨rfl, trivial⟩, rfl⟩ ?_
    refine JO.done rfl ?_
    refine JS.cond rfl (fun ht44 => ?_) (fun ht44 => ?_)
    · have h := condT h ht44
      refine JS.seq ?_
      refine JS.region ?_
      refine JO.reg ttOk 1 [] [] [(4, .v (.bool false))] _ rfl ⟨⟨rfl, trivial⟩, rfl⟩ ?_
      refine JO.done rfl ?_
      cases h
      exact JS.ret ttOk () trivial rfl rfl [] rfl
    · have h := condF h ht44
      refine JS.skip ?_
      refine JS.seq ?_
      refine JS.seq ?_
      refine JS.region ?_
      refine JO.reg ttOk 1 [] [] [(5, .v (.int .i64 0))] _ rfl ⟨⟨rfl, trivial⟩, rfl⟩ ?_
      refine JO.done rfl ?_
      obtain ⟨j28, hj43, h⟩ := joinO_some h
      refine JS.blockJ (ι := Unit) ⟨fun _ => j28 () = some r, fun _ => [], fun _ => .nil, fun _ => [], fun _ => [], fun _ => 0⟩ ?_ ?_
      · refine JS.loop (ι := Nat × Int) ⟨fun z => fixF (M_l_eqByteS_L1 x0 x1 j28) z.1 z.2 = some r, fun z => [(0, .v (.slice a3 x0.length c4)), (1, .v (.slice a7 x1.length c8)), (5, .v (.int .i64 z.2))], fun z => .nil, fun z => [⟨.byte, ⟨a3, x0.length, c4⟩, x0⟩, ⟨.byte, ⟨a7, x1.length, c8⟩, x1⟩], fun z => [], fun z => z.1⟩ (FUEL, 0) h ⟨rfl, rfl, rfl, trivial⟩ trivial [0, 1] rfl [] rfl ?_
        rintro ⟨n21, x11⟩ h
        obtain ⟨n21, rfl, h⟩ := fixF_some h
        rw [M_l_eqByteS_L1] at h
        refine JS.seq ?_
        refine JS.seq ?_
        refine JS.region ?_
        refine JO.reg ttOk 4 [] [] [(14, .v (.bool (decide (x11 < (x0.length : Int)))))] _ rfl ⟨⟨rfl, trivial⟩, rfl⟩ ?_
        refine JO.done rfl ?_
        refine JS.cond rfl (fun ht42 => ?_) (fun ht42 => ?_)
        · have h := condT h ht42
          refine JS.skip ?_
          refine JS.seq ?_
          refine JS.block ?_
          refine JS.seq ?_
          obtain ⟨g13, h⟩ := guardO_some h
          obtain ⟨g15, h⟩ := guardO_some h
          refine JS.know 0 rfl fun hs39 => ?_
          refine JS.know 1 rfl fun hs40 => ?_
          refine JS.regionQ rfl (by kernel_rfl) ?_
          refine JQ.reg ttOk 3 [] [(19, .ep ⟨a3, x0.length, c4⟩ (Int.toNat x11 * 1))] rfl ⟨hs39.ix g13, ⟨rfl, trivial⟩⟩ ?_
          refine JQ.load ttOk rfl rfl rfl rfl rfl rfl rfl 0 rfl rfl (Int.toNat x11) 0 (at' x0 x11) ⟨at_some g13, rfl⟩ rfl rfl ?_
          refine JQ.reg ttOk 3 [] [(23, .ep ⟨a7, x1.length, c8⟩ (Int.toNat x11 * 1))] rfl ⟨hs40.ix g15, ⟨rfl, trivial⟩⟩ ?_
          refine JQ.load ttOk rfl rfl rfl rfl rfl rfl rfl 1 rfl rfl (Int.toNat x11) 0 (at' x1 x11) ⟨at_some g15, rfl⟩ rfl rfl ?_
          refine JQ.reg ttOk 1 [] [(25, .v (.bool (!(decide (((at' x0 x11).toNat : Int) = ((at' x1 x11).toNat : Int))))))] rfl ⟨rfl, trivial⟩ ?_
          refine JQ.done rfl ?_
          refine JS.cond rfl (fun ht41 => ?_) (fun ht41 => ?_)
          · have h := condT h ht41
            refine JS.seq ?_
            refine JS.region ?_
            refine JO.reg ttOk 1 [] [] [(4, .v (.bool false))] _ rfl ⟨⟨rfl, trivial⟩, rfl⟩ ?_
            refine JO.done rfl ?_
            cases h
            exact JS.ret ttOk () trivial rfl rfl [] rfl
          · have h := condF h ht41
            refine JS.skip ?_
            refine JS.endB ?_
            refine JS.region ?_
            refine JO.reg ttOk 3 [(W (x11 + 1))] [] [(5, .v (.int .i64 (W (x11 + 1))))] _ rfl ⟨⟨trivial, rfl⟩, ⟨rfl, trivial⟩, rfl⟩ ?_
            refine JO.done rfl ?_
            exact JS.endL (n21, (W (x11 + 1))) h (Nat.lt_succ_self _) ⟨rfl, rfl, rfl, trivial⟩ trivial [0, 1] rfl [] rfl
        · have h := condF h ht42
          refine JS.exit rfl ?_
          exact JS.endJ () h trivial trivial [] rfl [] rfl
      · rintro _ h
        subst hj43
        refine JS.seq ?_
        refine JS.region ?_
        refine JO.reg ttOk 1 [] [] [(4, .v (.bool true))] _ rfl ⟨⟨rfl, trivial⟩, rfl⟩ ?_
        refine JO.done rfl ?_
        cases h
        exact JS.ret ttOk () trivial rfl rfl [] rfl

def M_l_eqDec (x0 : Int × List UInt8) (x1 : Int × List UInt8) : Option Bool :=
  (bif (!(decide (x0.1 = x1.1))) then
  some false
  else
  (bindO (M_l_eqByteS x0.2 x1.2) fun (y11 : Bool) =>
  (bif (!y11) then
  some false
  else
  some true)))

theorem ok_l_eqDec (x0 : Int × List UInt8) (x1 : Int × List UInt8) (a3 : Option Addr) (c4 : Nat) (l5 : Nat) (hl6 : x0.2.length = l5) (a7 : Option Addr) (c8 : Nat) (l9 : Nat) (hl10 : x1.2.length = l9) (r : Bool) (h : M_l_eqDec x0 x1 = some r) :
    FC Try.prog 12 [.agg #[.int .i64 x0.1, .slice a3 l5 c4], .agg #[.int .i64 x1.1, .slice a7 l9 c8]] [⟨.byte, ⟨a3, l5, c4⟩, x0.2⟩, ⟨.byte, ⟨a7, l9, c8⟩, x1.2⟩] (fun _ : Unit => True) (fun _ => .bool r) (fun _ => []) :=
  by
    subst hl6
    subst hl10
    refine FC.of (T := TTx) Try.call12 Try.func12 rfl rfl fun w0 => ?_
    unfold M_l_eqDec at h
    refine JS.seq ?_
    refine JS.region ?_
    refine JO.regB ttOk 3 [] [3, 4] [(2, .bp 3 0), (3, .bp 4 0)] (.new 3 26 [.int .i64 x0.1, .slice a3 x0.2.length c4] (.new 4 26 [.int .i64 x1.1, .slice a7 x1.2.length c8] .nil)) rfl ⟨⟨rfl, rfl, trivial⟩, ⟨rfl, rfl, rfl, rfl, rfl, rfl, rfl, rfl, trivial⟩⟩ ?_
    refine JO.done rfl ?_
    refine JS.seq ?_
    refine JS.seq ?_
    refine JS.region ?_
    refine JO.reg ttOk 5 [] [] [(9, .v (.bool (!(decide (x0.1 = x1.1)))))] _ rfl ⟨⟨rfl, trivial⟩, rfl⟩ ?_
    refine JO.done rfl ?_
    refine JS.cond rfl (fun ht16 => ?_) (fun ht16 => ?_)
    · have h := condT h ht16
      refine JS.seq ?_
      refine JS.region ?_
      refine JO.reg ttOk 1 [] [] [(4, .v (.bool false))] _ rfl ⟨⟨rfl, trivial⟩, rfl⟩ ?_
      refine JO.done rfl ?_
      cases h
      exact JS.ret ttOk () trivial rfl rfl [] rfl
    · have h := condF h ht16
      refine JS.skip ?_
      refine JS.seq ?_
      refine JS.seq ?_
      refine JS.region ?_
      refine JO.reg ttOk 4 [] [] [(11, .v (.slice a3 x0.2.length c4)), (13, .v (.slice a7 x1.2.length c8))] _ rfl ⟨⟨rfl, rfl, trivial⟩, rfl⟩ ?_
      obtain ⟨y11, hy12, h⟩ := bindO_some h
      refine JO.call rfl rfl rfl rfl (ok_l_eqByteS x0.2 x1.2 a3 c4 x0.2.length rfl a7 c8 x1.2.length rfl _ hy12) rfl [0, 1] rfl rfl ?_
      intro _ _
      refine JO.reg ttOk 1 [] [] [(15, .v (.bool (!y11)))] _ rfl ⟨⟨rfl, trivial⟩, rfl⟩ ?_
      refine JO.done rfl ?_
      refine JS.cond rfl (fun ht15 => ?_) (fun ht15 => ?_)
      · have h := condT h ht15
        refine JS.seq ?_
        refine JS.region ?_
        refine JO.reg ttOk 1 [] [] [(4, .v (.bool false))] _ rfl ⟨⟨rfl, trivial⟩, rfl⟩ ?_
        refine JO.done rfl ?_
        cases h
        exact JS.ret ttOk () trivial rfl rfl [] rfl
      · have h := condF h ht15
        refine JS.skip ?_
        refine JS.seq ?_
        refine JS.region ?_
        refine JO.reg ttOk 1 [] [] [(4, .v (.bool true))] _ rfl ⟨⟨rfl, trivial⟩, rfl⟩ ?_
        refine JO.done rfl ?_
        cases h
        exact JS.ret ttOk () trivial rfl rfl [] rfl

def M_l_eqKey (x0 : Int × Int) (x1 : Int × Int) : Option Bool :=
  (bif (!(decide (x0.1 = x1.1))) then
  some false
  else
  (bif (!(decide (x0.2 = x1.2))) then
  some false
  else
  some true))

theorem ok_l_eqKey (x0 : Int × Int) (x1 : Int × Int) (r : Bool) (h : M_l_eqKey x0 x1 = some r) :
    FC Try.prog 34 [.agg #[.int .i64 x0.1, .int .i64 x0.2], .agg #[.int .i64 x1.1, .int .i64 x1.2]] [] (fun _ : Unit => True) (fun _ => .bool r) (fun _ => []) :=
  by
    refine FC.of (T := TTx) Try.call34 Try.func34 rfl rfl fun w0 => ?_
    unfold M_l_eqKey at h
    refine JS.seq ?_
    refine JS.region ?_
    refine JO.regB ttOk 3 [] [1, 2] [(2, .bp 1 0), (3, .bp 2 0)] (.new 1 40 [.int .i64 x0.1, .int .i64 x0.2] (.new 2 40 [.int .i64 x1.1, .int .i64 x1.2] .nil)) rfl ⟨⟨rfl, rfl, trivial⟩, ⟨rfl, rfl, rfl, rfl, rfl, rfl, rfl, rfl, trivial⟩⟩ ?_
    refine JO.done rfl ?_
    refine JS.seq ?_
    refine JS.seq ?_
    refine JS.region ?_
    refine JO.reg ttOk 5 [] [] [(9, .v (.bool (!(decide (x0.1 = x1.1)))))] _ rfl ⟨⟨rfl, trivial⟩, rfl⟩ ?_
    refine JO.done rfl ?_
    refine JS.cond rfl (fun ht6 => ?_) (fun ht6 => ?_)
    · have h := condT h ht6
      refine JS.seq ?_
      refine JS.region ?_
      refine JO.reg ttOk 1 [] [] [(4, .v (.bool false))] _ rfl ⟨⟨rfl, trivial⟩, rfl⟩ ?_
      refine JO.done rfl ?_
      cases h
      exact JS.ret ttOk () trivial rfl rfl [] rfl
    · have h := condF h ht6
      refine JS.skip ?_
      refine JS.seq ?_
      refine JS.seq ?_
      refine JS.region ?_
      refine JO.reg ttOk 5 [] [] [(14, .v (.bool (!(decide (x0.2 = x1.2)))))] _ rfl ⟨⟨rfl, trivial⟩, rfl⟩ ?_
      refine JO.done rfl ?_
      refine JS.cond rfl (fun ht5 => ?_) (fun ht5 => ?_)
      · have h := condT h ht5
        refine JS.seq ?_
        refine JS.region ?_
        refine JO.reg ttOk 1 [] [] [(4, .v (.bool false))] _ rfl ⟨⟨rfl, trivial⟩, rfl⟩ ?_
        refine JO.done rfl ?_
        cases h
        exact JS.ret ttOk () trivial rfl rfl [] rfl
      · have h := condF h ht5
        refine JS.skip ?_
        refine JS.seq ?_
        refine JS.region ?_
        refine JO.reg ttOk 1 [] [] [(4, .v (.bool true))] _ rfl ⟨⟨rfl, trivial⟩, rfl⟩ ?_
        refine JO.done rfl ?_
        cases h
        exact JS.ret ttOk () trivial rfl rfl [] rfl

def M_l_eqKeyS_L1 (x0 : List (Int × Int)) (x1 : List (Int × Int)) (j30 : Unit → Option Bool) (k22 : Int → Option Bool) : Int → Option Bool := fun x11 =>
  (bif (decide (x11 < (x0.length : Int))) then
  (guardO (0 ≤ x11 ∧ x11 < (x0.length : Int)) <|
  (guardO (0 ≤ x11 ∧ x11 < (x1.length : Int)) <|
  (bindO (M_l_eqKey (at' x0 x11) (at' x1 x11)) fun (y16 : Bool) =>
  (bif (!y16) then
  some false
  else
  k22 (W (x11 + 1))))))
  else
  j30 ())

def M_l_eqKeyS (x0 : List (Int × Int)) (x1 : List (Int × Int)) : Option Bool :=
  (bif (!(decide ((x0.length : Int) = (x1.length : Int)))) then
  some false
  else
  (joinO (fun (_ : Unit) =>
  some true) fun j30 =>
  (fixF (M_l_eqKeyS_L1 x0 x1 j30) FUEL 0)))

theorem ok_l_eqKeyS (x0 : List (Int × Int)) (x1 : List (Int × Int)) (a3 : Option Addr) (c4 : Nat) (l5 : Nat) (hl6 : x0.length = l5) (a7 : Option Addr) (c8 : Nat) (l9 : Nat) (hl10 : x1.length = l9) (r : Bool) (h : M_l_eqKeyS x0 x1 = some r) :
    FC Try.prog 13 [.slice a3 l5 c4, .slice a7 l9 c8] [⟨(.pair (.int .i64) (.int .i64)), ⟨a3, l5, c4⟩, x0⟩, ⟨(.pair (.int .i64) (.int .i64)), ⟨a7, l9, c8⟩, x1⟩] (fun _ : Unit => True) (fun _ => .bool r) (fun _ => []) :=
  by
    subst hl6
    subst hl10
    refine FC.of (T := TTx) Try.call13 Try.func13 rfl rfl fun w0 => ?_
    unfold M_l_eqKeyS at h
    refine JS.seq ?_
    refine JS.region ?_
    refine JO.reg ttOk 1 [] [] [] _ rfl ⟨trivial, rfl⟩ ?_
    refine JO.done rfl ?_
    refine JS.seq ?_
    refine JS.seq ?_
    refine JS.region ?_
    refine JO.reg ttOk 5 [] [] [(10, .v (.bool (!(decide ((x0.length : Int) = (x1.length : Int))))))] _ rfl ⟨⟨rfl, trivial⟩, rfl⟩ ?_
    refine JO.done rfl ?_
    refine JS.cond rfl (fun ht46 => ?_) (fun ht46 => ?_)
    · have h := condT h ht46
      refine JS.seq ?_
      refine JS.region ?_
      refine JO.reg ttOk 1 [] [] [(4, .v (.bool false))] _ rfl ⟨⟨rfl, trivial⟩, rfl⟩ ?_
      refine JO.done rfl ?_
      cases h
      exact JS.ret ttOk () trivial rfl rfl [] rfl
    · have h := condF h ht46
      refine JS.skip ?_
      refine JS.seq ?_
      refine JS.seq ?_
      refine JS.region ?_
      refine JO.reg ttOk 1 [] [] [(5, .v (.int .i64 0))] _ rfl ⟨⟨rfl, trivial⟩, rfl⟩ ?_
      refine JO.done rfl ?_
      obtain ⟨j30, hj45, h⟩ := joinO_some h
      refine JS.blockJ (ι := Unit) ⟨fun _ => j30 () = some r, fun _ => [], fun _ => .nil, fun _ => [], fun _ => [], fun _ => 0⟩ ?_ ?_
      · refine JS.loop (ι := Nat × Int) ⟨fun z => fixF (M_l_eqKeyS_L1 x0 x1 j30) z.1 z.2 = some r, fun z => [(0, .v (.slice a3 x0.length c4)), (1, .v (.slice a7 x1.length c8)), (5, .v (.int .i64 z.2))], fun z => .nil, fun z => [⟨(.pair (.int .i64) (.int .i64)), ⟨a3, x0.length, c4⟩, x0⟩, ⟨(.pair (.int .i64) (.int .i64)), ⟨a7, x1.length, c8⟩, x1⟩], fun z => [], fun z => z.1⟩ (FUEL, 0) h ⟨rfl, rfl, rfl, trivial⟩ trivial [0, 1] rfl [] rfl ?_
        rintro ⟨n23, x11⟩ h
        obtain ⟨n23, rfl, h⟩ := fixF_some h
        rw [M_l_eqKeyS_L1] at h
        refine JS.seq ?_
        refine JS.seq ?_
        refine JS.region ?_
        refine JO.reg ttOk 4 [] [] [(14, .v (.bool (decide (x11 < (x0.length : Int)))))] _ rfl ⟨⟨rfl, trivial⟩, rfl⟩ ?_
        refine JO.done rfl ?_
        refine JS.cond rfl (fun ht44 => ?_) (fun ht44 => ?_)
        · have h := condT h ht44
          refine JS.skip ?_
          refine JS.seq ?_
          refine JS.block ?_
          refine JS.seq ?_
          obtain ⟨g13, h⟩ := guardO_some h
          obtain ⟨g15, h⟩ := guardO_some h
          obtain ⟨y16, hy17, h⟩ := bindO_some h
          refine JS.know 0 rfl fun hs41 => ?_
          refine JS.know 1 rfl fun hs42 => ?_
          refine JS.regionQ rfl (by kernel_rfl) ?_
          refine JQ.reg ttOk 3 [] [(19, .ep ⟨a3, x0.length, c4⟩ (Int.toNat x11 * 2))] rfl ⟨hs41.ix g13, ⟨rfl, trivial⟩⟩ ?_
          refine JQ.loadV ttOk rfl rfl rfl rfl rfl rfl 0 rfl rfl (Int.toNat x11) 0 (at' x0 x11) ⟨at_some g13, rfl⟩ rfl rfl rfl ?_
          refine JQ.reg ttOk 3 [] [(23, .ep ⟨a7, x1.length, c8⟩ (Int.toNat x11 * 2))] rfl ⟨hs42.ix g15, ⟨rfl, trivial⟩⟩ ?_
          refine JQ.loadV ttOk rfl rfl rfl rfl rfl rfl 1 rfl rfl (Int.toNat x11) 0 (at' x1 x11) ⟨at_some g15, rfl⟩ rfl rfl rfl ?_
          refine JQ.call rfl rfl rfl rfl (ok_l_eqKey (at' x0 x11) (at' x1 x11) _ hy17) rfl [] rfl rfl ?_
          refine JQ.reg ttOk 1 [] [(26, .v (.bool (!y16)))] rfl ⟨rfl, trivial⟩ ?_
          refine JQ.done rfl ?_
          refine JS.cond rfl (fun ht43 => ?_) (fun ht43 => ?_)
          · have h := condT h ht43
            refine JS.seq ?_
            refine JS.region ?_
            refine JO.reg ttOk 1 [] [] [(4, .v (.bool false))] _ rfl ⟨⟨rfl, trivial⟩, rfl⟩ ?_
            refine JO.done rfl ?_
            cases h
            exact JS.ret ttOk () trivial rfl rfl [] rfl
          · have h := condF h ht43
            refine JS.skip ?_
            refine JS.endB ?_
            refine JS.region ?_
            refine JO.reg ttOk 3 [(W (x11 + 1))] [] [(5, .v (.int .i64 (W (x11 + 1))))] _ rfl ⟨⟨trivial, rfl⟩, ⟨rfl, trivial⟩, rfl⟩ ?_
            refine JO.done rfl ?_
            exact JS.endL (n23, (W (x11 + 1))) h (Nat.lt_succ_self _) ⟨rfl, rfl, rfl, trivial⟩ trivial [0, 1] rfl [] rfl
        · have h := condF h ht44
          refine JS.exit rfl ?_
          exact JS.endJ () h trivial trivial [] rfl [] rfl
      · rintro _ h
        subst hj45
        refine JS.seq ?_
        refine JS.region ?_
        refine JO.reg ttOk 1 [] [] [(4, .v (.bool true))] _ rfl ⟨⟨rfl, trivial⟩, rfl⟩ ?_
        refine JO.done rfl ?_
        cases h
        exact JS.ret ttOk () trivial rfl rfl [] rfl

def M_l_markByteS_L1 (x0 : List UInt8) (j19 : (List UInt8 × Int) → Option (Int × List UInt8)) (k13 : (List UInt8 × Int × Int) → Option (Int × List UInt8)) : (List UInt8 × Int × Int) → Option (Int × List UInt8) := fun (x7, x8, x9) =>
  (bif (decide (x9 < (x0.length : Int))) then
  (guardO (0 ≤ x9 ∧ x9 < (x0.length : Int)) <|
  k13 ((List.set x7 (Int.toNat x9) (u8 (x8))), (W (x8 + 1)), (W (x9 + 1))))
  else
  j19 (x7, x8))

def M_l_markByteS (x0 : List UInt8) (x1 : Int) : Option (Int × List UInt8) :=
  (joinO (fun ((x17, x18) : List UInt8 × Int) =>
  some (x18, x17)) fun j19 =>
  (fixF (M_l_markByteS_L1 x0 j19) FUEL (x0, x1, 0)))

theorem ok_l_markByteS (x0 : List UInt8) (x1 : Int) (a3 : Option Addr) (c4 : Nat) (l5 : Nat) (hl6 : x0.length = l5) (r : Int × List UInt8) (h : M_l_markByteS x0 x1 = some r) :
    FX Try.prog 29 [.slice a3 l5 c4, .int .i64 x1] [] [⟨.byte, ⟨a3, l5, c4⟩, x0⟩] (fun _ : Unit => True) (fun _ => .int .i64 r.1) (fun _ => [⟨.byte, ⟨a3, l5, c4⟩, r.2⟩]) :=
  by
    subst hl6
    refine FX.of (T := TTx) Try.call29 Try.func29 rfl rfl fun w0 L0 => ?_
    unfold M_l_markByteS at h
    refine JS.seq ?_
    refine JS.region ?_
    refine JO.reg ttOk 1 [] [] [] _ rfl ⟨trivial, rfl⟩ ?_
    refine JO.done rfl ?_
    refine JS.seq ?_
    refine JS.seq ?_
    refine JS.region ?_
    refine JO.reg ttOk 1 [] [] [(5, .v (.int .i64 0))] _ rfl ⟨⟨rfl, trivial⟩, rfl⟩ ?_
    refine JO.done rfl ?_
    obtain ⟨j19, hj27, h⟩ := joinO_some h
    refine JS.blockJ (ι := List UInt8 × Int) ⟨fun z => j19 (z.1, z.2) = some r, fun z => [(1, .v (.int .i64 z.2))], fun z => .nil, fun z => [], fun z => [⟨.byte, ⟨a3, x0.length, c4⟩, z.1⟩], fun z => 0⟩ ?_ ?_
    · refine JS.loop (ι := Nat × List UInt8 × Int × Int) ⟨fun z => fixF (M_l_markByteS_L1 x0 j19) z.1 (z.2.1, z.2.2.1, z.2.2.2) = some r, fun z => [(0, .v (.slice a3 x0.length c4)), (1, .v (.int .i64 z.2.2.1)), (5, .v (.int .i64 z.2.2.2))], fun z => .nil, fun z => [], fun z => [⟨.byte, ⟨a3, x0.length, c4⟩, z.2.1⟩], fun z => z.1⟩ (FUEL, x0, x1, 0) h ⟨rfl, rfl, rfl, trivial⟩ trivial [] rfl [0] rfl ?_
      rintro ⟨n14, x7, x8, x9⟩ h
      obtain ⟨n14, rfl, h⟩ := fixF_some h
      rw [M_l_markByteS_L1] at h
      refine JS.know 0 rfl fun hs24 => ?_
      refine JS.seq ?_
      refine JS.seq ?_
      refine JS.region ?_
      refine JO.reg ttOk 4 [] [] [(9, .v (.bool (decide (x9 < (x0.length : Int)))))] _ rfl ⟨⟨rfl, trivial⟩, rfl⟩ ?_
      refine JO.done rfl ?_
      refine JS.cond rfl (fun ht25 => ?_) (fun ht25 => ?_)
      · have h := condT h ht25
        refine JS.skip ?_
        refine JS.seq ?_
        refine JS.block ?_
        refine JS.seq ?_
        refine JS.region ?_
        obtain ⟨g11, h⟩ := guardO_some h
        refine JO.reg ttOk 5 [((u8 (x8)).toNat : Int)] [] [(15, .v (.int .u8 ((u8 (x8)).toNat : Int))), (16, .ep ⟨a3, x0.length, c4⟩ (Int.toNat x9 * 1))] _ rfl ⟨⟨trivial, u8_wrap _⟩, (hs24.cast hs24.len.symm).ix g11, ⟨rfl, rfl, trivial⟩, rfl⟩ ?_
        refine JO.storeE ttOk rfl rfl rfl rfl rfl rfl rfl rfl rfl [0] (fs := []) rfl (Int.toNat x9) 0 (at' x7 x9) (u8 (x8)) ⟨at_someL hs24.len.symm g11, rfl⟩ ⟨rfl, rfl, rfl⟩ ?_
        refine JO.done rfl ?_
        refine JS.region ?_
        refine JO.reg ttOk 3 [(W (x8 + 1))] [] [(1, .v (.int .i64 (W (x8 + 1))))] _ rfl ⟨⟨trivial, rfl⟩, ⟨rfl, trivial⟩, rfl⟩ ?_
        refine JO.done rfl ?_
        refine JS.endB ?_
        refine JS.region ?_
        refine JO.reg ttOk 3 [(W (x9 + 1))] [] [(5, .v (.int .i64 (W (x9 + 1))))] _ rfl ⟨⟨trivial, rfl⟩, ⟨rfl, trivial⟩, rfl⟩ ?_
        refine JO.done rfl ?_
        exact JS.endL (n14, (List.set x7 (Int.toNat x9) (u8 (x8))), (W (x8 + 1)), (W (x9 + 1))) h (Nat.lt_succ_self _) ⟨rfl, rfl, rfl, trivial⟩ trivial [] rfl [0] rfl
      · have h := condF h ht25
        refine JS.exit rfl ?_
        exact JS.endJ (x7, x8) h ⟨rfl, trivial⟩ trivial [] rfl [0] rfl
    · rintro ⟨x17, x18⟩ h
      subst hj27
      refine JS.know 0 rfl fun hs26 => ?_
      refine JS.seq ?_
      refine JS.region ?_
      refine JO.reg ttOk 2 [] [] [(4, .v (.int .i64 x18))] _ rfl ⟨⟨rfl, trivial⟩, rfl⟩ ?_
      refine JO.done rfl ?_
      cases h
      exact JS.retX ttOk () trivial rfl rfl [0] rfl

def M_l_markDec (x0 : Int × List UInt8) (x1 : Int) : Option (Int × List UInt8) :=
  (bindO (M_l_markByteS x0.2 x1) fun (y7, y8) =>
  some (y7, y8))

theorem ok_l_markDec (x0 : Int × List UInt8) (x1 : Int) (a3 : Option Addr) (c4 : Nat) (l5 : Nat) (hl6 : x0.2.length = l5) (r : Int × List UInt8) (h : M_l_markDec x0 x1 = some r) :
    FX Try.prog 14 [.agg #[.int .i64 x0.1, .slice a3 l5 c4], .int .i64 x1] [] [⟨.byte, ⟨a3, l5, c4⟩, x0.2⟩] (fun _ : Unit => True) (fun _ => .int .i64 r.1) (fun _ => [⟨.byte, ⟨a3, l5, c4⟩, r.2⟩]) :=
  by
    subst hl6
    refine FX.of (T := TTx) Try.call14 Try.func14 rfl rfl fun w0 L0 => ?_
    unfold M_l_markDec at h
    refine JS.seq ?_
    refine JS.region ?_
    refine JO.regB ttOk 2 [] [2] [(2, .bp 2 0)] (.new 2 26 [.int .i64 x0.1, .slice a3 x0.2.length c4] .nil) rfl ⟨⟨rfl, trivial⟩, ⟨rfl, rfl, rfl, rfl, trivial⟩⟩ ?_
    refine JO.done rfl ?_
    refine JS.seq ?_
    refine JS.region ?_
    refine JO.reg ttOk 3 [] [] [(6, .v (.slice a3 x0.2.length c4)), (7, .v (.int .i64 x1))] _ rfl ⟨⟨rfl, rfl, trivial⟩, rfl⟩ ?_
    obtain ⟨⟨y7, y8⟩, hy9, h⟩ := bindO_some h
    refine JO.callX rfl rfl rfl rfl (ok_l_markByteS x0.2 x1 a3 c4 x0.2.length rfl _ hy9) rfl [0] rfl [] rfl rfl ?_
    intro _ _
    refine JO.know 0 rfl fun hs10 => ?_
    refine JO.reg ttOk 1 [] [] [(1, .v (.int .i64 y7))] _ rfl ⟨⟨rfl, trivial⟩, rfl⟩ ?_
    refine JO.done rfl ?_
    refine JS.seq ?_
    refine JS.region ?_
    refine JO.reg ttOk 2 [] [] [(4, .v (.int .i64 y7))] _ rfl ⟨⟨rfl, trivial⟩, rfl⟩ ?_
    refine JO.done rfl ?_
    cases h
    exact JS.retX ttOk () trivial rfl rfl [0] rfl

def M_l_markKeyS_L1 (x0 : List (Int × Int)) (j20 : ((List (Int × Int)) × Int) → Option (Int × List (Int × Int))) (k14 : ((List (Int × Int)) × Int × Int) → Option (Int × List (Int × Int))) : ((List (Int × Int)) × Int × Int) → Option (Int × List (Int × Int)) := fun (x7, x8, x9) =>
  (bif (decide (x9 < (x0.length : Int))) then
  (guardO (0 ≤ x9 ∧ x9 < (x0.length : Int)) <|
  (guardO (0 ≤ x9 ∧ x9 < (x0.length : Int)) <|
  k14 ((List.set (List.set x7 (Int.toNat x9) (x8, (at' x7 x9).2)) (Int.toNat x9) ((at' (List.set x7 (Int.toNat x9) (x8, (at' x7 x9).2)) x9).1, (W (x8 + 1)))), (W ((W (x8 + 1)) + 1)), (W (x9 + 1)))))
  else
  j20 (x7, x8))

def M_l_markKeyS (x0 : List (Int × Int)) (x1 : Int) : Option (Int × List (Int × Int)) :=
  (joinO (fun ((x18, x19) : (List (Int × Int)) × Int) =>
  some (x19, x18)) fun j20 =>
  (fixF (M_l_markKeyS_L1 x0 j20) FUEL (x0, x1, 0)))

theorem ok_l_markKeyS (x0 : List (Int × Int)) (x1 : Int) (a3 : Option Addr) (c4 : Nat) (l5 : Nat) (hl6 : x0.length = l5) (r : Int × List (Int × Int)) (h : M_l_markKeyS x0 x1 = some r) :
    FX Try.prog 15 [.slice a3 l5 c4, .int .i64 x1] [] [⟨(.pair (.int .i64) (.int .i64)), ⟨a3, l5, c4⟩, x0⟩] (fun _ : Unit => True) (fun _ => .int .i64 r.1) (fun _ => [⟨(.pair (.int .i64) (.int .i64)), ⟨a3, l5, c4⟩, r.2⟩]) :=
  by
    subst hl6
    refine FX.of (T := TTx) Try.call15 Try.func15 rfl rfl fun w0 L0 => ?_
    unfold M_l_markKeyS at h
    refine JS.seq ?_
    refine JS.region ?_
    refine JO.reg ttOk 1 [] [] [] _ rfl ⟨trivial, rfl⟩ ?_
    refine JO.done rfl ?_
    refine JS.seq ?_
    refine JS.seq ?_
    refine JS.region ?_
    refine JO.reg ttOk 1 [] [] [(5, .v (.int .i64 0))] _ rfl ⟨⟨rfl, trivial⟩, rfl⟩ ?_
    refine JO.done rfl ?_
    obtain ⟨j20, hj28, h⟩ := joinO_some h
    refine JS.blockJ (ι := (List (Int × Int)) × Int) ⟨fun z => j20 (z.1, z.2) = some r, fun z => [(1, .v (.int .i64 z.2))], fun z => .nil, fun z => [], fun z => [⟨(.pair (.int .i64) (.int .i64)), ⟨a3, x0.length, c4⟩, z.1⟩], fun z => 0⟩ ?_ ?_
    · refine JS.loop (ι := Nat × (List (Int × Int)) × Int × Int) ⟨fun z => fixF (M_l_markKeyS_L1 x0 j20) z.1 (z.2.1, z.2.2.1, z.2.2.2) = some r, fun z => [(0, .v (.slice a3 x0.length c4)), (1, .v (.int .i64 z.2.2.1)), (5, .v (.int .i64 z.2.2.2))], fun z => .nil, fun z => [], fun z => [⟨(.pair (.int .i64) (.int .i64)), ⟨a3, x0.length, c4⟩, z.2.1⟩], fun z => z.1⟩ (FUEL, x0, x1, 0) h ⟨rfl, rfl, rfl, trivial⟩ trivial [] rfl [0] rfl ?_
      rintro ⟨n15, x7, x8, x9⟩ h
      obtain ⟨n15, rfl, h⟩ := fixF_some h
      rw [M_l_markKeyS_L1] at h
      refine JS.know 0 rfl fun hs25 => ?_
      refine JS.seq ?_
      refine JS.seq ?_
      refine JS.region ?_
      refine JO.reg ttOk 4 [] [] [(9, .v (.bool (decide (x9 < (x0.length : Int)))))] _ rfl ⟨⟨rfl, trivial⟩, rfl⟩ ?_
      refine JO.done rfl ?_
      refine JS.cond rfl (fun ht26 => ?_) (fun ht26 => ?_)
      · have h := condT h ht26
        refine JS.skip ?_
        refine JS.seq ?_
        refine JS.block ?_
        refine JS.seq ?_
        refine JS.region ?_
        obtain ⟨g11, h⟩ := guardO_some h
        refine JO.reg ttOk 5 [] [] [(14, .v (.int .i64 x8)), (16, .ep ⟨a3, x0.length, c4⟩ (Int.toNat x9 * 2))] _ rfl ⟨(hs25.cast hs25.len.symm).ix g11, (hs25.cast hs25.len.symm).fa g11, ⟨rfl, rfl, trivial⟩, rfl⟩ ?_
        refine JO.storeE ttOk rfl rfl rfl rfl rfl rfl rfl rfl rfl [0] (fs := []) rfl (Int.toNat x9) 0 (at' x7 x9) (x8, (at' x7 x9).2) ⟨at_someL hs25.len.symm g11, rfl⟩ ⟨⟨rfl, rfl, rfl⟩, rfl⟩ ?_
        refine JO.done rfl ?_
        refine JS.seq ?_
        refine JS.region ?_
        refine JO.reg ttOk 3 [(W (x8 + 1))] [] [(1, .v (.int .i64 (W (x8 + 1))))] _ rfl ⟨⟨trivial, rfl⟩, ⟨rfl, trivial⟩, rfl⟩ ?_
        refine JO.done rfl ?_
        refine JS.seq ?_
        refine JS.region ?_
        obtain ⟨g12, h⟩ := guardO_some h
        refine JO.reg ttOk 5 [] [] [(21, .v (.int .i64 (W (x8 + 1)))), (23, .ep ⟨a3, x0.length, c4⟩ (Int.toNat x9 * 2 + 1))] _ rfl ⟨(hs25.cast hs25.len.symm).ix g12, (hs25.cast hs25.len.symm).fa g12, ⟨rfl, rfl, trivial⟩, rfl⟩ ?_
        refine JO.storeE ttOk rfl rfl rfl rfl rfl rfl rfl rfl rfl [0] (fs := []) rfl (Int.toNat x9) 1 (at' (List.set x7 (Int.toNat x9) (x8, (at' x7 x9).2)) x9) ((at' (List.set x7 (Int.toNat x9) (x8, (at' x7 x9).2)) x9).1, (W (x8 + 1))) ⟨at_someL (List.length_set.trans hs25.len.symm) g12, rfl⟩ ⟨⟨rfl, rfl, rfl⟩, rfl⟩ ?_
        refine JO.done rfl ?_
        refine JS.region ?_
        refine JO.reg ttOk 3 [(W ((W (x8 + 1)) + 1))] [] [(1, .v (.int .i64 (W ((W (x8 + 1)) + 1))))] _ rfl ⟨⟨trivial, rfl⟩, ⟨rfl, trivial⟩, rfl⟩ ?_
        refine JO.done rfl ?_
        refine JS.endB ?_
        refine JS.region ?_
        refine JO.reg ttOk 3 [(W (x9 + 1))] [] [(5, .v (.int .i64 (W (x9 + 1))))] _ rfl ⟨⟨trivial, rfl⟩, ⟨rfl, trivial⟩, rfl⟩ ?_
        refine JO.done rfl ?_
        exact JS.endL (n15, (List.set (List.set x7 (Int.toNat x9) (x8, (at' x7 x9).2)) (Int.toNat x9) ((at' (List.set x7 (Int.toNat x9) (x8, (at' x7 x9).2)) x9).1, (W (x8 + 1)))), (W ((W (x8 + 1)) + 1)), (W (x9 + 1))) h (Nat.lt_succ_self _) ⟨rfl, rfl, rfl, trivial⟩ trivial [] rfl [0] rfl
      · have h := condF h ht26
        refine JS.exit rfl ?_
        exact JS.endJ (x7, x8) h ⟨rfl, trivial⟩ trivial [] rfl [0] rfl
    · rintro ⟨x18, x19⟩ h
      subst hj28
      refine JS.know 0 rfl fun hs27 => ?_
      refine JS.seq ?_
      refine JS.region ?_
      refine JO.reg ttOk 2 [] [] [(4, .v (.int .i64 x19))] _ rfl ⟨⟨rfl, trivial⟩, rfl⟩ ?_
      refine JO.done rfl ?_
      cases h
      exact JS.retX ttOk () trivial rfl rfl [0] rfl

def M_l_heldByteS_L1 (x0 : List UInt8) (j19 : Int → Option Int) (k13 : (Int × Int) → Option Int) : (Int × Int) → Option Int := fun (x7, x8) =>
  (bif (decide (x8 < (x0.length : Int))) then
  (guardO (0 ≤ x8 ∧ x8 < (x0.length : Int)) <|
  (bif (!(decide (((at' x0 x8).toNat : Int) = ((u8 (x7)).toNat : Int)))) then
  some (-1)
  else
  k13 ((W (x7 + 1)), (W (x8 + 1)))))
  else
  j19 x7)

def M_l_heldByteS (x0 : List UInt8) (x1 : Int) : Option Int :=
  (joinO (fun (x18 : Int) =>
  some x18) fun j19 =>
  (fixF (M_l_heldByteS_L1 x0 j19) FUEL (x1, 0)))

theorem ok_l_heldByteS (x0 : List UInt8) (x1 : Int) (a3 : Option Addr) (c4 : Nat) (l5 : Nat) (hl6 : x0.length = l5) (r : Int) (h : M_l_heldByteS x0 x1 = some r) :
    FC Try.prog 35 [.slice a3 l5 c4, .int .i64 x1] [⟨.byte, ⟨a3, l5, c4⟩, x0⟩] (fun _ : Unit => True) (fun _ => .int .i64 r) (fun _ => []) :=
  by
    subst hl6
    refine FC.of (T := TTx) Try.call35 Try.func35 rfl rfl fun w0 => ?_
    unfold M_l_heldByteS at h
    refine JS.seq ?_
    refine JS.region ?_
    refine JO.reg ttOk 1 [] [] [] _ rfl ⟨trivial, rfl⟩ ?_
    refine JO.done rfl ?_
    refine JS.seq ?_
    refine JS.seq ?_
    refine JS.region ?_
    refine JO.reg ttOk 1 [] [] [(5, .v (.int .i64 0))] _ rfl ⟨⟨rfl, trivial⟩, rfl⟩ ?_
    refine JO.done rfl ?_
    obtain ⟨j19, hj27, h⟩ := joinO_some h
    refine JS.blockJ (ι := Int) ⟨fun z => j19 z = some r, fun z => [(1, .v (.int .i64 z))], fun z => .nil, fun z => [], fun z => [], fun z => 0⟩ ?_ ?_
    · refine JS.loop (ι := Nat × Int × Int) ⟨fun z => fixF (M_l_heldByteS_L1 x0 j19) z.1 (z.2.1, z.2.2) = some r, fun z => [(0, .v (.slice a3 x0.length c4)), (1, .v (.int .i64 z.2.1)), (5, .v (.int .i64 z.2.2))], fun z => .nil, fun z => [⟨.byte, ⟨a3, x0.length, c4⟩, x0⟩], fun z => [], fun z => z.1⟩ (FUEL, x1, 0) h ⟨rfl, rfl, rfl, trivial⟩ trivial [0] rfl [] rfl ?_
      rintro ⟨n14, x7, x8⟩ h
      obtain ⟨n14, rfl, h⟩ := fixF_some h
      rw [M_l_heldByteS_L1] at h
      refine JS.seq ?_
      refine JS.seq ?_
      refine JS.region ?_
      refine JO.reg ttOk 4 [] [] [(9, .v (.bool (decide (x8 < (x0.length : Int)))))] _ rfl ⟨⟨rfl, trivial⟩, rfl⟩ ?_
      refine JO.done rfl ?_
      refine JS.cond rfl (fun ht26 => ?_) (fun ht26 => ?_)
      · have h := condT h ht26
        refine JS.skip ?_
        refine JS.seq ?_
        refine JS.block ?_
        refine JS.seq ?_
        refine JS.seq ?_
        refine JS.region ?_
        refine JO.know 0 rfl fun hs24 => ?_
        obtain ⟨g10, h⟩ := guardO_some h
        refine JO.reg ttOk 3 [] [] [(14, .ep ⟨a3, x0.length, c4⟩ (Int.toNat x8 * 1))] _ rfl ⟨hs24.ix g10, ⟨rfl, trivial⟩, rfl⟩ ?_
        refine JO.load ttOk rfl rfl rfl rfl rfl rfl rfl 0 rfl rfl (Int.toNat x8) 0 (at' x0 x8) ⟨at_some g10, rfl⟩ rfl rfl ?_
        refine JO.reg ttOk 3 [((u8 (x7)).toNat : Int)] [] [(18, .v (.bool (!(decide (((at' x0 x8).toNat : Int) = ((u8 (x7)).toNat : Int))))))] _ rfl ⟨⟨trivial, u8_wrap _⟩, ⟨rfl, trivial⟩, rfl⟩ ?_
        refine JO.done rfl ?_
        refine JS.cond rfl (fun ht25 => ?_) (fun ht25 => ?_)
        · have h := condT h ht25
          refine JS.seq ?_
          refine JS.region ?_
          refine JO.reg ttOk 1 [] [] [(4, .v (.int .i64 (-1)))] _ rfl ⟨⟨rfl, trivial⟩, rfl⟩ ?_
          refine JO.done rfl ?_
          cases h
          exact JS.ret ttOk () trivial rfl rfl [] rfl
        · have h := condF h ht25
          refine JS.skip ?_
          refine JS.region ?_
          refine JO.reg ttOk 3 [(W (x7 + 1))] [] [(1, .v (.int .i64 (W (x7 + 1))))] _ rfl ⟨⟨trivial, rfl⟩, ⟨rfl, trivial⟩, rfl⟩ ?_
          refine JO.done rfl ?_
          refine JS.endB ?_
          refine JS.region ?_
          refine JO.reg ttOk 3 [(W (x8 + 1))] [] [(5, .v (.int .i64 (W (x8 + 1))))] _ rfl ⟨⟨trivial, rfl⟩, ⟨rfl, trivial⟩, rfl⟩ ?_
          refine JO.done rfl ?_
          exact JS.endL (n14, (W (x7 + 1)), (W (x8 + 1))) h (Nat.lt_succ_self _) ⟨rfl, rfl, rfl, trivial⟩ trivial [0] rfl [] rfl
      · have h := condF h ht26
        refine JS.exit rfl ?_
        exact JS.endJ x7 h ⟨rfl, trivial⟩ trivial [] rfl [] rfl
    · rintro x18 h
      subst hj27
      refine JS.seq ?_
      refine JS.region ?_
      refine JO.reg ttOk 2 [] [] [(4, .v (.int .i64 x18))] _ rfl ⟨⟨rfl, trivial⟩, rfl⟩ ?_
      refine JO.done rfl ?_
      cases h
      exact JS.ret ttOk () trivial rfl rfl [] rfl

def M_l_heldDec (x0 : Int × List UInt8) (x1 : Int) : Option Int :=
  (bindO (M_l_heldByteS x0.2 x1) fun (y7 : Int) =>
  (bif (decide (y7 < 0)) then
  some (-1)
  else
  some y7))

theorem ok_l_heldDec (x0 : Int × List UInt8) (x1 : Int) (a3 : Option Addr) (c4 : Nat) (l5 : Nat) (hl6 : x0.2.length = l5) (r : Int) (h : M_l_heldDec x0 x1 = some r) :
    FC Try.prog 16 [.agg #[.int .i64 x0.1, .slice a3 l5 c4], .int .i64 x1] [⟨.byte, ⟨a3, l5, c4⟩, x0.2⟩] (fun _ : Unit => True) (fun _ => .int .i64 r) (fun _ => []) :=
  by
    subst hl6
    refine FC.of (T := TTx) Try.call16 Try.func16 rfl rfl fun w0 => ?_
    unfold M_l_heldDec at h
    refine JS.seq ?_
    refine JS.region ?_
    refine JO.regB ttOk 2 [] [2] [(2, .bp 2 0)] (.new 2 26 [.int .i64 x0.1, .slice a3 x0.2.length c4] .nil) rfl ⟨⟨rfl, trivial⟩, ⟨rfl, rfl, rfl, rfl, trivial⟩⟩ ?_
    refine JO.done rfl ?_
    refine JS.seq ?_
    refine JS.region ?_
    refine JO.reg ttOk 3 [] [] [(6, .v (.slice a3 x0.2.length c4)), (7, .v (.int .i64 x1))] _ rfl ⟨⟨rfl, rfl, trivial⟩, rfl⟩ ?_
    obtain ⟨y7, hy8, h⟩ := bindO_some h
    refine JO.call rfl rfl rfl rfl (ok_l_heldByteS x0.2 x1 a3 c4 x0.2.length rfl _ hy8) rfl [0] rfl rfl ?_
    intro _ _
    refine JO.reg ttOk 1 [] [] [(1, .v (.int .i64 y7))] _ rfl ⟨⟨rfl, trivial⟩, rfl⟩ ?_
    refine JO.done rfl ?_
    refine JS.seq ?_
    refine JS.seq ?_
    refine JS.region ?_
    refine JO.reg ttOk 2 [] [] [(10, .v (.bool (decide (y7 < 0))))] _ rfl ⟨⟨rfl, trivial⟩, rfl⟩ ?_
    refine JO.done rfl ?_
    refine JS.cond rfl (fun ht10 => ?_) (fun ht10 => ?_)
    · have h := condT h ht10
      refine JS.seq ?_
      refine JS.region ?_
      refine JO.reg ttOk 1 [] [] [(4, .v (.int .i64 (-1)))] _ rfl ⟨⟨rfl, trivial⟩, rfl⟩ ?_
      refine JO.done rfl ?_
      cases h
      exact JS.ret ttOk () trivial rfl rfl [] rfl
    · have h := condF h ht10
      refine JS.skip ?_
      refine JS.seq ?_
      refine JS.region ?_
      refine JO.reg ttOk 2 [] [] [(4, .v (.int .i64 y7))] _ rfl ⟨⟨rfl, trivial⟩, rfl⟩ ?_
      refine JO.done rfl ?_
      cases h
      exact JS.ret ttOk () trivial rfl rfl [] rfl

def M_l_heldKeyS_L1 (x0 : List (Int × Int)) (j22 : Int → Option Int) (k15 : (Int × Int) → Option Int) : (Int × Int) → Option Int := fun (x7, x8) =>
  (bif (decide (x8 < (x0.length : Int))) then
  (guardO (0 ≤ x8 ∧ x8 < (x0.length : Int)) <|
  (bif (!(decide ((at' x0 x8).1 = x7))) then
  some (-1)
  else
  (guardO (0 ≤ x8 ∧ x8 < (x0.length : Int)) <|
  (bif (!(decide ((at' x0 x8).2 = (W (x7 + 1))))) then
  some (-1)
  else
  k15 ((W ((W (x7 + 1)) + 1)), (W (x8 + 1)))))))
  else
  j22 x7)

def M_l_heldKeyS (x0 : List (Int × Int)) (x1 : Int) : Option Int :=
  (joinO (fun (x21 : Int) =>
  some x21) fun j22 =>
  (fixF (M_l_heldKeyS_L1 x0 j22) FUEL (x1, 0)))

theorem ok_l_heldKeyS (x0 : List (Int × Int)) (x1 : Int) (a3 : Option Addr) (c4 : Nat) (l5 : Nat) (hl6 : x0.length = l5) (r : Int) (h : M_l_heldKeyS x0 x1 = some r) :
    FC Try.prog 17 [.slice a3 l5 c4, .int .i64 x1] [⟨(.pair (.int .i64) (.int .i64)), ⟨a3, l5, c4⟩, x0⟩] (fun _ : Unit => True) (fun _ => .int .i64 r) (fun _ => []) :=
  by
    subst hl6
    refine FC.of (T := TTx) Try.call17 Try.func17 rfl rfl fun w0 => ?_
    unfold M_l_heldKeyS at h
    refine JS.seq ?_
    refine JS.region ?_
    refine JO.reg ttOk 1 [] [] [] _ rfl ⟨trivial, rfl⟩ ?_
    refine JO.done rfl ?_
    refine JS.seq ?_
    refine JS.seq ?_
    refine JS.region ?_
    refine JO.reg ttOk 1 [] [] [(5, .v (.int .i64 0))] _ rfl ⟨⟨rfl, trivial⟩, rfl⟩ ?_
    refine JO.done rfl ?_
    obtain ⟨j22, hj32, h⟩ := joinO_some h
    refine JS.blockJ (ι := Int) ⟨fun z => j22 z = some r, fun z => [(1, .v (.int .i64 z))], fun z => .nil, fun z => [], fun z => [], fun z => 0⟩ ?_ ?_
    · refine JS.loop (ι := Nat × Int × Int) ⟨fun z => fixF (M_l_heldKeyS_L1 x0 j22) z.1 (z.2.1, z.2.2) = some r, fun z => [(0, .v (.slice a3 x0.length c4)), (1, .v (.int .i64 z.2.1)), (5, .v (.int .i64 z.2.2))], fun z => .nil, fun z => [⟨(.pair (.int .i64) (.int .i64)), ⟨a3, x0.length, c4⟩, x0⟩], fun z => [], fun z => z.1⟩ (FUEL, x1, 0) h ⟨rfl, rfl, rfl, trivial⟩ trivial [0] rfl [] rfl ?_
      rintro ⟨n16, x7, x8⟩ h
      obtain ⟨n16, rfl, h⟩ := fixF_some h
      rw [M_l_heldKeyS_L1] at h
      refine JS.seq ?_
      refine JS.seq ?_
      refine JS.region ?_
      refine JO.reg ttOk 4 [] [] [(9, .v (.bool (decide (x8 < (x0.length : Int)))))] _ rfl ⟨⟨rfl, trivial⟩, rfl⟩ ?_
      refine JO.done rfl ?_
      refine JS.cond rfl (fun ht31 => ?_) (fun ht31 => ?_)
      · have h := condT h ht31
        refine JS.skip ?_
        refine JS.seq ?_
        refine JS.block ?_
        refine JS.seq ?_
        refine JS.seq ?_
        refine JS.region ?_
        refine JO.know 0 rfl fun hs28 => ?_
        obtain ⟨g10, h⟩ := guardO_some h
        refine JO.reg ttOk 4 [] [] [(15, .ep ⟨a3, x0.length, c4⟩ (Int.toNat x8 * 2))] _ rfl ⟨hs28.ix g10, hs28.fa g10, ⟨rfl, trivial⟩, rfl⟩ ?_
        refine JO.load ttOk rfl rfl rfl rfl rfl rfl rfl 0 rfl rfl (Int.toNat x8) 0 (at' x0 x8) ⟨at_some g10, rfl⟩ rfl rfl ?_
        refine JO.reg ttOk 2 [] [] [(18, .v (.bool (!(decide ((at' x0 x8).1 = x7)))))] _ rfl ⟨⟨rfl, trivial⟩, rfl⟩ ?_
        refine JO.done rfl ?_
        refine JS.cond rfl (fun ht30 => ?_) (fun ht30 => ?_)
        · have h := condT h ht30
          refine JS.seq ?_
          refine JS.region ?_
          refine JO.reg ttOk 1 [] [] [(4, .v (.int .i64 (-1)))] _ rfl ⟨⟨rfl, trivial⟩, rfl⟩ ?_
          refine JO.done rfl ?_
          cases h
          exact JS.ret ttOk () trivial rfl rfl [] rfl
        · have h := condF h ht30
          refine JS.skip ?_
          refine JS.seq ?_
          refine JS.region ?_
          refine JO.reg ttOk 3 [(W (x7 + 1))] [] [(1, .v (.int .i64 (W (x7 + 1))))] _ rfl ⟨⟨trivial, rfl⟩, ⟨rfl, trivial⟩, rfl⟩ ?_
          refine JO.done rfl ?_
          refine JS.seq ?_
          refine JS.seq ?_
          refine JS.region ?_
          obtain ⟨g11, h⟩ := guardO_some h
          refine JO.reg ttOk 4 [] [] [(24, .ep ⟨a3, x0.length, c4⟩ (Int.toNat x8 * 2 + 1))] _ rfl ⟨hs28.ix g11, hs28.fa g11, ⟨rfl, trivial⟩, rfl⟩ ?_
          refine JO.load ttOk rfl rfl rfl rfl rfl rfl rfl 0 rfl rfl (Int.toNat x8) 1 (at' x0 x8) ⟨at_some g11, rfl⟩ rfl rfl ?_
          refine JO.reg ttOk 2 [] [] [(27, .v (.bool (!(decide ((at' x0 x8).2 = (W (x7 + 1)))))))] _ rfl ⟨⟨rfl, trivial⟩, rfl⟩ ?_
          refine JO.done rfl ?_
          refine JS.cond rfl (fun ht29 => ?_) (fun ht29 => ?_)
          · have h := condT h ht29
            refine JS.seq ?_
            refine JS.region ?_
            refine JO.reg ttOk 1 [] [] [(4, .v (.int .i64 (-1)))] _ rfl ⟨⟨rfl, trivial⟩, rfl⟩ ?_
            refine JO.done rfl ?_
            cases h
            exact JS.ret ttOk () trivial rfl rfl [] rfl
          · have h := condF h ht29
            refine JS.skip ?_
            refine JS.region ?_
            refine JO.reg ttOk 3 [(W ((W (x7 + 1)) + 1))] [] [(1, .v (.int .i64 (W ((W (x7 + 1)) + 1))))] _ rfl ⟨⟨trivial, rfl⟩, ⟨rfl, trivial⟩, rfl⟩ ?_
            refine JO.done rfl ?_
            refine JS.endB ?_
            refine JS.region ?_
            refine JO.reg ttOk 3 [(W (x8 + 1))] [] [(5, .v (.int .i64 (W (x8 + 1))))] _ rfl ⟨⟨trivial, rfl⟩, ⟨rfl, trivial⟩, rfl⟩ ?_
            refine JO.done rfl ?_
            exact JS.endL (n16, (W ((W (x7 + 1)) + 1)), (W (x8 + 1))) h (Nat.lt_succ_self _) ⟨rfl, rfl, rfl, trivial⟩ trivial [0] rfl [] rfl
      · have h := condF h ht31
        refine JS.exit rfl ?_
        exact JS.endJ x7 h ⟨rfl, trivial⟩ trivial [] rfl [] rfl
    · rintro x21 h
      subst hj32
      refine JS.seq ?_
      refine JS.region ?_
      refine JO.reg ttOk 2 [] [] [(4, .v (.int .i64 x21))] _ rfl ⟨⟨rfl, trivial⟩, rfl⟩ ?_
      refine JO.done rfl ?_
      cases h
      exact JS.ret ttOk () trivial rfl rfl [] rfl

def M_l_FnExactDecode (x0 : Int × List UInt8) (x1 : List UInt8) : Option Bool :=
  (bif (decide (1048576 < (x1.length : Int))) then
  some true
  else
  (bindO (M_l_szDec x0 1048576) fun (y11 : Int) =>
  (bif (decide (y11 < 0)) then
  some true
  else
  (bindO (M_l_toDec x0) fun (y13 : Int × List UInt8) =>
  (bindO (M_l_toByteS x1) fun (y17 : List UInt8) =>
  (bindO (M_s_Decode y13 y17) fun (y21, y22) =>
  (bindO (M_l_toDec x0) fun (y28 : Int × List UInt8) =>
  (bindO (M_l_toByteS x1) fun (y32 : List UInt8) =>
  (bindO (M_i_Decode y28 y32) fun (y36, y37) =>
  (bindO (M_l_eqDec y36 y21) fun (y43 : Bool) =>
  (callO ((!y43) = false) (M_l_eqKeyS y37 y22) false fun (y45 : Bool) =>
  (bif (bif (!y43) then true else (!y45)) then
  some false
  else
  (bindO (M_l_toDec x0) fun (y48 : Int × List UInt8) =>
  (bindO (M_l_eqDec y28 y48) fun (y52 : Bool) =>
  (bif (!y52) then
  some false
  else
  (bindO (M_l_toByteS x1) fun (y55 : List UInt8) =>
  (bindO (M_l_eqByteS y32 y55) fun (y59 : Bool) =>
  (bif (!y59) then
  some false
  else
  (bindO (M_l_markDec y28 1) fun (y61, y62) =>
  (bindO (M_l_markByteS y32 y61) fun (y65, y66) =>
  (callO ((decide (y65 < 0)) = false) (M_l_eqDec y36 y21) false fun (y69 : Bool) =>
  (callO ((bif (decide (y65 < 0)) then true else (!y69)) = false) (M_l_eqKeyS y37 y22) false fun (y72 : Bool) =>
  (bif (bif (bif (decide (y65 < 0)) then true else (!y69)) then true else (!y72)) then
  some false
  else
  (bindO (M_l_markDec y36 1) fun (y75, y76) =>
  (bindO (M_l_markKeyS y37 y75) fun (y79, y80) =>
  (bindO (M_l_heldDec (y36.1, y76) 1) fun (y83 : Int) =>
  (bif (decide (y83 < 0)) then
  some false
  else
  (bindO (M_l_heldKeyS y80 y83) fun (y85 : Int) =>
  (bif (decide (y85 < 0)) then
  some false
  else
  (bif (!(decide (y85 = y79))) then
  some false
  else
  (bindO (M_l_toDec x0) fun (y87 : Int × List UInt8) =>
  (bindO (M_l_toByteS x1) fun (y91 : List UInt8) =>
  (bindO (M_i_Decode y87 y91) fun (y95, y96) =>
  (bindO (M_l_eqDec y95 y21) fun (y102 : Bool) =>
  (callO ((!y102) = false) (M_l_eqKeyS y96 y22) false fun (y104 : Bool) =>
  (bif (bif (!y102) then true else (!y104)) then
  some false
  else
  (bindO (M_l_heldDec (y36.1, y76) 1) fun (y107 : Int) =>
  (bif (decide (y107 < 0)) then
  some false
  else
  (bindO (M_l_heldKeyS y80 y107) fun (y109 : Int) =>
  (bif (decide (y109 < 0)) then
  some false
  else
  (bif (!(decide (y109 = y79))) then
  some false
  else
  some true)))))))))))))))))))))))))))))))))))))))))

theorem ok_l_FnExactDecode (x0 : Int × List UInt8) (x1 : List UInt8) (a3 : Option Addr) (c4 : Nat) (l5 : Nat) (hl6 : x0.2.length = l5) (a7 : Option Addr) (c8 : Nat) (l9 : Nat) (hl10 : x1.length = l9) (r : Bool) (h : M_l_FnExactDecode x0 x1 = some r) :
    FC Try.prog 7 [.agg #[.int .i64 x0.1, .slice a3 l5 c4], .slice a7 l9 c8] [⟨.byte, ⟨a3, l5, c4⟩, x0.2⟩, ⟨.byte, ⟨a7, l9, c8⟩, x1⟩] (fun _ : Unit => True) (fun _ => .bool r) (fun _ => []) :=
  by
    subst hl6
    subst hl10
    refine FC.of (T := TTx) Try.call7 Try.func7 rfl rfl fun w0 => ?_
    unfold M_l_FnExactDecode at h
    refine JS.seq ?_
    refine JS.region ?_
    refine JO.regB ttOk 2 [] [3] [(2, .bp 3 0)] (.new 3 24 [.int .i64 x0.1, .slice a3 x0.2.length c4] .nil) rfl ⟨⟨rfl, trivial⟩, ⟨rfl, rfl, rfl, rfl, trivial⟩⟩ ?_
    refine JO.done rfl ?_
    refine JS.seq ?_
    refine JS.seq ?_
    refine JS.region ?_
    refine JO.reg ttOk 3 [] [] [(19, .v (.bool (decide (1048576 < (x1.length : Int)))))] _ rfl ⟨⟨rfl, trivial⟩, rfl⟩ ?_
    refine JO.done rfl ?_
    refine JS.cond rfl (fun ht140 => ?_) (fun ht140 => ?_)
    · have h := condT h ht140
      refine JS.seq ?_
      refine JS.region ?_
      refine JO.reg ttOk 1 [] [] [(4, .v (.bool true))] _ rfl ⟨⟨rfl, trivial⟩, rfl⟩ ?_
      refine JO.done rfl ?_
      cases h
      exact JS.ret ttOk () trivial rfl rfl [] rfl
    · have h := condF h ht140
      refine JS.skip ?_
      refine JS.seq ?_
      refine JS.region ?_
      refine JO.reg ttOk 1 [] [] [(5, .v (.int .i64 1048576))] _ rfl ⟨⟨rfl, trivial⟩, rfl⟩ ?_
      refine JO.done rfl ?_
      refine JS.seq ?_
      refine JS.region ?_
      refine JO.reg ttOk 2 [] [] [(20, .v (.agg #[.int .i64 x0.1, .slice a3 x0.2.length c4])), (21, .v (.int .i64 1048576))] _ rfl ⟨⟨rfl, rfl, trivial⟩, rfl⟩ ?_
      obtain ⟨y11, hy12, h⟩ := bindO_some h
      refine JO.call rfl rfl rfl rfl (ok_l_szDec x0 1048576 a3 c4 x0.2.length rfl _ hy12) rfl [0] rfl rfl ?_
      intro _ _
      refine JO.reg ttOk 1 [] [] [(5, .v (.int .i64 y11))] _ rfl ⟨⟨rfl, trivial⟩, rfl⟩ ?_
      refine JO.done rfl ?_
      refine JS.seq ?_
      refine JS.seq ?_
      refine JS.region ?_
      refine JO.reg ttOk 2 [] [] [(24, .v (.bool (decide (y11 < 0))))] _ rfl ⟨⟨rfl, trivial⟩, rfl⟩ ?_
      refine JO.done rfl ?_
      refine JS.cond rfl (fun ht139 => ?_) (fun ht139 => ?_)
      · have h := condT h ht139
        refine JS.seq ?_
        refine JS.region ?_
        refine JO.reg ttOk 1 [] [] [(4, .v (.bool true))] _ rfl ⟨⟨rfl, trivial⟩, rfl⟩ ?_
        refine JO.done rfl ?_
        cases h
        exact JS.ret ttOk () trivial rfl rfl [] rfl
      · have h := condF h ht139
        refine JS.skip ?_
        refine JS.seq ?_
        refine JS.region ?_
        refine JO.reg ttOk 1 [] [] [(26, .v (.agg #[.int .i64 x0.1, .slice a3 x0.2.length c4]))] _ rfl ⟨⟨rfl, trivial⟩, rfl⟩ ?_
        obtain ⟨y13, hy14, h⟩ := bindO_some h
        refine JO.call rfl rfl rfl rfl (ok_l_toDec x0 a3 c4 x0.2.length rfl _ hy14) rfl [0] rfl rfl ?_
        rintro ⟨a15, c16⟩ -
        refine JO.reg ttOk 1 [] [] [(28, .v (.slice a7 x1.length c8))] _ rfl ⟨⟨rfl, trivial⟩, rfl⟩ ?_
        obtain ⟨y17, hy18, h⟩ := bindO_some h
        refine JO.call rfl rfl rfl rfl (ok_l_toByteS x1 a7 c8 x1.length rfl _ hy18) rfl [1] rfl rfl ?_
        rintro ⟨a19, c20⟩ -
        obtain ⟨⟨y21, y22⟩, hy23, h⟩ := bindO_some h
        refine JO.call rfl rfl rfl rfl (ok_s_Decode y13 y17 a15 c16 y13.2.length rfl a19 c20 y17.length rfl _ hy23) rfl [3, 2] rfl rfl ?_
        rintro ⟨a24, c25, a26, c27⟩ -
        refine JO.regB ttOk 6 [] [25] [(6, .bp 25 0), (7, .v (.slice a26 y22.length c27))] (.new 3 24 [.int .i64 x0.1, .slice a3 x0.2.length c4] (.new 25 26 [.int .i64 y21.1, .slice a24 y21.2.length c25] .nil)) rfl ⟨⟨rfl, rfl, trivial⟩, ⟨rfl, rfl, rfl, rfl, rfl, rfl, rfl, rfl, trivial⟩⟩ ?_
        refine JO.done rfl ?_
        refine JS.seq ?_
        refine JS.region ?_
        refine JO.reg ttOk 1 [] [] [(33, .v (.agg #[.int .i64 x0.1, .slice a3 x0.2.length c4]))] _ rfl ⟨⟨rfl, trivial⟩, rfl⟩ ?_
        obtain ⟨y28, hy29, h⟩ := bindO_some h
        refine JO.call rfl rfl rfl rfl (ok_l_toDec x0 a3 c4 x0.2.length rfl _ hy29) rfl [0] rfl rfl ?_
        rintro ⟨a30, c31⟩ -
        refine JO.regB ttOk 2 [] [31] [(8, .bp 31 0)] (.new 3 24 [.int .i64 x0.1, .slice a3 x0.2.length c4] (.new 25 26 [.int .i64 y21.1, .slice a24 y21.2.length c25] (.new 31 26 [.int .i64 y28.1, .slice a30 y28.2.length c31] .nil))) rfl ⟨⟨rfl, trivial⟩, ⟨rfl, rfl, rfl, rfl, rfl, rfl, rfl, rfl, rfl, rfl, rfl, rfl, trivial⟩⟩ ?_
        refine JO.done rfl ?_
        refine JS.seq ?_
        refine JS.region ?_
        refine JO.reg ttOk 1 [] [] [(35, .v (.slice a7 x1.length c8))] _ rfl ⟨⟨rfl, trivial⟩, rfl⟩ ?_
        obtain ⟨y32, hy33, h⟩ := bindO_some h
        refine JO.call rfl rfl rfl rfl (ok_l_toByteS x1 a7 c8 x1.length rfl _ hy33) rfl [1] rfl rfl ?_
        rintro ⟨a34, c35⟩ -
        refine JO.reg ttOk 1 [] [] [(9, .v (.slice a34 y32.length c35))] _ rfl ⟨⟨rfl, trivial⟩, rfl⟩ ?_
        refine JO.done rfl ?_
        refine JS.seq ?_
        refine JS.region ?_
        refine JO.reg ttOk 2 [] [] [(38, .v (.agg #[.int .i64 y28.1, .slice a30 y28.2.length c31])), (39, .v (.slice a34 y32.length c35))] _ rfl ⟨⟨rfl, rfl, trivial⟩, rfl⟩ ?_
        obtain ⟨⟨y36, y37⟩, hy38, h⟩ := bindO_some h
        refine JO.call rfl rfl rfl rfl (ok_i_Decode y28 y32 a30 c31 y28.2.length rfl a34 c35 y32.length rfl _ hy38) rfl [3, 2] rfl rfl ?_
        rintro ⟨a39, c40, a41, c42⟩ -
        refine JO.regB ttOk 6 [] [46] [(10, .bp 46 0), (11, .v (.slice a41 y37.length c42))] (.new 3 24 [.int .i64 x0.1, .slice a3 x0.2.length c4] (.new 25 26 [.int .i64 y21.1, .slice a24 y21.2.length c25] (.new 31 26 [.int .i64 y28.1, .slice a30 y28.2.length c31] (.new 46 26 [.int .i64 y36.1, .slice a39 y36.2.length c40] .nil)))) rfl ⟨⟨rfl, rfl, trivial⟩, ⟨rfl, rfl, rfl, rfl, rfl, rfl, rfl, rfl, rfl, rfl, rfl, rfl, rfl, rfl, rfl, rfl, trivial⟩⟩ ?_
        refine JO.done rfl ?_
        refine JS.seq ?_
        refine JS.seq ?_
        refine JS.region ?_
        refine JO.reg ttOk 2 [] [] [(43, .v (.agg #[.int .i64 y36.1, .slice a39 y36.2.length c40])), (44, .v (.agg #[.int .i64 y21.1, .slice a24 y21.2.length c25]))] _ rfl ⟨⟨rfl, rfl, trivial⟩, rfl⟩ ?_
        obtain ⟨y43, hy44, h⟩ := bindO_some h
        refine JO.call rfl rfl rfl rfl (ok_l_eqDec y36 y21 a39 c40 y36.2.length rfl a24 c25 y21.2.length rfl _ hy44) rfl [2, 6] rfl rfl ?_
        intro _ _
        refine JO.reg ttOk 4 [] [] [(47, .v (.bool (!y43))), (48, .cd [(47, false)] (.v (.slice a41 y37.length c42))), (49, .cd [(47, false)] (.v (.slice a26 y22.length c27)))] _ rfl ⟨⟨rfl, rfl, rfl, trivial⟩, rfl⟩ ?_
        obtain ⟨y45, hy46, -, h⟩ := callO_some h
        refine JO.callg rfl rfl rfl rfl (fun q124 => ok_l_eqKeyS y37 y22 a41 c42 y37.length rfl a26 c27 y22.length rfl _ (hy46 q124)) rfl [3, 7] rfl rfl ?_
        refine JO.reg ttOk 2 [] [] [(52, .v (.bool (bif (!y43) then true else (!y45))))] _ rfl ⟨⟨rfl, trivial⟩, rfl⟩ ?_
        refine JO.done rfl ?_
        refine JS.cond rfl (fun ht138 => ?_) (fun ht138 => ?_)
        · have h := condT h ht138
          refine JS.seq ?_
          refine JS.region ?_
          refine JO.reg ttOk 1 [] [] [(4, .v (.bool false))] _ rfl ⟨⟨rfl, trivial⟩, rfl⟩ ?_
          refine JO.done rfl ?_
          cases h
          exact JS.ret ttOk () trivial rfl rfl [] rfl
        · have h := condF h ht138
          refine JS.skip ?_
          refine JS.seq ?_
          refine JS.seq ?_
          obtain ⟨y48, hy49, h⟩ := bindO_some h
          obtain ⟨y52, hy53, h⟩ := bindO_some h
          refine JS.regionA rfl (.new 3 24 [.int .i64 x0.1, .slice a3 x0.2.length c4] (.new 31 26 [.int .i64 y28.1, .slice a30 y28.2.length c31] .nil)) [] [] ⟨rfl, rfl, rfl, rfl, rfl, rfl, rfl, rfl, trivial⟩ rfl (fun be54 => ?_)
          refine JA.reg ttOk panic_cx true 3 [0, 1] rfl (by kernel_rfl) [] [(53, .v (.agg #[.int .i64 y28.1, .slice a30 y28.2.length c31])), (54, .v (.agg #[.int .i64 x0.1, .slice a3 x0.2.length c4]))] ⟨rfl, rfl, rfl, rfl, rfl, rfl, rfl, rfl, trivial⟩ [] rfl rfl ⟨rfl, rfl, trivial⟩ ?_
          refine JA.one 2 (by kernel_rfl) ?_
          refine JK.call rfl rfl rfl rfl (ok_l_toDec x0 a3 c4 x0.2.length rfl _ hy49) rfl [0] rfl rfl ?_
          rintro ⟨a50, c51⟩ -
          refine JA.next ⟨rfl, rfl, rfl, rfl, rfl, rfl, rfl, rfl, trivial⟩ [] rfl ?_
          refine JA.one 3 (by kernel_rfl) ?_
          refine JK.call rfl rfl rfl rfl (ok_l_eqDec y28 y48 a30 c31 y28.2.length rfl a50 c51 y48.2.length rfl _ hy53) rfl [6, 2] rfl rfl ?_
          intro _ _
          refine JA.next ⟨rfl, rfl, rfl, rfl, rfl, rfl, rfl, rfl, trivial⟩ [] rfl ?_
          refine JA.reg ttOk panic_cx true 0 [4] rfl (by kernel_rfl) [] [(53, .v (.agg #[.int .i64 y28.1, .slice a30 y28.2.length c31])), (54, .v (.agg #[.int .i64 x0.1, .slice a3 x0.2.length c4])), (55, .v (.agg #[.int .i64 y48.1, .slice a50 y48.2.length c51])), (56, .v (.bool y52)), (57, .v (.bool (!y52)))] ⟨rfl, rfl, rfl, rfl, rfl, rfl, rfl, rfl, trivial⟩ [] rfl rfl ⟨rfl, rfl, rfl, rfl, rfl, trivial⟩ ?_
          refine JA.done (by kernel_rfl) ?_
          refine JS.boxes (B' := (.new 3 24 [.int .i64 x0.1, .slice a3 x0.2.length c4] (.new 25 26 [.int .i64 y21.1, .slice a24 y21.2.length c25] (.new 31 26 [.int .i64 y28.1, .slice a30 y28.2.length c31] (.new 46 26 [.int .i64 y36.1, .slice a39 y36.2.length c40] .nil))))) ⟨rfl, rfl, rfl, rfl, rfl, rfl, rfl, rfl, rfl, rfl, rfl, rfl, rfl, rfl, rfl, rfl, trivial⟩ ?_
          refine JS.cond rfl (fun ht137 => ?_) (fun ht137 => ?_)
          · have h := condT h ht137
            refine JS.seq ?_
            refine JS.region ?_
            refine JO.reg ttOk 1 [] [] [(4, .v (.bool false))] _ rfl ⟨⟨rfl, trivial⟩, rfl⟩ ?_
            refine JO.done rfl ?_
            cases h
            exact JS.ret ttOk () trivial rfl rfl [] rfl
          · have h := condF h ht137
            refine JS.skip ?_
            refine JS.seq ?_
            refine JS.seq ?_
            refine JS.region ?_
            refine JO.reg ttOk 2 [] [] [(58, .v (.slice a34 y32.length c35)), (59, .v (.slice a7 x1.length c8))] _ rfl ⟨⟨rfl, rfl, trivial⟩, rfl⟩ ?_
            obtain ⟨y55, hy56, h⟩ := bindO_some h
            refine JO.call rfl rfl rfl rfl (ok_l_toByteS x1 a7 c8 x1.length rfl _ hy56) rfl [1] rfl rfl ?_
            rintro ⟨a57, c58⟩ -
            obtain ⟨y59, hy60, h⟩ := bindO_some h
            refine JO.call rfl rfl rfl rfl (ok_l_eqByteS y32 y55 a34 c35 y32.length rfl a57 c58 y55.length rfl _ hy60) rfl [6, 2] rfl rfl ?_
            intro _ _
            refine JO.reg ttOk 1 [] [] [(62, .v (.bool (!y59)))] _ rfl ⟨⟨rfl, trivial⟩, rfl⟩ ?_
            refine JO.done rfl ?_
            refine JS.cond rfl (fun ht136 => ?_) (fun ht136 => ?_)
            · have h := condT h ht136
              refine JS.seq ?_
              refine JS.region ?_
              refine JO.reg ttOk 1 [] [] [(4, .v (.bool false))] _ rfl ⟨⟨rfl, trivial⟩, rfl⟩ ?_
              refine JO.done rfl ?_
              cases h
              exact JS.ret ttOk () trivial rfl rfl [] rfl
            · have h := condF h ht136
              refine JS.skip ?_
              refine JS.seq ?_
              refine JS.region ?_
              refine JO.reg ttOk 1 [] [] [(12, .v (.int .i64 1))] _ rfl ⟨⟨rfl, trivial⟩, rfl⟩ ?_
              refine JO.done rfl ?_
              refine JS.seq ?_
              refine JS.region ?_
              refine JO.reg ttOk 2 [] [] [(63, .v (.agg #[.int .i64 y28.1, .slice a30 y28.2.length c31])), (64, .v (.int .i64 1))] _ rfl ⟨⟨rfl, rfl, trivial⟩, rfl⟩ ?_
              obtain ⟨⟨y61, y62⟩, hy63, h⟩ := bindO_some h
              refine JO.callX rfl rfl rfl rfl (ok_l_markDec y28 1 a30 c31 y28.2.length rfl _ hy63) rfl [5] rfl [] rfl rfl ?_
              intro _ _
              refine JO.know 2 rfl fun hs64 => ?_
              refine JO.reg ttOk 1 [] [] [(12, .v (.int .i64 y61))] _ rfl ⟨⟨rfl, trivial⟩, rfl⟩ ?_
              refine JO.done rfl ?_
              refine JS.seq ?_
              refine JS.region ?_
              refine JO.reg ttOk 2 [] [] [(66, .v (.slice a34 y32.length c35)), (67, .v (.int .i64 y61))] _ rfl ⟨⟨rfl, rfl, trivial⟩, rfl⟩ ?_
              obtain ⟨⟨y65, y66⟩, hy67, h⟩ := bindO_some h
              refine JO.callX rfl rfl rfl rfl (ok_l_markByteS y32 y61 a34 c35 y32.length rfl _ hy67) rfl [5] rfl [] rfl rfl ?_
              intro _ _
              refine JO.know 2 rfl fun hs68 => ?_
              refine JO.reg ttOk 1 [] [] [(12, .v (.int .i64 y65))] _ rfl ⟨⟨rfl, trivial⟩, rfl⟩ ?_
              refine JO.done rfl ?_
              refine JS.seq ?_
              refine JS.seq ?_
              refine JS.region ?_
              refine JO.reg ttOk 5 [] [] [(71, .v (.bool (decide (y65 < 0)))), (72, .cd [(71, false)] (.v (.agg #[.int .i64 y36.1, .slice a39 y36.2.length c40]))), (73, .cd [(71, false)] (.v (.agg #[.int .i64 y21.1, .slice a24 y21.2.length c25])))] _ rfl ⟨⟨rfl, rfl, rfl, trivial⟩, rfl⟩ ?_
              obtain ⟨y69, hy70, -, h⟩ := callO_some h
              refine JO.callg rfl rfl rfl rfl (fun q125 => ok_l_eqDec y36 y21 a39 c40 y36.2.length rfl a24 c25 y21.2.length rfl _ (hy70 q125)) rfl [6, 8] rfl rfl ?_
              refine JO.reg ttOk 5 [] [] [(77, .v (.bool (bif (decide (y65 < 0)) then true else (!y69)))), (78, .cd [(77, false)] (.v (.slice a41 y37.length c42))), (79, .cd [(77, false)] (.v (.slice a26 y22.length c27)))] _ rfl ⟨⟨rfl, rfl, rfl, trivial⟩, rfl⟩ ?_
              obtain ⟨y72, hy73, -, h⟩ := callO_some h
              refine JO.callg rfl rfl rfl rfl (fun q126 => ok_l_eqKeyS y37 y22 a41 c42 y37.length rfl a26 c27 y22.length rfl _ (hy73 q126)) rfl [7, 9] rfl rfl ?_
              refine JO.reg ttOk 2 [] [] [(82, .v (.bool (bif (bif (decide (y65 < 0)) then true else (!y69)) then true else (!y72))))] _ rfl ⟨⟨rfl, trivial⟩, rfl⟩ ?_
              refine JO.done rfl ?_
              refine JS.cond rfl (fun ht135 => ?_) (fun ht135 => ?_)
              · have h := condT h ht135
                refine JS.seq ?_
                refine JS.region ?_
                refine JO.reg ttOk 1 [] [] [(4, .v (.bool false))] _ rfl ⟨⟨rfl, trivial⟩, rfl⟩ ?_
                refine JO.done rfl ?_
                cases h
                exact JS.ret ttOk () trivial rfl rfl [] rfl
              · have h := condF h ht135
                refine JS.skip ?_
                refine JS.seq ?_
                refine JS.region ?_
                refine JO.reg ttOk 1 [] [] [(13, .v (.int .i64 1))] _ rfl ⟨⟨rfl, trivial⟩, rfl⟩ ?_
                refine JO.done rfl ?_
                refine JS.seq ?_
                refine JS.region ?_
                refine JO.reg ttOk 2 [] [] [(83, .v (.agg #[.int .i64 y36.1, .slice a39 y36.2.length c40])), (84, .v (.int .i64 1))] _ rfl ⟨⟨rfl, rfl, trivial⟩, rfl⟩ ?_
                obtain ⟨⟨y75, y76⟩, hy77, h⟩ := bindO_some h
                refine JO.callX rfl rfl rfl rfl (ok_l_markDec y36 1 a39 c40 y36.2.length rfl _ hy77) rfl [4] rfl [] rfl rfl ?_
                intro _ _
                refine JO.know 2 rfl fun hs78 => ?_
                refine JO.reg ttOk 1 [] [] [(13, .v (.int .i64 y75))] _ rfl ⟨⟨rfl, trivial⟩, rfl⟩ ?_
                refine JO.done rfl ?_
                refine JS.seq ?_
                refine JS.region ?_
                refine JO.reg ttOk 2 [] [] [(86, .v (.slice a41 y37.length c42)), (87, .v (.int .i64 y75))] _ rfl ⟨⟨rfl, rfl, trivial⟩, rfl⟩ ?_
                obtain ⟨⟨y79, y80⟩, hy81, h⟩ := bindO_some h
                refine JO.callX rfl rfl rfl rfl (ok_l_markKeyS y37 y75 a41 c42 y37.length rfl _ hy81) rfl [5] rfl [] rfl rfl ?_
                intro _ _
                refine JO.know 2 rfl fun hs82 => ?_
                refine JO.reg ttOk 1 [] [] [(13, .v (.int .i64 y79))] _ rfl ⟨⟨rfl, trivial⟩, rfl⟩ ?_
                refine JO.done rfl ?_
                refine JS.seq ?_
                refine JS.region ?_
                refine JO.reg ttOk 1 [] [] [(14, .v (.int .i64 1))] _ rfl ⟨⟨rfl, trivial⟩, rfl⟩ ?_
                refine JO.done rfl ?_
                refine JS.seq ?_
                refine JS.region ?_
                refine JO.reg ttOk 2 [] [] [(89, .v (.agg #[.int .i64 y36.1, .slice a39 y36.2.length c40])), (90, .v (.int .i64 1))] _ rfl ⟨⟨rfl, rfl, trivial⟩, rfl⟩ ?_
                obtain ⟨y83, hy84, h⟩ := bindO_some h
                refine JO.call rfl rfl rfl rfl (ok_l_heldDec (y36.1, y76) 1 a39 c40 y36.2.length hs78.len.symm _ hy84) rfl [3] rfl rfl ?_
                intro _ _
                refine JO.reg ttOk 1 [] [] [(14, .v (.int .i64 y83))] _ rfl ⟨⟨rfl, trivial⟩, rfl⟩ ?_
                refine JO.done rfl ?_
                refine JS.seq ?_
                refine JS.seq ?_
                refine JS.region ?_
                refine JO.reg ttOk 2 [] [] [(93, .v (.bool (decide (y83 < 0))))] _ rfl ⟨⟨rfl, trivial⟩, rfl⟩ ?_
                refine JO.done rfl ?_
                refine JS.cond rfl (fun ht134 => ?_) (fun ht134 => ?_)
                · have h := condT h ht134
                  refine JS.seq ?_
                  refine JS.region ?_
                  refine JO.reg ttOk 1 [] [] [(4, .v (.bool false))] _ rfl ⟨⟨rfl, trivial⟩, rfl⟩ ?_
                  refine JO.done rfl ?_
                  cases h
                  exact JS.ret ttOk () trivial rfl rfl [] rfl
                · have h := condF h ht134
                  refine JS.skip ?_
                  refine JS.seq ?_
                  refine JS.region ?_
                  refine JO.reg ttOk 2 [] [] [(94, .v (.slice a41 y37.length c42)), (95, .v (.int .i64 y83))] _ rfl ⟨⟨rfl, rfl, trivial⟩, rfl⟩ ?_
                  obtain ⟨y85, hy86, h⟩ := bindO_some h
                  refine JO.call rfl rfl rfl rfl (ok_l_heldKeyS y80 y83 a41 c42 y37.length hs82.len.symm _ hy86) rfl [2] rfl rfl ?_
                  intro _ _
                  refine JO.reg ttOk 1 [] [] [(14, .v (.int .i64 y85))] _ rfl ⟨⟨rfl, trivial⟩, rfl⟩ ?_
                  refine JO.done rfl ?_
                  refine JS.seq ?_
                  refine JS.seq ?_
                  refine JS.region ?_
                  refine JO.reg ttOk 2 [] [] [(98, .v (.bool (decide (y85 < 0))))] _ rfl ⟨⟨rfl, trivial⟩, rfl⟩ ?_
                  refine JO.done rfl ?_
                  refine JS.cond rfl (fun ht133 => ?_) (fun ht133 => ?_)
                  · have h := condT h ht133
                    refine JS.seq ?_
                    refine JS.region ?_
                    refine JO.reg ttOk 1 [] [] [(4, .v (.bool false))] _ rfl ⟨⟨rfl, trivial⟩, rfl⟩ ?_
                    refine JO.done rfl ?_
                    cases h
                    exact JS.ret ttOk () trivial rfl rfl [] rfl
                  · have h := condF h ht133
                    refine JS.skip ?_
                    refine JS.seq ?_
                    refine JS.seq ?_
                    refine JS.region ?_
                    refine JO.reg ttOk 3 [] [] [(101, .v (.bool (!(decide (y85 = y79)))))] _ rfl ⟨⟨rfl, trivial⟩, rfl⟩ ?_
                    refine JO.done rfl ?_
                    refine JS.cond rfl (fun ht132 => ?_) (fun ht132 => ?_)
                    · have h := condT h ht132
                      refine JS.seq ?_
                      refine JS.region ?_
                      refine JO.reg ttOk 1 [] [] [(4, .v (.bool false))] _ rfl ⟨⟨rfl, trivial⟩, rfl⟩ ?_
                      refine JO.done rfl ?_
                      cases h
                      exact JS.ret ttOk () trivial rfl rfl [] rfl
                    · have h := condF h ht132
                      refine JS.skip ?_
                      refine JS.seq ?_
                      refine JS.region ?_
                      refine JO.reg ttOk 1 [] [] [(103, .v (.agg #[.int .i64 x0.1, .slice a3 x0.2.length c4]))] _ rfl ⟨⟨rfl, trivial⟩, rfl⟩ ?_
                      obtain ⟨y87, hy88, h⟩ := bindO_some h
                      refine JO.call rfl rfl rfl rfl (ok_l_toDec x0 a3 c4 x0.2.length rfl _ hy88) rfl [0] rfl rfl ?_
                      rintro ⟨a89, c90⟩ -
                      refine JO.reg ttOk 1 [] [] [(105, .v (.slice a7 x1.length c8))] _ rfl ⟨⟨rfl, trivial⟩, rfl⟩ ?_
                      obtain ⟨y91, hy92, h⟩ := bindO_some h
                      refine JO.call rfl rfl rfl rfl (ok_l_toByteS x1 a7 c8 x1.length rfl _ hy92) rfl [1] rfl rfl ?_
                      rintro ⟨a93, c94⟩ -
                      obtain ⟨⟨y95, y96⟩, hy97, h⟩ := bindO_some h
                      refine JO.call rfl rfl rfl rfl (ok_i_Decode y87 y91 a89 c90 y87.2.length rfl a93 c94 y91.length rfl _ hy97) rfl [3, 2] rfl rfl ?_
                      rintro ⟨a98, c99, a100, c101⟩ -
                      refine JO.regB ttOk 6 [] [109] [(15, .bp 109 0), (16, .v (.slice a100 y96.length c101))] (.new 25 26 [.int .i64 y21.1, .slice a24 y21.2.length c25] (.new 46 26 [.int .i64 y36.1, .slice a39 y36.2.length c40] (.new 109 26 [.int .i64 y95.1, .slice a98 y95.2.length c99] .nil))) rfl ⟨⟨rfl, rfl, trivial⟩, ⟨rfl, rfl, rfl, rfl, rfl, rfl, rfl, rfl, rfl, rfl, rfl, rfl, trivial⟩⟩ ?_
                      refine JO.done rfl ?_
                      refine JS.seq ?_
                      refine JS.seq ?_
                      refine JS.region ?_
                      refine JO.reg ttOk 2 [] [] [(110, .v (.agg #[.int .i64 y95.1, .slice a98 y95.2.length c99])), (111, .v (.agg #[.int .i64 y21.1, .slice a24 y21.2.length c25]))] _ rfl ⟨⟨rfl, rfl, trivial⟩, rfl⟩ ?_
                      obtain ⟨y102, hy103, h⟩ := bindO_some h
                      refine JO.call rfl rfl rfl rfl (ok_l_eqDec y95 y21 a98 c99 y95.2.length rfl a24 c25 y21.2.length rfl _ hy103) rfl [2, 12] rfl rfl ?_
                      intro _ _
                      refine JO.reg ttOk 4 [] [] [(114, .v (.bool (!y102))), (115, .cd [(114, false)] (.v (.slice a100 y96.length c101))), (116, .cd [(114, false)] (.v (.slice a26 y22.length c27)))] _ rfl ⟨⟨rfl, rfl, rfl, trivial⟩, rfl⟩ ?_
                      obtain ⟨y104, hy105, -, h⟩ := callO_some h
                      refine JO.callg rfl rfl rfl rfl (fun q127 => ok_l_eqKeyS y96 y22 a100 c101 y96.length rfl a26 c27 y22.length rfl _ (hy105 q127)) rfl [3, 13] rfl rfl ?_
                      refine JO.reg ttOk 2 [] [] [(119, .v (.bool (bif (!y102) then true else (!y104))))] _ rfl ⟨⟨rfl, trivial⟩, rfl⟩ ?_
                      refine JO.done rfl ?_
                      refine JS.cond rfl (fun ht131 => ?_) (fun ht131 => ?_)
                      · have h := condT h ht131
                        refine JS.seq ?_
                        refine JS.region ?_
                        refine JO.reg ttOk 1 [] [] [(4, .v (.bool false))] _ rfl ⟨⟨rfl, trivial⟩, rfl⟩ ?_
                        refine JO.done rfl ?_
                        cases h
                        exact JS.ret ttOk () trivial rfl rfl [] rfl
                      · have h := condF h ht131
                        refine JS.skip ?_
                        refine JS.seq ?_
                        refine JS.region ?_
                        refine JO.reg ttOk 1 [] [] [(14, .v (.int .i64 1))] _ rfl ⟨⟨rfl, trivial⟩, rfl⟩ ?_
                        refine JO.done rfl ?_
                        refine JS.seq ?_
                        refine JS.region ?_
                        refine JO.reg ttOk 2 [] [] [(120, .v (.agg #[.int .i64 y36.1, .slice a39 y36.2.length c40])), (121, .v (.int .i64 1))] _ rfl ⟨⟨rfl, rfl, trivial⟩, rfl⟩ ?_
                        obtain ⟨y107, hy108, h⟩ := bindO_some h
                        refine JO.call rfl rfl rfl rfl (ok_l_heldDec (y36.1, y76) 1 a39 c40 y36.2.length hs78.len.symm _ hy108) rfl [7] rfl rfl ?_
                        intro _ _
                        refine JO.reg ttOk 1 [] [] [(14, .v (.int .i64 y107))] _ rfl ⟨⟨rfl, trivial⟩, rfl⟩ ?_
                        refine JO.done rfl ?_
                        refine JS.seq ?_
                        refine JS.seq ?_
                        refine JS.region ?_
                        refine JO.reg ttOk 2 [] [] [(124, .v (.bool (decide (y107 < 0))))] _ rfl ⟨⟨rfl, trivial⟩, rfl⟩ ?_
                        refine JO.done rfl ?_
                        refine JS.cond rfl (fun ht130 => ?_) (fun ht130 => ?_)
                        · have h := condT h ht130
                          refine JS.seq ?_
                          refine JS.region ?_
                          refine JO.reg ttOk 1 [] [] [(4, .v (.bool false))] _ rfl ⟨⟨rfl, trivial⟩, rfl⟩ ?_
                          refine JO.done rfl ?_
                          cases h
                          exact JS.ret ttOk () trivial rfl rfl [] rfl
                        · have h := condF h ht130
                          refine JS.skip ?_
                          refine JS.seq ?_
                          refine JS.region ?_
                          refine JO.reg ttOk 2 [] [] [(125, .v (.slice a41 y37.length c42)), (126, .v (.int .i64 y107))] _ rfl ⟨⟨rfl, rfl, trivial⟩, rfl⟩ ?_
                          obtain ⟨y109, hy110, h⟩ := bindO_some h
                          refine JO.call rfl rfl rfl rfl (ok_l_heldKeyS y80 y107 a41 c42 y37.length hs82.len.symm _ hy110) rfl [6] rfl rfl ?_
                          intro _ _
                          refine JO.reg ttOk 1 [] [] [(14, .v (.int .i64 y109))] _ rfl ⟨⟨rfl, trivial⟩, rfl⟩ ?_
                          refine JO.done rfl ?_
                          refine JS.seq ?_
                          refine JS.seq ?_
                          refine JS.region ?_
                          refine JO.reg ttOk 2 [] [] [(129, .v (.bool (decide (y109 < 0))))] _ rfl ⟨⟨rfl, trivial⟩, rfl⟩ ?_
                          refine JO.done rfl ?_
                          refine JS.cond rfl (fun ht129 => ?_) (fun ht129 => ?_)
                          · have h := condT h ht129
                            refine JS.seq ?_
                            refine JS.region ?_
                            refine JO.reg ttOk 1 [] [] [(4, .v (.bool false))] _ rfl ⟨⟨rfl, trivial⟩, rfl⟩ ?_
                            refine JO.done rfl ?_
                            cases h
                            exact JS.ret ttOk () trivial rfl rfl [] rfl
                          · have h := condF h ht129
                            refine JS.skip ?_
                            refine JS.seq ?_
                            refine JS.seq ?_
                            refine JS.region ?_
                            refine JO.reg ttOk 3 [] [] [(132, .v (.bool (!(decide (y109 = y79)))))] _ rfl ⟨⟨rfl, trivial⟩, rfl⟩ ?_
                            refine JO.done rfl ?_
                            refine JS.cond rfl (fun ht128 => ?_) (fun ht128 => ?_)
                            · have h := condT h ht128
                              refine JS.seq ?_
                              refine JS.region ?_
                              refine JO.reg ttOk 1 [] [] [(4, .v (.bool false))] _ rfl ⟨⟨rfl, trivial⟩, rfl⟩ ?_
                              refine JO.done rfl ?_
                              cases h
                              exact JS.ret ttOk () trivial rfl rfl [] rfl
                            · have h := condF h ht128
                              refine JS.skip ?_
                              refine JS.seq ?_
                              refine JS.region ?_
                              refine JO.reg ttOk 1 [] [] [(4, .v (.bool true))] _ rfl ⟨⟨rfl, trivial⟩, rfl⟩ ?_
                              refine JO.done rfl ?_
                              cases h
                              exact JS.ret ttOk () trivial rfl rfl [] rfl

end
end Go.Eng
