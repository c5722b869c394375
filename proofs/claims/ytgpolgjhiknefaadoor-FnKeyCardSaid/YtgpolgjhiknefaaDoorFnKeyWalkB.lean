/- The walks of the functions that FnKey reaches: what each computes, as a plain function (M_..), and that the model computes it (ok_..). Condition of each: that the plain function answers. -/
import Derived.Test.YtgpolgjhiknefaaDoorFnKeyWalkA
set_option linter.unusedVariables false
set_option linter.unusedSimpArgs false
namespace Go.Eng
open Go Go.Proofs
noncomputable section

def M_i_TextKey_L1 (x0 : List UInt8) (y2 : List (List UInt8)) (j24 : Unit → Option ((Int × Int) × Bool)) (k19 : Int → Option ((Int × Int) × Bool)) : Int → Option ((Int × Int) × Bool) := fun x9 =>
  (bif (decide (x9 < (y2.length : Int))) then
  (guardO (0 ≤ x9 ∧ x9 < (y2.length : Int)) <|
  (bif (decide ((at' y2 x9) = x0)) then
  some (((W (4 + x9)), 0), true)
  else
  k19 (W (x9 + 1))))
  else
  j24 ())

def M_i_TextKey (x0 : List UInt8) : Option ((Int × Int) × Bool) :=
  (bindO (M_strings_Split ([69, 78, 84, 69, 82, 32, 66, 65, 67, 75, 32, 84, 65, 66, 32, 69, 83, 67, 32, 85, 80, 32, 68, 79, 87, 78, 32, 82, 73, 71, 72, 84, 32, 76, 69, 70, 84, 32, 72, 79, 77, 69, 32, 69, 78, 68, 32, 68, 69, 76, 69, 84, 69, 32, 77, 66, 65, 67, 75, 32, 66, 65, 68] : List UInt8) ([32] : List UInt8)) fun (y2 : List (List UInt8)) =>
  (joinO (fun (_ : Unit) =>
  (bindO (M_i_RunesOf x0) fun (y28, y29) =>
  (joinO (fun ((x48, x49) : Int × Int) =>
  (bindO (M_i_KeyText (x48, x49)) fun (y61 : List UInt8) =>
  (bif (!(decide (y61 = x0))) then
  some ((0, 0), false)
  else
  some ((x48, x49), true)))) fun j50 =>
  (bif (bif (!y29) then true else (decide ((y28.length : Int) = 0))) then
  some ((0, 0), false)
  else
  (bif (decide (x0 = ([83, 80, 67] : List UInt8))) then
  some ((1, 32), true)
  else
  (bif (decide ((y28.length : Int) = 1)) then
  (guardO (0 ≤ (0 : Int) ∧ 0 < (y28.length : Int)) <|
  j50 (1, (at' y28 0)))
  else
  (guardO (((decide ((y28.length : Int) = 3)) = true) → 0 ≤ (0 : Int) ∧ (0 : Int) ≤ (2 : Int) ∧ (2 : Int) ≤ (x0.length : Int)) <|
  (bif (bif (decide ((y28.length : Int) = 3)) then (decide ((sub' x0 0 (2 : Int)) = ([67, 45] : List UInt8))) else false) then
  (guardO (0 ≤ (2 : Int) ∧ 2 < (y28.length : Int)) <|
  j50 (2, (at' y28 2)))
  else
  (guardO (((decide ((y28.length : Int) = 3)) = true) → 0 ≤ (0 : Int) ∧ (0 : Int) ≤ (2 : Int) ∧ (2 : Int) ≤ (x0.length : Int)) <|
  (bif (bif (decide ((y28.length : Int) = 3)) then (decide ((sub' x0 0 (2 : Int)) = ([77, 45] : List UInt8))) else false) then
  (guardO (0 ≤ (2 : Int) ∧ 2 < (y28.length : Int)) <|
  j50 (3, (at' y28 2)))
  else
  j50 (0, 0))))))))))) fun j24 =>
  (fixF (M_i_TextKey_L1 x0 y2 j24) FUEL 0)))

theorem ok_i_TextKey (x0 : List UInt8) (r : (Int × Int) × Bool) (h : M_i_TextKey x0 = some r) :
    FC Tryd.prog 8 [.string (bs x0)] [] (fun _ : Unit => True) (fun _ => .tuple #[.agg #[.int .i64 r.1.1, .int .i64 r.1.2], .bool r.2]) (fun _ => []) :=
  by
    refine FC.of (T := TTx) Tryd.call8 Tryd.func8 rfl rfl fun w0 => ?_
    unfold M_i_TextKey at h
    refine JS.seq (JS.region (JO.regB ttOk 2 [] [1] [(2, .bp 1 0)] (.new 1 24 [.int .i64 0, .int .i64 0] .nil) rfl ⟨⟨rfl, trivial⟩, ⟨rfl, rfl, rfl, rfl, trivial⟩⟩ (JO.done rfl (JS.seq (JS.seq (JS.region ?_))))))
    obtain ⟨y2, hy3, h⟩ := bindO_some h
    refine JO.call rfl rfl rfl rfl (ok_strings_Split ([69, 78, 84, 69, 82, 32, 66, 65, 67, 75, 32, 84, 65, 66, 32, 69, 83, 67, 32, 85, 80, 32, 68, 79, 87, 78, 32, 82, 73, 71, 72, 84, 32, 76, 69, 70, 84, 32, 72, 79, 77, 69, 32, 69, 78, 68, 32, 68, 69, 76, 69, 84, 69, 32, 77, 66, 65, 67, 75, 32, 66, 65, 68] : List UInt8) ([32] : List UInt8) _ hy3) rfl [] rfl rfl ?_
    rintro ⟨a4, c5⟩ -
    refine JO.reg ttOk 2 [] [] [(10, .v (.int .i64 (y2.length : Int))), (11, .v (.int .i64 0))] _ rfl ⟨⟨rfl, rfl, trivial⟩, rfl⟩ (JO.done rfl ?_)
    obtain ⟨j24, hj81, h⟩ := joinO_some h
    refine JS.blockJ (ι := Unit) ⟨fun _ => j24 () = some r, fun _ => [(0, .v (.string (bs x0))), (2, .bp 1 0)], fun _ => (.new 1 24 [.int .i64 0, .int .i64 0] .nil), fun _ => [], fun _ => [], fun _ => 0⟩ ?_ ?_
    · refine JS.loop (ι := Nat × Int) ⟨fun z => fixF (M_i_TextKey_L1 x0 y2 j24) z.1 z.2 = some r, fun z => [(0, .v (.string (bs x0))), (2, .bp 1 0), (9, .v (.slice a4 y2.length c5)), (10, .v (.int .i64 (y2.length : Int))), (11, .v (.int .i64 z.2))], fun z => (.new 1 24 [.int .i64 0, .int .i64 0] .nil), fun z => [], fun z => [⟨.str, ⟨a4, y2.length, c5⟩, y2⟩], fun z => z.1⟩ (FUEL, 0) h ⟨rfl, rfl, rfl, rfl, rfl, trivial⟩ ⟨rfl, rfl, rfl, rfl, trivial⟩ [] rfl [0] rfl ?_
      rintro ⟨n20, x9⟩ h
      obtain ⟨n20, rfl, h⟩ := fixF_some h
      rw [M_i_TextKey_L1] at h
      refine JS.seq (JS.region (JO.reg ttOk 1 [] [] [(12, .v (.bool (decide (x9 < (y2.length : Int)))))] _ rfl ⟨⟨rfl, trivial⟩, rfl⟩ (JO.done rfl (JS.seq ?_))))
      refine JS.cond rfl (fun ht68 => ?_) (fun ht68 => ?_)
      · have h := condT h ht68
        refine JS.skip (JS.seq (JS.block (JS.seq (JS.region (JO.know 0 rfl fun hs66 => ?_)))))
        obtain ⟨g13, h⟩ := guardO_some h
        refine JO.reg ttOk 2 [] [] [(13, .v (.int .i64 x9)), (14, .ep ⟨a4, y2.length, c5⟩ (Int.toNat x9 * 1))] _ rfl ⟨hs66.ix g13, ⟨rfl, rfl, trivial⟩, rfl⟩ (JO.load ttOk rfl rfl rfl rfl rfl rfl rfl 0 rfl rfl (Int.toNat x9) 0 (at' y2 x9) ⟨at_some g13, rfl⟩ rfl rfl (JO.reg ttOk 2 [] [] [(4, .v (.int .i64 x9)), (5, .v (.string (bs (at' y2 x9))))] _ rfl ⟨⟨rfl, rfl, trivial⟩, rfl⟩ (JO.done rfl (JS.seq (JS.region (JO.reg ttOk 3 [] [] [(18, .v (.bool (decide ((at' y2 x9) = x0))))] _ rfl ⟨⟨rfl, trivial⟩, rfl⟩ (JO.done rfl ?_)))))))
        refine JS.cond rfl (fun ht67 => ?_) (fun ht67 => ?_)
        · have h := condT h ht67
          refine JS.seq (JS.region (JO.regB ttOk 5 [(W (4 + x9))] [] [(3, .v (.bool true))] (.new 1 24 [.int .i64 (W (4 + x9)), .int .i64 0] .nil) rfl ⟨⟨trivial, rfl⟩, ⟨rfl, trivial⟩, ⟨rfl, rfl, rfl, rfl, trivial⟩⟩ (JO.done rfl ?_)))
          cases h
          exact JS.ret ttOk () trivial rfl rfl [] rfl
        have h := condF h ht67
        refine JS.skip (JS.endB (JS.region (JO.reg ttOk 2 [(W (x9 + 1))] [] [(11, .v (.int .i64 (W (x9 + 1))))] _ rfl ⟨⟨trivial, rfl⟩, ⟨rfl, trivial⟩, rfl⟩ (JO.done rfl (JS.endL (n20, (W (x9 + 1))) h (Nat.lt_succ_self _) ⟨rfl, rfl, rfl, rfl, rfl, trivial⟩ ⟨rfl, rfl, rfl, rfl, trivial⟩ [] rfl [0] rfl)))))
      have h := condF h ht68
      refine JS.exit rfl (JS.endJ () h ⟨rfl, rfl, trivial⟩ ⟨rfl, rfl, rfl, rfl, trivial⟩ [] rfl [] rfl)
    rintro _ h
    subst hj81
    refine JS.seq (JS.region (JO.reg ttOk 1 [] [] [(24, .v (.string (bs x0)))] _ rfl ⟨⟨rfl, trivial⟩, rfl⟩ ?_))
    obtain ⟨⟨y28, y29⟩, hy30, h⟩ := bindO_some h
    refine JO.call rfl rfl rfl rfl (ok_i_RunesOf x0 _ hy30) rfl [] rfl rfl ?_
    rintro ⟨a31, c32⟩ -
    refine JO.reg ttOk 5 [] [] [(6, .v (.slice a31 y28.length c32)), (7, .v (.bool y29))] _ rfl ⟨⟨rfl, rfl, trivial⟩, rfl⟩ (JO.done rfl (JS.seq (JS.region (JO.regB ttOk 1 [] [24] [(8, .bp 24 0)] (.new 1 24 [.int .i64 0, .int .i64 0] (.new 24 24 [.int .i64 0, .int .i64 0] .nil)) rfl ⟨⟨rfl, trivial⟩, ⟨rfl, rfl, rfl, rfl, rfl, rfl, rfl, rfl, trivial⟩⟩ (JO.done rfl (JS.seq ?_))))))
    obtain ⟨j50, hj80, h⟩ := joinO_some h
    refine JS.blockJ (ι := Int × Int) ⟨fun z => j50 (z.1, z.2) = some r, fun z => [(0, .v (.string (bs x0))), (2, .bp 1 0), (8, .bp 24 0)], fun z => (.new 1 24 [.int .i64 0, .int .i64 0] (.new 24 24 [.int .i64 z.1, .int .i64 z.2] .nil)), fun z => [], fun z => [], fun z => 0⟩ ?_ ?_
    · refine JS.seq (JS.region (JO.reg ttOk 8 [] [] [(28, .v (.bool (bif (!y29) then true else (decide ((y28.length : Int) = 0)))))] _ rfl ⟨⟨rfl, trivial⟩, rfl⟩ (JO.done rfl ?_)))
      refine JS.cond rfl (fun ht78 => ?_) (fun ht78 => ?_)
      · have h := condT h ht78
        refine JS.seq (JS.region (JO.regB ttOk 3 [] [] [(3, .v (.bool false))] (.new 1 24 [.int .i64 0, .int .i64 0] .nil) rfl ⟨⟨rfl, trivial⟩, ⟨rfl, rfl, rfl, rfl, trivial⟩⟩ (JO.done rfl ?_)))
        cases h
        exact JS.ret ttOk () trivial rfl rfl [] rfl
      have h := condF h ht78
      refine JS.seq (JS.region (JO.reg ttOk 3 [] [] [(37, .v (.bool (decide (x0 = ([83, 80, 67] : List UInt8)))))] _ rfl ⟨⟨rfl, trivial⟩, rfl⟩ (JO.done rfl ?_)))
      refine JS.cond rfl (fun ht77 => ?_) (fun ht77 => ?_)
      · have h := condT h ht77
        refine JS.seq (JS.region (JO.regB ttOk 3 [] [] [(3, .v (.bool true))] (.new 1 24 [.int .i64 1, .int .i64 32] .nil) rfl ⟨⟨rfl, trivial⟩, ⟨rfl, rfl, rfl, rfl, trivial⟩⟩ (JO.done rfl ?_)))
        cases h
        exact JS.ret ttOk () trivial rfl rfl [] rfl
      have h := condF h ht77
      refine JS.seq (JS.region (JO.reg ttOk 4 [] [] [(41, .v (.bool (decide ((y28.length : Int) = 1))))] _ rfl ⟨⟨rfl, trivial⟩, rfl⟩ (JO.done rfl ?_)))
      refine JS.cond rfl (fun ht76 => ?_) (fun ht76 => ?_)
      · have h := condT h ht76
        refine JS.region (JO.know 0 rfl fun hs69 => ?_)
        obtain ⟨g34, h⟩ := guardO_some h
        refine JO.reg ttOk 2 [] [] [(46, .ep ⟨a31, y28.length, c32⟩ (Int.toNat 0 * 1))] _ rfl ⟨hs69.ix g34, ⟨rfl, trivial⟩, rfl⟩ (JO.load ttOk rfl rfl rfl rfl rfl rfl rfl 0 rfl rfl (Int.toNat 0) 0 (at' y28 0) ⟨at_some g34, rfl⟩ rfl rfl (JO.regB ttOk 2 [] [] [] (.new 1 24 [.int .i64 0, .int .i64 0] (.new 24 24 [.int .i64 1, .int .i64 (at' y28 0)] .nil)) rfl ⟨trivial, ⟨rfl, rfl, rfl, rfl, rfl, rfl, rfl, rfl, trivial⟩⟩ (JO.done rfl (JS.endB (JS.endJ (1, (at' y28 0)) h ⟨rfl, rfl, rfl, trivial⟩ ⟨rfl, rfl, rfl, rfl, rfl, rfl, rfl, rfl, trivial⟩ [] rfl [] rfl)))))
      have h := condF h ht76
      refine JS.seq (JS.region ?_)
      obtain ⟨g35, h⟩ := guardO_some h
      refine JO.reg ttOk 9 [] [] [(49, .v (.bool (bif (decide ((y28.length : Int) = 3)) then (decide ((sub' x0 0 (2 : Int)) = ([67, 45] : List UInt8))) else false)))] _ rfl ⟨(fun q70 => (g35 q70)), ⟨rfl, trivial⟩, rfl⟩ (JO.done rfl ?_)
      refine JS.cond rfl (fun ht75 => ?_) (fun ht75 => ?_)
      · have h := condT h ht75
        refine JS.region (JO.know 0 rfl fun hs71 => ?_)
        obtain ⟨g38, h⟩ := guardO_some h
        refine JO.reg ttOk 2 [] [] [(59, .ep ⟨a31, y28.length, c32⟩ (Int.toNat 2 * 1))] _ rfl ⟨hs71.ix g38, ⟨rfl, trivial⟩, rfl⟩ (JO.load ttOk rfl rfl rfl rfl rfl rfl rfl 0 rfl rfl (Int.toNat 2) 0 (at' y28 2) ⟨at_some g38, rfl⟩ rfl rfl (JO.regB ttOk 2 [] [] [] (.new 1 24 [.int .i64 0, .int .i64 0] (.new 24 24 [.int .i64 2, .int .i64 (at' y28 2)] .nil)) rfl ⟨trivial, ⟨rfl, rfl, rfl, rfl, rfl, rfl, rfl, rfl, trivial⟩⟩ (JO.done rfl (JS.endB (JS.endJ (2, (at' y28 2)) h ⟨rfl, rfl, rfl, trivial⟩ ⟨rfl, rfl, rfl, rfl, rfl, rfl, rfl, rfl, trivial⟩ [] rfl [] rfl)))))
      have h := condF h ht75
      refine JS.seq (JS.region ?_)
      obtain ⟨g39, h⟩ := guardO_some h
      refine JO.reg ttOk 9 [] [] [(62, .v (.bool (bif (decide ((y28.length : Int) = 3)) then (decide ((sub' x0 0 (2 : Int)) = ([77, 45] : List UInt8))) else false)))] _ rfl ⟨(fun q72 => (g39 q72)), ⟨rfl, trivial⟩, rfl⟩ (JO.done rfl ?_)
      refine JS.cond rfl (fun ht74 => ?_) (fun ht74 => ?_)
      · have h := condT h ht74
        refine JS.region (JO.know 0 rfl fun hs73 => ?_)
        obtain ⟨g42, h⟩ := guardO_some h
        refine JO.reg ttOk 2 [] [] [(72, .ep ⟨a31, y28.length, c32⟩ (Int.toNat 2 * 1))] _ rfl ⟨hs73.ix g42, ⟨rfl, trivial⟩, rfl⟩ (JO.load ttOk rfl rfl rfl rfl rfl rfl rfl 0 rfl rfl (Int.toNat 2) 0 (at' y28 2) ⟨at_some g42, rfl⟩ rfl rfl (JO.regB ttOk 2 [] [] [] (.new 1 24 [.int .i64 0, .int .i64 0] (.new 24 24 [.int .i64 3, .int .i64 (at' y28 2)] .nil)) rfl ⟨trivial, ⟨rfl, rfl, rfl, rfl, rfl, rfl, rfl, rfl, trivial⟩⟩ (JO.done rfl (JS.endB (JS.endJ (3, (at' y28 2)) h ⟨rfl, rfl, rfl, trivial⟩ ⟨rfl, rfl, rfl, rfl, rfl, rfl, rfl, rfl, trivial⟩ [] rfl [] rfl)))))
      have h := condF h ht74
      refine JS.skip (JS.endB (JS.endJ (0, 0) h ⟨rfl, rfl, rfl, trivial⟩ ⟨rfl, rfl, rfl, rfl, rfl, rfl, rfl, rfl, trivial⟩ [] rfl [] rfl))
    rintro ⟨x48, x49⟩ h
    subst hj80
    refine JS.seq (JS.seq (JS.region (JO.reg ttOk 1 [] [] [(75, .v (.agg #[.int .i64 x48, .int .i64 x49]))] _ rfl ⟨⟨rfl, trivial⟩, rfl⟩ ?_)))
    obtain ⟨y61, hy62, h⟩ := bindO_some h
    refine JO.call rfl rfl rfl rfl (ok_i_KeyText (x48, x49) _ hy62) rfl [] rfl rfl fun _ _ => JO.reg ttOk 2 [] [] [(78, .v (.bool (!(decide (y61 = x0)))))] _ rfl ⟨⟨rfl, trivial⟩, rfl⟩ (JO.done rfl ?_)
    refine JS.cond rfl (fun ht79 => ?_) (fun ht79 => ?_)
    · have h := condT h ht79
      refine JS.seq (JS.region (JO.regB ttOk 3 [] [] [(3, .v (.bool false))] (.new 1 24 [.int .i64 0, .int .i64 0] .nil) rfl ⟨⟨rfl, trivial⟩, ⟨rfl, rfl, rfl, rfl, trivial⟩⟩ (JO.done rfl ?_)))
      cases h
      exact JS.ret ttOk () trivial rfl rfl [] rfl
    have h := condF h ht79
    refine JS.skip (JS.seq (JS.region (JO.regB ttOk 3 [] [] [(3, .v (.bool true))] (.new 1 24 [.int .i64 x48, .int .i64 x49] .nil) rfl ⟨⟨rfl, trivial⟩, ⟨rfl, rfl, rfl, rfl, trivial⟩⟩ (JO.done rfl ?_))))
    cases h
    exact JS.ret ttOk () trivial rfl rfl [] rfl

def M_l_FnKey (x0 : List UInt8) : Option Bool :=
  (bif (decide (1048576 < (x0.length : Int))) then
  some true
  else
  (bindO (M_s_MakeKey x0) fun (y6 : Int × Int) =>
  (bindO (M_i_KeyBytes y6) fun (y8 : List UInt8) =>
  (bindO (M_i_Decode (0, ([] : List UInt8)) y8) fun (y12, y13) =>
  (bindO (M_i_DecTick y12) fun (y19, y20) =>
  (guardO (y13.length + y20.length ≤ 536870912) <|
  (bindO (M_i_KeyText y6) fun (y27 : List UInt8) =>
  (bindO (M_i_TextKey y27) fun (y29, y30) =>
  (guardO (((decide (((y13 ++ y20).length : Int) = 1)) = true) → 0 ≤ (0 : Int) ∧ 0 < ((y13 ++ y20).length : Int)) <|
  (callO ((bif (bif (bif (bif (bif (decide (((y13 ++ y20).length : Int) = 1)) then (false ^^ (eqK (at' (y13 ++ y20) 0) y6)) else false) then y30 else false) then (false ^^ (eqK y29 y6)) else false) then (decide (y19.1 = 0)) else false) then (decide ((0 : Int) = 0)) else false) = true) (M_i_KeyOk y6) false fun (y36 : Bool) =>
  some (bif (bif (bif (bif (bif (bif (decide (((y13 ++ y20).length : Int) = 1)) then (false ^^ (eqK (at' (y13 ++ y20) 0) y6)) else false) then y30 else false) then (false ^^ (eqK y29 y6)) else false) then (decide (y19.1 = 0)) else false) then (decide ((0 : Int) = 0)) else false) then y36 else false)))))))))))

theorem ok_l_FnKey (x0 : List UInt8) (a2 : Option Addr) (c3 : Nat) (l4 : Nat) (hl5 : x0.length = l4) (r : Bool) (h : M_l_FnKey x0 = some r) :
    FC Tryd.prog 3 [.slice a2 l4 c3] [⟨.byte, ⟨a2, l4, c3⟩, x0⟩] (fun _ : Unit => True) (fun _ => .bool r) (fun _ => []) :=
  by
    subst hl5
    refine FC.of (T := TTx) Tryd.call3 Tryd.func3 rfl rfl fun w0 => ?_
    unfold M_l_FnKey at h
    refine JS.seq (JS.region (JO.reg ttOk 1 [] [] [] _ rfl ⟨trivial, rfl⟩ (JO.done rfl (JS.seq (JS.seq (JS.region (JO.reg ttOk 3 [] [] [(11, .v (.bool (decide (1048576 < (x0.length : Int)))))] _ rfl ⟨⟨rfl, trivial⟩, rfl⟩ (JO.done rfl ?_))))))))
    refine JS.cond rfl (fun ht52 => ?_) (fun ht52 => ?_)
    · have h := condT h ht52
      refine JS.seq (JS.region (JO.reg ttOk 1 [] [] [(2, .v (.bool true))] _ rfl ⟨⟨rfl, trivial⟩, rfl⟩ (JO.done rfl ?_)))
      cases h
      exact JS.ret ttOk () trivial rfl rfl [] rfl
    have h := condF h ht52
    refine JS.skip (JS.seq (JS.region (JO.reg ttOk 1 [] [] [(12, .v (.slice a2 x0.length c3))] _ rfl ⟨⟨rfl, trivial⟩, rfl⟩ ?_)))
    obtain ⟨y6, hy7, h⟩ := bindO_some h
    refine JO.call rfl rfl rfl rfl (ok_s_MakeKey x0 a2 c3 x0.length rfl _ hy7) rfl [0] rfl rfl fun _ _ => JO.regB ttOk 2 [] [4] [(3, .bp 4 0)] (.new 4 24 [.int .i64 y6.1, .int .i64 y6.2] .nil) rfl ⟨⟨rfl, trivial⟩, ⟨rfl, rfl, rfl, rfl, trivial⟩⟩ (JO.done rfl (JS.seq (JS.region (JO.reg ttOk 2 [] [] [(15, .v (.agg #[.int .i64 0, .slice none 0 0])), (16, .v (.agg #[.int .i64 y6.1, .int .i64 y6.2]))] _ rfl ⟨⟨rfl, rfl, trivial⟩, rfl⟩ ?_))))
    obtain ⟨y8, hy9, h⟩ := bindO_some h
    refine JO.call rfl rfl rfl rfl (ok_i_KeyBytes y6 _ hy9) rfl [] rfl rfl ?_
    rintro ⟨a10, c11⟩ -
    obtain ⟨⟨y12, y13⟩, hy14, h⟩ := bindO_some h
    refine JO.nilR .byte Sl.nil rfl rfl (JO.call rfl rfl rfl rfl (ok_i_Decode (0, ([] : List UInt8)) y8 none 0 (([] : List UInt8).length) rfl a10 c11 y8.length rfl _ hy14) rfl [0, 2] rfl rfl ?_)
    rintro ⟨a15, c16, a17, c18⟩ -
    refine JO.regB ttOk 6 [] [20] [(4, .bp 20 0), (5, .v (.slice a17 y13.length c18))] (.new 4 24 [.int .i64 y6.1, .int .i64 y6.2] (.new 20 27 [.int .i64 y12.1, .slice a15 y12.2.length c16] .nil)) rfl ⟨⟨rfl, rfl, trivial⟩, ⟨rfl, rfl, rfl, rfl, rfl, rfl, rfl, rfl, trivial⟩⟩ (JO.done rfl (JS.seq (JS.region (JO.reg ttOk 1 [] [] [(22, .v (.agg #[.int .i64 y12.1, .slice a15 y12.2.length c16]))] _ rfl ⟨⟨rfl, trivial⟩, rfl⟩ ?_))))
    obtain ⟨⟨y19, y20⟩, hy21, h⟩ := bindO_some h
    refine JO.call rfl rfl rfl rfl (ok_i_DecTick y12 a15 c16 y12.2.length rfl _ hy21) rfl [2] rfl rfl ?_
    rintro ⟨a22, c23⟩ -
    refine JO.regB ttOk 5 [] [] [(6, .v (.slice a22 y20.length c23))] (.new 4 24 [.int .i64 y6.1, .int .i64 y6.2] (.new 20 27 [.int .i64 y19.1, .slice none 0 0] .nil)) rfl ⟨⟨rfl, trivial⟩, ⟨rfl, rfl, rfl, rfl, rfl, rfl, rfl, rfl, trivial⟩⟩ (JO.done rfl (JS.seq (JS.region (JO.reg ttOk 2 [] [] [(26, .v (.slice a17 y13.length c18)), (27, .v (.slice a22 y20.length c23))] _ rfl ⟨⟨rfl, rfl, trivial⟩, rfl⟩ ?_))))
    obtain ⟨g24, h⟩ := guardO_some h
    refine JO.appendR' ttOk rfl rfl rfl rfl ⟨rfl, rfl, rfl, rfl, trivial, rfl, rfl, rfl, rfl⟩ rfl rfl rfl [2] rfl 2 rfl g24 rfl fun a25 c26 => JO.reg ttOk 1 [] [] [(5, .v (.slice a25 (y13 ++ y20).length c26))] _ rfl ⟨⟨rfl, trivial⟩, rfl⟩ (JO.done rfl (JS.seq (JS.region (JO.reg ttOk 1 [] [] [(30, .v (.agg #[.int .i64 y6.1, .int .i64 y6.2]))] _ rfl ⟨⟨rfl, trivial⟩, rfl⟩ ?_))))
    obtain ⟨y27, hy28, h⟩ := bindO_some h
    refine JO.call rfl rfl rfl rfl (ok_i_KeyText y6 _ hy28) rfl [] rfl rfl fun _ _ => ?_
    obtain ⟨⟨y29, y30⟩, hy31, h⟩ := bindO_some h
    refine JO.call rfl rfl rfl rfl (ok_i_TextKey y27 _ hy31) rfl [] rfl rfl fun _ _ => JO.regB ttOk 6 [] [36] [(7, .bp 36 0), (8, .v (.bool y30))] (.new 4 24 [.int .i64 y6.1, .int .i64 y6.2] (.new 20 27 [.int .i64 y19.1, .slice none 0 0] (.new 36 24 [.int .i64 y29.1, .int .i64 y29.2] .nil))) rfl ⟨⟨rfl, rfl, trivial⟩, ⟨rfl, rfl, rfl, rfl, rfl, rfl, rfl, rfl, rfl, rfl, rfl, rfl, trivial⟩⟩ (JO.done rfl (JS.seq ?_))
    obtain ⟨g33, h⟩ := guardO_some h
    obtain ⟨y36, hy37, -, h⟩ := callO_some h
    refine JS.know 2 rfl fun hs48 => JS.regionQ rfl (by kernel_rfl) (JQ.reg ttOk 6 [] [(38, .v (.bool (decide (((y13 ++ y20).length : Int) = 1)))), (40, .cd [(38, true)] (.ep ⟨a25, (y13 ++ y20).length, c26⟩ (Int.toNat 0 * 2)))] rfl ⟨(fun q49 => hs48.ix (g33 q49)), ⟨rfl, rfl, trivial⟩⟩ (JQ.loadV ttOk rfl rfl rfl rfl rfl rfl 2 rfl rfl (Int.toNat 0) 0 (at' (y13 ++ y20) 0) (fun q50 => ⟨at_some (g33 q50), rfl⟩) rfl rfl rfl (JQ.reg ttOk 1 [] [(42, .cd [(38, true)] (.v (.agg #[.int .i64 y6.1, .int .i64 y6.2])))] rfl ⟨rfl, trivial⟩ (JQ.eqS ttOk rfl rfl (by kernel_rfl) rfl rfl rfl rfl rfl (JQ.reg ttOk 7 [] [(48, .v (.bool (bif (bif (decide (((y13 ++ y20).length : Int) = 1)) then (false ^^ (eqK (at' (y13 ++ y20) 0) y6)) else false) then y30 else false))), (49, .cd [(48, true)] (.v (.agg #[.int .i64 y29.1, .int .i64 y29.2]))), (50, .cd [(48, true)] (.v (.agg #[.int .i64 y6.1, .int .i64 y6.2])))] rfl ⟨rfl, rfl, rfl, trivial⟩ (JQ.eqS ttOk rfl rfl (by kernel_rfl) rfl rfl rfl rfl rfl (JQ.reg ttOk 14 [] [(64, .v (.bool (bif (bif (bif (bif (bif (decide (((y13 ++ y20).length : Int) = 1)) then (false ^^ (eqK (at' (y13 ++ y20) 0) y6)) else false) then y30 else false) then (false ^^ (eqK y29 y6)) else false) then (decide (y19.1 = 0)) else false) then (decide ((0 : Int) = 0)) else false))), (65, .cd [(64, true)] (.v (.agg #[.int .i64 y6.1, .int .i64 y6.2])))] rfl ⟨rfl, rfl, trivial⟩ (JQ.call rfl rfl rfl rfl (fun q51 => ok_i_KeyOk y6 _ (hy37 q51)) rfl [] rfl rfl (JQ.reg ttOk 2 [] [(2, .v (.bool (bif (bif (bif (bif (bif (bif (decide (((y13 ++ y20).length : Int) = 1)) then (false ^^ (eqK (at' (y13 ++ y20) 0) y6)) else false) then y30 else false) then (false ^^ (eqK y29 y6)) else false) then (decide (y19.1 = 0)) else false) then (decide ((0 : Int) = 0)) else false) then y36 else false)))] rfl ⟨rfl, trivial⟩ (JQ.done rfl ?_))))))))))
    cases h
    exact JS.ret ttOk () trivial rfl rfl [] rfl

end
end Go.Eng
