/- The walks of the functions that FnExactDecByte reaches: what each computes, as a plain function (M_..), and that the model computes it (ok_..). Condition of each: that the plain function answers. -/
import Derived.Test.YtgpolgjhiknefaaFnExactDecByteWalkA
set_option linter.unusedVariables false
set_option linter.unusedSimpArgs false
namespace Go.Eng
open Go Go.Proofs
noncomputable section

def M_l_eqByteS_L1 (x0 : List UInt8) (x1 : List UInt8) (j28 : Unit → Option Bool) (k20 : Int → Option Bool) : Int → Option Bool := fun x11 =>
  (bif (decide (x11 < (x0.length : Int))) then
  (guardO (0 ≤ x11 ∧ x11 < (x0.length : Int)) <|
  (guardO (0 ≤ x11 ∧ x11 < (x1.length : Int)) <|
  (bif (!(decide (((at' x0 x11).toNat : Int) = ((at' x1 x11).toNat : Int)))) then
  some false
  else
  k20 (W (x11 + 1)))))
  else
  j28 ())

def M_l_eqByteS (x0 : List UInt8) (x1 : List UInt8) : Option Bool :=
  (bif (!(decide ((x0.length : Int) = (x1.length : Int)))) then
  some false
  else
  (joinO (fun (_ : Unit) =>
  some true) fun j28 =>
  (fixF (M_l_eqByteS_L1 x0 x1 j28) FUEL 0)))

theorem ok_l_eqByteS (x0 : List UInt8) (x1 : List UInt8) (a3 : Option Addr) (c4 : Nat) (l5 : Nat) (hl6 : x0.length = l5) (a7 : Option Addr) (c8 : Nat) (l9 : Nat) (hl10 : x1.length = l9) (r : Bool) (h : M_l_eqByteS x0 x1 = some r) :
    FC Try.prog 28 [.slice a3 l5 c4, .slice a7 l9 c8] [⟨.byte, ⟨a3, l5, c4⟩, x0⟩, ⟨.byte, ⟨a7, l9, c8⟩, x1⟩] (fun _ : Unit => True) (fun _ => .bool r) (fun _ => []) :=
  by
    subst hl6
    subst hl10
    refine FC.of (T := TTx) Try.call28 Try.func28 rfl rfl fun w0 => ?_
    unfold M_l_eqByteS at h
    refine JS.seq ?_
    refine JS.region ?_
    refine JO.reg ttOk 1 [] [] [] _ rfl ⟨trivial, rfl⟩ ?_
    refine JO.done rfl ?_
    refine JS.seq ?_
    refine JS.seq ?_
    refine JS.region ?_
    refine JO.reg ttOk 5 [] [] [(10, .v (.bool (!(decide ((x0.length : Int) = (x1.length : Int))))))] _ rfl ⟨⟨rfl, trivial⟩, rfl⟩ ?_
    refine JO.done rfl ?_
    refine JS.cond rfl (fun ht44 => ?_) (fun ht44 => ?_)
    · have h := condT h ht44
      refine JS.seq ?_
      refine JS.region ?_
      refine JO.reg ttOk 1 [] [] [(4, .v (.bool false))] _ rfl ⟨⟨rfl, trivial⟩, rfl⟩ ?_
      refine JO.done rfl ?_
      cases h
      exact JS.ret ttOk () trivial rfl rfl [] rfl
    · have h := condF h ht44
      refine JS.skip ?_
      refine JS.seq ?_
      refine JS.seq ?_
      refine JS.region ?_
      refine JO.reg ttOk 1 [] [] [(5, .v (.int .i64 0))] _ rfl ⟨⟨rfl, trivial⟩, rfl⟩ ?_
      refine JO.done rfl ?_
      obtain ⟨j28, hj43, h⟩ := joinO_some h
      refine JS.blockJ (ι := Unit) ⟨fun _ => j28 () = some r, fun _ => [], fun _ => .nil, fun _ => [], fun _ => [], fun _ => 0⟩ ?_ ?_
      · refine JS.loop (ι := Nat × Int) ⟨fun z => fixF (M_l_eqByteS_L1 x0 x1 j28) z.1 z.2 = some r, fun z => [(0, .v (.slice a3 x0.length c4)), (1, .v (.slice a7 x1.length c8)), (5, .v (.int .i64 z.2))], fun z => .nil, fun z => [⟨.byte, ⟨a3, x0.length, c4⟩, x0⟩, ⟨.byte, ⟨a7, x1.length, c8⟩, x1⟩], fun z => [], fun z => z.1⟩ (FUEL, 0) h ⟨rfl, rfl, rfl, trivial⟩ trivial [0, 1] rfl [] rfl ?_
        rintro ⟨n21, x11⟩ h
        obtain ⟨n21, rfl, h⟩ := fixF_some h
        rw [M_l_eqByteS_L1] at h
        refine JS.seq ?_
        refine JS.seq ?_
        refine JS.region ?_
        refine JO.reg ttOk 4 [] [] [(14, .v (.bool (decide (x11 < (x0.length : Int)))))] _ rfl ⟨⟨rfl, trivial⟩, rfl⟩ ?_
        refine JO.done rfl ?_
        refine JS.cond rfl (fun ht42 => ?_) (fun ht42 => ?_)
        · have h := condT h ht42
          refine JS.skip ?_
          refine JS.seq ?_
          refine JS.block ?_
          refine JS.seq ?_
          obtain ⟨g13, h⟩ := guardO_some h
          obtain ⟨g15, h⟩ := guardO_some h
          refine JS.know 0 rfl fun hs39 => ?_
          refine JS.know 1 rfl fun hs40 => ?_
          refine JS.regionQ rfl (by kernel_rfl) ?_
          refine JQ.reg ttOk 3 [] [(19, .ep ⟨a3, x0.length, c4⟩ (Int.toNat x11 * 1))] rfl ⟨hs39.ix g13, ⟨rfl, trivial⟩⟩ ?_
          refine JQ.load ttOk rfl rfl rfl rfl rfl rfl rfl 0 rfl rfl (Int.toNat x11) 0 (at' x0 x11) ⟨at_some g13, rfl⟩ rfl rfl ?_
          refine JQ.reg ttOk 3 [] [(23, .ep ⟨a7, x1.length, c8⟩ (Int.toNat x11 * 1))] rfl ⟨hs40.ix g15, ⟨rfl, trivial⟩⟩ ?_
          refine JQ.load ttOk rfl rfl rfl rfl rfl rfl rfl 1 rfl rfl (Int.toNat x11) 0 (at' x1 x11) ⟨at_some g15, rfl⟩ rfl rfl ?_
          refine JQ.reg ttOk 1 [] [(25, .v (.bool (!(decide (((at' x0 x11).toNat : Int) = ((at' x1 x11).toNat : Int))))))] rfl ⟨rfl, trivial⟩ ?_
          refine JQ.done rfl ?_
          refine JS.cond rfl (fun ht41 => ?_) (fun ht41 => ?_)
          · have h := condT h ht41
            refine JS.seq ?_
            refine JS.region ?_
            refine JO.reg ttOk 1 [] [] [(4, .v (.bool false))] _ rfl ⟨⟨rfl, trivial⟩, rfl⟩ ?_
            refine JO.done rfl ?_
            cases h
            exact JS.ret ttOk () trivial rfl rfl [] rfl
          · have h := condF h ht41
            refine JS.skip ?_
            refine JS.endB ?_
            refine JS.region ?_
            refine JO.reg ttOk 3 [(W (x11 + 1))] [] [(5, .v (.int .i64 (W (x11 + 1))))] _ rfl ⟨⟨trivial, rfl⟩, ⟨rfl, trivial⟩, rfl⟩ ?_
            refine JO.done rfl ?_
            exact JS.endL (n21, (W (x11 + 1))) h (Nat.lt_succ_self _) ⟨rfl, rfl, rfl, trivial⟩ trivial [0, 1] rfl [] rfl
        · have h := condF h ht42
          refine JS.exit rfl ?_
          exact JS.endJ () h trivial trivial [] rfl [] rfl
      · rintro _ h
        subst hj43
        refine JS.seq ?_
        refine JS.region ?_
        refine JO.reg ttOk 1 [] [] [(4, .v (.bool true))] _ rfl ⟨⟨rfl, trivial⟩, rfl⟩ ?_
        refine JO.done rfl ?_
        cases h
        exact JS.ret ttOk () trivial rfl rfl [] rfl

def M_l_eqDec (x0 : Int × List UInt8) (x1 : Int × List UInt8) : Option Bool :=
  (bif (!(decide (x0.1 = x1.1))) then
  some false
  else
  (bindO (M_l_eqByteS x0.2 x1.2) fun (y11 : Bool) =>
  (bif (!y11) then
  some false
  else
  some true)))

theorem ok_l_eqDec (x0 : Int × List UInt8) (x1 : Int × List UInt8) (a3 : Option Addr) (c4 : Nat) (l5 : Nat) (hl6 : x0.2.length = l5) (a7 : Option Addr) (c8 : Nat) (l9 : Nat) (hl10 : x1.2.length = l9) (r : Bool) (h : M_l_eqDec x0 x1 = some r) :
    FC Try.prog 12 [.agg #[.int .i64 x0.1, .slice a3 l5 c4], .agg #[.int .i64 x1.1, .slice a7 l9 c8]] [⟨.byte, ⟨a3, l5, c4⟩, x0.2⟩, ⟨.byte, ⟨a7, l9, c8⟩, x1.2⟩] (fun _ : Unit => True) (fun _ => .bool r) (fun _ => []) :=
  by
    subst hl6
    subst hl10
    refine FC.of (T := TTx) Try.call12 Try.func12 rfl rfl fun w0 => ?_
    unfold M_l_eqDec at h
    refine JS.seq ?_
    refine JS.region ?_
    refine JO.regB ttOk 3 [] [3, 4] [(2, .bp 3 0), (3, .bp 4 0)] (.new 3 26 [.int .i64 x0.1, .slice a3 x0.2.length c4] (.new 4 26 [.int .i64 x1.1, .slice a7 x1.2.length c8] .nil)) rfl ⟨⟨rfl, rfl, trivial⟩, ⟨rfl, rfl, rfl, rfl, rfl, rfl, rfl, rfl, trivial⟩⟩ ?_
    refine JO.done rfl ?_
    refine JS.seq ?_
    refine JS.seq ?_
    refine JS.region ?_
    refine JO.reg ttOk 5 [] [] [(9, .v (.bool (!(decide (x0.1 = x1.1)))))] _ rfl ⟨⟨rfl, trivial⟩, rfl⟩ ?_
    refine JO.done rfl ?_
    refine JS.cond rfl (fun ht16 => ?_) (fun ht16 => ?_)
    · have h := condT h ht16
      refine JS.seq ?_
      refine JS.region ?_
      refine JO.reg ttOk 1 [] [] [(4, .v (.bool false))] _ rfl ⟨⟨rfl, trivial⟩, rfl⟩ ?_
      refine JO.done rfl ?_
      cases h
      exact JS.ret ttOk () trivial rfl rfl [] rfl
    · have h := condF h ht16
      refine JS.skip ?_
      refine JS.seq ?_
      refine JS.seq ?_
      refine JS.region ?_
      refine JO.reg ttOk 4 [] [] [(11, .v (.slice a3 x0.2.length c4)), (13, .v (.slice a7 x1.2.length c8))] _ rfl ⟨⟨rfl, rfl, trivial⟩, rfl⟩ ?_
      obtain ⟨y11, hy12, h⟩ := bindO_some h
      refine JO.call rfl rfl rfl rfl (ok_l_eqByteS x0.2 x1.2 a3 c4 x0.2.length rfl a7 c8 x1.2.length rfl _ hy12) rfl [0, 1] rfl rfl ?_
      intro _ _
      refine JO.reg ttOk 1 [] [] [(15, .v (.bool (!y11)))] _ rfl ⟨⟨rfl, trivial⟩, rfl⟩ ?_
      refine JO.done rfl ?_
      refine JS.cond rfl (fun ht15 => ?_) (fun ht15 => ?_)
      · have h := condT h ht15
        refine JS.seq ?_
        refine JS.region ?_
        refine JO.reg ttOk 1 [] [] [(4, .v (.bool false))] _ rfl ⟨⟨rfl, trivial⟩, rfl⟩ ?_
        refine JO.done rfl ?_
        cases h
        exact JS.ret ttOk () trivial rfl rfl [] rfl
      · have h := condF h ht15
        refine JS.skip ?_
        refine JS.seq ?_
        refine JS.region ?_
        refine JO.reg ttOk 1 [] [] [(4, .v (.bool true))] _ rfl ⟨⟨rfl, trivial⟩, rfl⟩ ?_
        refine JO.done rfl ?_
        cases h
        exact JS.ret ttOk () trivial rfl rfl [] rfl

def M_l_eqKey (x0 : Int × Int) (x1 : Int × Int) : Option Bool :=
  (bif (!(decide (x0.1 = x1.1))) then
  some false
  else
  (bif (!(decide (x0.2 = x1.2))) then
  some false
  else
  some true))

theorem ok_l_eqKey (x0 : Int × Int) (x1 : Int × Int) (r : Bool) (h : M_l_eqKey x0 x1 = some r) :
    FC Try.prog 34 [.agg #[.int .i64 x0.1, .int .i64 x0.2], .agg #[.int .i64 x1.1, .int .i64 x1.2]] [] (fun _ : Unit => True) (fun _ => .bool r) (fun _ => []) :=
  by
    refine FC.of (T := TTx) Try.call34 Try.func34 rfl rfl fun w0 => ?_
    unfold M_l_eqKey at h
    refine JS.seq ?_
    refine JS.region ?_
    refine JO.regB ttOk 3 [] [1, 2] [(2, .bp 1 0), (3, .bp 2 0)] (.new 1 40 [.int .i64 x0.1, .int .i64 x0.2] (.new 2 40 [.int .i64 x1.1, .int .i64 x1.2] .nil)) rfl ⟨⟨rfl, rfl, trivial⟩, ⟨rfl, rfl, rfl, rfl, rfl, rfl, rfl, rfl, trivial⟩⟩ ?_
    refine JO.done rfl ?_
    refine JS.seq ?_
    refine JS.seq ?_
    refine JS.region ?_
    refine JO.reg ttOk 5 [] [] [(9, .v (.bool (!(decide (x0.1 = x1.1)))))] _ rfl ⟨⟨rfl, trivial⟩, rfl⟩ ?_
    refine JO.done rfl ?_
    refine JS.cond rfl (fun ht6 => ?_) (fun ht6 => ?_)
    · have h := condT h ht6
      refine JS.seq ?_
      refine JS.region ?_
      refine JO.reg ttOk 1 [] [] [(4, .v (.bool false))] _ rfl ⟨⟨rfl, trivial⟩, rfl⟩ ?_
      refine JO.done rfl ?_
      cases h
      exact JS.ret ttOk () trivial rfl rfl [] rfl
    · have h := condF h ht6
      refine JS.skip ?_
      refine JS.seq ?_
      refine JS.seq ?_
      refine JS.region ?_
      refine JO.reg ttOk 5 [] [] [(14, .v (.bool (!(decide (x0.2 = x1.2)))))] _ rfl ⟨⟨rfl, trivial⟩, rfl⟩ ?_
      refine JO.done rfl ?_
      refine JS.cond rfl (fun ht5 => ?_) (fun ht5 => ?_)
      · have h := condT h ht5
        refine JS.seq ?_
        refine JS.region ?_
        refine JO.reg ttOk 1 [] [] [(4, .v (.bool false))] _ rfl ⟨⟨rfl, trivial⟩, rfl⟩ ?_
        refine JO.done rfl ?_
        cases h
        exact JS.ret ttOk () trivial rfl rfl [] rfl
      · have h := condF h ht5
        refine JS.skip ?_
        refine JS.seq ?_
        refine JS.region ?_
        refine JO.reg ttOk 1 [] [] [(4, .v (.bool true))] _ rfl ⟨⟨rfl, trivial⟩, rfl⟩ ?_
        refine JO.done rfl ?_
        cases h
        exact JS.ret ttOk () trivial rfl rfl [] rfl

def M_l_eqKeyS_L1 (x0 : List (Int × Int)) (x1 : List (Int × Int)) (j30 : Unit → Option Bool) (k22 : Int → Option Bool) : Int → Option Bool := fun x11 =>
  (bif (decide (x11 < (x0.length : Int))) then
  (guardO (0 ≤ x11 ∧ x11 < (x0.length : Int)) <|
  (guardO (0 ≤ x11 ∧ x11 < (x1.length : Int)) <|
  (bindO (M_l_eqKey (at' x0 x11) (at' x1 x11)) fun (y16 : Bool) =>
  (bif (!y16) then
  some false
  else
  k22 (W (x11 + 1))))))
  else
  j30 ())

def M_l_eqKeyS (x0 : List (Int × Int)) (x1 : List (Int × Int)) : Option Bool :=
  (bif (!(decide ((x0.length : Int) = (x1.length : Int)))) then
  some false
  else
  (joinO (fun (_ : Unit) =>
  some true) fun j30 =>
  (fixF (M_l_eqKeyS_L1 x0 x1 j30) FUEL 0)))

theorem ok_l_eqKeyS (x0 : List (Int × Int)) (x1 : List (Int × Int)) (a3 : Option Addr) (c4 : Nat) (l5 : Nat) (hl6 : x0.length = l5) (a7 : Option Addr) (c8 : Nat) (l9 : Nat) (hl10 : x1.length = l9) (r : Bool) (h : M_l_eqKeyS x0 x1 = some r) :
    FC Try.prog 13 [.slice a3 l5 c4, .slice a7 l9 c8] [⟨(.pair (.int .i64) (.int .i64)), ⟨a3, l5, c4⟩, x0⟩, ⟨(.pair (.int .i64) (.int .i64)), ⟨a7, l9, c8⟩, x1⟩] (fun _ : Unit => True) (fun _ => .bool r) (fun _ => []) :=
  by
    subst hl6
    subst hl10
    refine FC.of (T := TTx) Try.call13 Try.func13 rfl rfl fun w0 => ?_
    unfold M_l_eqKeyS at h
    refine JS.seq ?_
    refine JS.region ?_
    refine JO.reg ttOk 1 [] [] [] _ rfl ⟨trivial, rfl⟩ ?_
    refine JO.done rfl ?_
    refine JS.seq ?_
    refine JS.seq ?_
    refine JS.region ?_
    refine JO.reg ttOk 5 [] [] [(10, .v (.bool (!(decide ((x0.length : Int) = (x1.length : Int))))))] _ rfl ⟨⟨rfl, trivial⟩, rfl⟩ ?_
    refine JO.done rfl ?_
    refine JS.cond rfl (fun ht46 => ?_) (fun ht46 => ?_)
    · have h := condT h ht46
      refine JS.seq ?_
      refine JS.region ?_
      refine JO.reg ttOk 1 [] [] [(4, .v (.bool false))] _ rfl ⟨⟨rfl, trivial⟩, rfl⟩ ?_
      refine JO.done rfl ?_
      cases h
      exact JS.ret ttOk () trivial rfl rfl [] rfl
    · have h := condF h ht46
      refine JS.skip ?_
      refine JS.seq ?_
      refine JS.seq ?_
      refine JS.region ?_
      refine JO.reg ttOk 1 [] [] [(5, .v (.int .i64 0))] _ rfl ⟨⟨rfl, trivial⟩, rfl⟩ ?_
      refine JO.done rfl ?_
      obtain ⟨j30, hj45, h⟩ := joinO_some h
      refine JS.blockJ (ι := Unit) ⟨fun _ => j30 () = some r, fun _ => [], fun _ => .nil, fun _ => [], fun _ => [], fun _ => 0⟩ ?_ ?_
      · refine JS.loop (ι := Nat × Int) ⟨fun z => fixF (M_l_eqKeyS_L1 x0 x1 j30) z.1 z.2 = some r, fun z => [(0, .v (.slice a3 x0.length c4)), (1, .v (.slice a7 x1.length c8)), (5, .v (.int .i64 z.2))], fun z => .nil, fun z => [⟨(.pair (.int .i64) (.int .i64)), ⟨a3, x0.length, c4⟩, x0⟩, ⟨(.pair (.int .i64) (.int .i64)), ⟨a7, x1.length, c8⟩, x1⟩], fun z => [], fun z => z.1⟩ (FUEL, 0) h ⟨rfl, rfl, rfl, trivial⟩ trivial [0, 1] rfl [] rfl ?_
        rintro ⟨n23, x11⟩ h
        obtain ⟨n23, rfl, h⟩ := fixF_some h
        rw [M_l_eqKeyS_L1] at h
        refine JS.seq ?_
        refine JS.seq ?_
        refine JS.region ?_
        refine JO.reg ttOk 4 [] [] [(14, .v (.bool (decide (x11 < (x0.length : Int)))))] _ rfl ⟨⟨rfl, trivial⟩, rfl⟩ ?_
        refine JO.done rfl ?_
        refine JS.cond rfl (fun ht44 => ?_) (fun ht44 => ?_)
        · have h := condT h ht44
          refine JS.skip ?_
          refine JS.seq ?_
          refine JS.block ?_
          refine JS.seq ?_
          obtain ⟨g13, h⟩ := guardO_some h
          obtain ⟨g15, h⟩ := guardO_some h
          obtain ⟨y16, hy17, h⟩ := bindO_some h
          refine JS.know 0 rfl fun hs41 => ?_
          refine JS.know 1 rfl fun hs42 => ?_
          refine JS.regionQ rfl (by kernel_rfl) ?_
          refine JQ.reg ttOk 3 [] [(19, .ep ⟨a3, x0.length, c4⟩ (Int.toNat x11 * 2))] rfl ⟨hs41.ix g13, ⟨rfl, trivial⟩⟩ ?_
          refine JQ.loadV ttOk rfl rfl rfl rfl rfl rfl 0 rfl rfl (Int.toNat x11) 0 (at' x0 x11) ⟨at_some g13, rfl⟩ rfl rfl rfl ?_
          refine JQ.reg ttOk 3 [] [(23, .ep ⟨a7, x1.length, c8⟩ (Int.toNat x11 * 2))] rfl ⟨hs42.ix g15, ⟨rfl, trivial⟩⟩ ?_
          refine JQ.loadV ttOk rfl rfl rfl rfl rfl rfl 1 rfl rfl (Int.toNat x11) 0 (at' x1 x11) ⟨at_some g15, rfl⟩ rfl rfl rfl ?_
          refine JQ.call rfl rfl rfl rfl (ok_l_eqKey (at' x0 x11) (at' x1 x11) _ hy17) rfl [] rfl rfl ?_
          refine JQ.reg ttOk 1 [] [(26, .v (.bool (!y16)))] rfl ⟨rfl, trivial⟩ ?_
          refine JQ.done rfl ?_
          refine JS.cond rfl (fun ht43 => ?_) (fun ht43 => ?_)
          · have h := condT h ht43
            refine JS.seq ?_
            refine JS.region ?_
            refine JO.reg ttOk 1 [] [] [(4, .v (.bool false))] _ rfl ⟨⟨rfl, trivial⟩, rfl⟩ ?_
            refine JO.done rfl ?_
            cases h
            exact JS.ret ttOk () trivial rfl rfl [] rfl
          · have h := condF h ht43
            refine JS.skip ?_
            refine JS.endB ?_
            refine JS.region ?_
            refine JO.reg ttOk 3 [(W (x11 + 1))] [] [(5, .v (.int .i64 (W (x11 + 1))))] _ rfl ⟨⟨trivial, rfl⟩, ⟨rfl, trivial⟩, rfl⟩ ?_
            refine JO.done rfl ?_
            exact JS.endL (n23, (W (x11 + 1))) h (Nat.lt_succ_self _) ⟨rfl, rfl, rfl, trivial⟩ trivial [0, 1] rfl [] rfl
        · have h := condF h ht44
          refine JS.exit rfl ?_
          exact JS.endJ () h trivial trivial [] rfl [] rfl
      · rintro _ h
        subst hj45
        refine JS.seq ?_
        refine JS.region ?_
        refine JO.reg ttOk 1 [] [] [(4, .v (.bool true))] _ rfl ⟨⟨rfl, trivial⟩, rfl⟩ ?_
        refine JO.done rfl ?_
        cases h
        exact JS.ret ttOk () trivial rfl rfl [] rfl

def M_l_markByteS_L1 (x0 : List UInt8) (j19 : (List UInt8 × Int) → Option (Int × List UInt8)) (k13 : (List UInt8 × Int × Int) → Option (Int × List UInt8)) : (List UInt8 × Int × Int) → Option (Int × List UInt8) := fun (x7, x8, x9) =>
  (bif (decide (x9 < (x0.length : Int))) then
  (guardO (0 ≤ x9 ∧ x9 < (x0.length : Int)) <|
  k13 ((List.set x7 (Int.toNat x9) (u8 (x8))), (W (x8 + 1)), (W (x9 + 1))))
  else
  j19 (x7, x8))

def M_l_markByteS (x0 : List UInt8) (x1 : Int) : Option (Int × List UInt8) :=
  (joinO (fun ((x17, x18) : List UInt8 × Int) =>
  some (x18, x17)) fun j19 =>
  (fixF (M_l_markByteS_L1 x0 j19) FUEL (x0, x1, 0)))

theorem ok_l_markByteS (x0 : List UInt8) (x1 : Int) (a3 : Option Addr) (c4 : Nat) (l5 : Nat) (hl6 : x0.length = l5) (r : Int × List UInt8) (h : M_l_markByteS x0 x1 = some r) :
    FX Try.prog 29 [.slice a3 l5 c4, .int .i64 x1] [] [⟨.byte, ⟨a3, l5, c4⟩, x0⟩] (fun _ : Unit => True) (fun _ => .int .i64 r.1) (fun _ => [⟨.byte, ⟨a3, l5, c4⟩, r.2⟩]) :=
  by
    subst hl6
    refine FX.of (T := TTx) Try.call29 Try.func29 rfl rfl fun w0 L0 => ?_
    unfold M_l_markByteS at h
    refine JS.seq ?_
    refine JS.region ?_
    refine JO.reg ttOk 1 [] [] [] _ rfl ⟨trivial, rfl⟩ ?_
    refine JO.done rfl ?_
    refine JS.seq ?_
    refine JS.seq ?_
    refine JS.region ?_
    refine JO.reg ttOk 1 [] [] [(5, .v (.int .i64 0))] _ rfl ⟨⟨rfl, trivial⟩, rfl⟩ ?_
    refine JO.done rfl ?_
    obtain ⟨j19, hj27, h⟩ := joinO_some h
    refine JS.blockJ (ι := List UInt8 × Int) ⟨fun z => j19 (z.1, z.2) = some r, fun z => [(1, .v (.int .i64 z.2))], fun z => .nil, fun z => [], fun z => [⟨.byte, ⟨a3, x0.length, c4⟩, z.1⟩], fun z => 0⟩ ?_ ?_
    · refine JS.loop (ι := Nat × List UInt8 × Int × Int) ⟨fun z => fixF (M_l_markByteS_L1 x0 j19) z.1 (z.2.1, z.2.2.1, z.2.2.2) = some r, fun z => [(0, .v (.slice a3 x0.length c4)), (1, .v (.int .i64 z.2.2.1)), (5, .v (.int .i64 z.2.2.2))], fun z => .nil, fun z => [], fun z => [⟨.byte, ⟨a3, x0.length, c4⟩, z.2.1⟩], fun z => z.1⟩ (FUEL, x0, x1, 0) h ⟨rfl, rfl, rfl, trivial⟩ trivial [] rfl [0] rfl ?_
      rintro ⟨n14, x7, x8, x9⟩ h
      obtain ⟨n14, rfl, h⟩ := fixF_some h
      rw [M_l_markByteS_L1] at h
      refine JS.know 0 rfl fun hs24 => ?_
      refine JS.seq ?_
      refine JS.seq ?_
      refine JS.region ?_
      refine JO.reg ttOk 4 [] [] [(9, .v (.bool (decide (x9 < (x0.length : Int)))))] _ rfl ⟨⟨rfl, trivial⟩, rfl⟩ ?_
      refine JO.done rfl ?_
      refine JS.cond rfl (fun ht25 => ?_) (fun ht25 => ?_)
      · have h := condT h ht25
        refine JS.skip ?_
        refine JS.seq ?_
        refine JS.block ?_
        refine JS.seq ?_
        refine JS.region ?_
        obtain ⟨g11, h⟩ := guardO_some h
        refine JO.reg ttOk 5 [((u8 (x8)).toNat : Int)] [] [(15, .v (.int .u8 ((u8 (x8)).toNat : Int))), (16, .ep ⟨a3, x0.length, c4⟩ (Int.toNat x9 * 1))] _ rfl ⟨⟨trivial, u8_wrap _⟩, (hs24.cast hs24.len.symm).ix g11, ⟨rfl, rfl, trivial⟩, rfl⟩ ?_
        refine JO.storeE ttOk rfl rfl rfl rfl rfl rfl rfl rfl rfl [0] (fs := []) rfl (Int.toNat x9) 0 (at' x7 x9) (u8 (x8)) ⟨at_someL hs24.len.symm g11, rfl⟩ ⟨rfl, rfl, rfl⟩ ?_
        refine JO.done rfl ?_
        refine JS.region ?_
        refine JO.reg ttOk 3 [(W (x8 + 1))] [] [(1, .v (.int .i64 (W (x8 + 1))))] _ rfl ⟨⟨trivial, rfl⟩, ⟨rfl, trivial⟩, rfl⟩ ?_
        refine JO.done rfl ?_
        refine JS.endB ?_
        refine JS.region ?_
        refine JO.reg ttOk 3 [(W (x9 + 1))] [] [(5, .v (.int .i64 (W (x9 + 1))))] _ rfl ⟨⟨trivial, rfl⟩, ⟨rfl, trivial⟩, rfl⟩ ?_
        refine JO.done rfl ?_
        exact JS.endL (n14, (List.set x7 (Int.toNat x9) (u8 (x8))), (W (x8 + 1)), (W (x9 + 1))) h (Nat.lt_succ_self _) ⟨rfl, rfl, rfl, trivial⟩ trivial [] rfl [0] rfl
      · have h := condF h ht25
        refine JS.exit rfl ?_
        exact JS.endJ (x7, x8) h ⟨rfl, trivial⟩ trivial [] rfl [0] rfl
    · rintro ⟨x17, x18⟩ h
      subst hj27
      refine JS.know 0 rfl fun hs26 => ?_
      refine JS.seq ?_
      refine JS.region ?_
      refine JO.reg ttOk 2 [] [] [(4, .v (.int .i64 x18))] _ rfl ⟨⟨rfl, trivial⟩, rfl⟩ ?_
      refine JO.done rfl ?_
      cases h
      exact JS.retX ttOk () trivial rfl rfl [0] rfl

def M_l_markDec (x0 : Int × List UInt8) (x1 : Int) : Option (Int × List UInt8) :=
  (bindO (M_l_markByteS x0.2 x1) fun (y7, y8) =>
  some (y7, y8))

theorem ok_l_markDec (x0 : Int × List UInt8) (x1 : Int) (a3 : Option Addr) (c4 : Nat) (l5 : Nat) (hl6 : x0.2.length = l5) (r : Int × List UInt8) (h : M_l_markDec x0 x1 = some r) :
    FX Try.prog 14 [.agg #[.int .i64 x0.1, .slice a3 l5 c4], .int .i64 x1] [] [⟨.byte, ⟨a3, l5, c4⟩, x0.2⟩] (fun _ : Unit => True) (fun _ => .int .i64 r.1) (fun _ => [⟨.byte, ⟨a3, l5, c4⟩, r.2⟩]) :=
  by
    subst hl6
    refine FX.of (T := TTx) Try.call14 Try.func14 rfl rfl fun w0 L0 => ?_
    unfold M_l_markDec at h
    refine JS.seq ?_
    refine JS.region ?_
    refine JO.regB ttOk 2 [] [2] [(2, .bp 2 0)] (.new 2 26 [.int .i64 x0.1, .slice a3 x0.2.length c4] .nil) rfl ⟨⟨rfl, trivial⟩, ⟨rfl, rfl, rfl, rfl, trivial⟩⟩ ?_
    refine JO.done rfl ?_
    refine JS.seq ?_
    refine JS.region ?_
    refine JO.reg ttOk 3 [] [] [(6, .v (.slice a3 x0.2.length c4)), (7, .v (.int .i64 x1))] _ rfl ⟨⟨rfl, rfl, trivial⟩, rfl⟩ ?_
    obtain ⟨⟨y7, y8⟩, hy9, h⟩ := bindO_some h
    refine JO.callX rfl rfl rfl rfl (ok_l_markByteS x0.2 x1 a3 c4 x0.2.length rfl _ hy9) rfl [0] rfl [] rfl rfl ?_
    intro _ _
    refine JO.know 0 rfl fun hs10 => ?_
    refine JO.reg ttOk 1 [] [] [(1, .v (.int .i64 y7))] _ rfl ⟨⟨rfl, trivial⟩, rfl⟩ ?_
    refine JO.done rfl ?_
    refine JS.seq ?_
    refine JS.region ?_
    refine JO.reg ttOk 2 [] [] [(4, .v (.int .i64 y7))] _ rfl ⟨⟨rfl, trivial⟩, rfl⟩ ?_
    refine JO.done rfl ?_
    cases h
    exact JS.retX ttOk () trivial rfl rfl [0] rfl

def M_l_markKeyS_L1 (x0 : List (Int × Int)) (j20 : ((List (Int × Int)) × Int) → Option (Int × List (Int × Int))) (k14 : ((List (Int × Int)) × Int × Int) → Option (Int × List (Int × Int))) : ((List (Int × Int)) × Int × Int) → Option (Int × List (Int × Int)) := fun (x7, x8, x9) =>
  (bif (decide (x9 < (x0.length : Int))) then
  (guardO (0 ≤ x9 ∧ x9 < (x0.length : Int)) <|
  (guardO (0 ≤ x9 ∧ x9 < (x0.length : Int)) <|
  k14 ((List.set (List.set x7 (Int.toNat x9) (x8, (at' x7 x9).2)) (Int.toNat x9) ((at' (List.set x7 (Int.toNat x9) (x8, (at' x7 x9).2)) x9).1, (W (x8 + 1)))), (W ((W (x8 + 1)) + 1)), (W (x9 + 1)))))
  else
  j20 (x7, x8))

def M_l_markKeyS (x0 : List (Int × Int)) (x1 : Int) : Option (Int × List (Int × Int)) :=
  (joinO (fun ((x18, x19) : (List (Int × Int)) × Int) =>
  some (x19, x18)) fun j20 =>
  (fixF (M_l_markKeyS_L1 x0 j20) FUEL (x0, x1, 0)))

theorem ok_l_markKeyS (x0 : List (Int × Int)) (x1 : Int) (a3 : Option Addr) (c4 : Nat) (l5 : Nat) (hl6 : x0.length = l5) (r : Int × List (Int × Int)) (h : M_l_markKeyS x0 x1 = some r) :
    FX Try.prog 15 [.slice a3 l5 c4, .int .i64 x1] [] [⟨(.pair (.int .i64) (.int .i64)), ⟨a3, l5, c4⟩, x0⟩] (fun _ : Unit => True) (fun _ => .int .i64 r.1) (fun _ => [⟨(.pair (.int .i64) (.int .i64)), ⟨a3, l5, c4⟩, r.2⟩]) :=
  by
    subst hl6
    refine FX.of (T := TTx) Try.call15 Try.func15 rfl rfl fun w0 L0 => ?_
    unfold M_l_markKeyS at h
    refine JS.seq ?_
    refine JS.region ?_
    refine JO.reg ttOk 1 [] [] [] _ rfl ⟨trivial, rfl⟩ ?_
    refine JO.done rfl ?_
    refine JS.seq ?_
    refine JS.seq ?_
    refine JS.region ?_
    refine JO.reg ttOk 1 [] [] [(5, .v (.int .i64 0))] _ rfl ⟨⟨rfl, trivial⟩, rfl⟩ ?_
    refine JO.done rfl ?_
    obtain ⟨j20, hj28, h⟩ := joinO_some h
    refine JS.blockJ (ι := (List (Int × Int)) × Int) ⟨fun z => j20 (z.1, z.2) = some r, fun z => [(1, .v (.int .i64 z.2))], fun z => .nil, fun z => [], fun z => [⟨(.pair (.int .i64) (.int .i64)), ⟨a3, x0.length, c4⟩, z.1⟩], fun z => 0⟩ ?_ ?_
    · refine JS.loop (ι := Nat × (List (Int × Int)) × Int × Int) ⟨fun z => fixF (M_l_markKeyS_L1 x0 j20) z.1 (z.2.1, z.2.2.1, z.2.2.2) = some r, fun z => [(0, .v (.slice a3 x0.length c4)), (1, .v (.int .i64 z.2.2.1)), (5, .v (.int .i64 z.2.2.2))], fun z => .nil, fun z => [], fun z => [⟨(.pair (.int .i64) (.int .i64)), ⟨a3, x0.length, c4⟩, z.2.1⟩], fun z => z.1⟩ (FUEL, x0, x1, 0) h ⟨rfl, rfl, rfl, trivial⟩ trivial [] rfl [0] rfl ?_
      rintro ⟨n15, x7, x8, x9⟩ h
      obtain ⟨n15, rfl, h⟩ := fixF_some h
      rw [M_l_markKeyS_L1] at h
      refine JS.know 0 rfl fun hs25 => ?_
      refine JS.seq ?_
      refine JS.seq ?_
      refine JS.region ?_
      refine JO.reg ttOk 4 [] [] [(9, .v (.bool (decide (x9 < (x0.length : Int)))))] _ rfl ⟨⟨rfl, trivial⟩, rfl⟩ ?_
      refine JO.done rfl ?_
      refine JS.cond rfl (fun ht26 => ?_) (fun ht26 => ?_)
      · have h := condT h ht26
        refine JS.skip ?_
        refine JS.seq ?_
        refine JS.block ?_
        refine JS.seq ?_
        refine JS.region ?_
        obtain ⟨g11, h⟩ := guardO_some h
        refine JO.reg ttOk 5 [] [] [(14, .v (.int .i64 x8)), (16, .ep ⟨a3, x0.length, c4⟩ (Int.toNat x9 * 2))] _ rfl ⟨(hs25.cast hs25.len.symm).ix g11, (hs25.cast hs25.len.symm).fa g11, ⟨rfl, rfl, trivial⟩, rfl⟩ ?_
        refine JO.storeE ttOk rfl rfl rfl rfl rfl rfl rfl rfl rfl [0] (fs := []) rfl (Int.toNat x9) 0 (at' x7 x9) (x8, (at' x7 x9).2) ⟨at_someL hs25.len.symm g11, rfl⟩ ⟨⟨rfl, rfl, rfl⟩, rfl⟩ ?_
        refine JO.done rfl ?_
        refine JS.seq ?_
        refine JS.region ?_
        refine JO.reg ttOk 3 [(W (x8 + 1))] [] [(1, .v (.int .i64 (W (x8 + 1))))] _ rfl ⟨⟨trivial, rfl⟩, ⟨rfl, trivial⟩, rfl⟩ ?_
        refine JO.done rfl ?_
        refine JS.seq ?_
        refine JS.region ?_
        obtain ⟨g12, h⟩ := guardO_some h
        refine JO.reg ttOk 5 [] [] [(21, .v (.int .i64 (W (x8 + 1)))), (23, .ep ⟨a3, x0.length, c4⟩ (Int.toNat x9 * 2 + 1))] _ rfl ⟨(hs25.cast hs25.len.symm).ix g12, (hs25.cast hs25.len.symm).fa g12, ⟨rfl, rfl, trivial⟩, rfl⟩ ?_
        refine JO.storeE ttOk rfl rfl rfl rfl rfl rfl rfl rfl rfl [0] (fs := []) rfl (Int.toNat x9) 1 (at' (List.set x7 (Int.toNat x9) (x8, (at' x7 x9).2)) x9) ((at' (List.set x7 (Int.toNat x9) (x8, (at' x7 x9).2)) x9).1, (W (x8 + 1))) ⟨at_someL (List.length_set.trans hs25.len.symm) g12, rfl⟩ ⟨⟨rfl, rfl, rfl⟩, rfl⟩ ?_
        refine JO.done rfl ?_
        refine JS.region ?_
        refine JO.reg ttOk 3 [(W ((W (x8 + 1)) + 1))] [] [(1, .v (.int .i64 (W ((W (x8 + 1)) + 1))))] _ rfl ⟨⟨trivial, rfl⟩, ⟨rfl, trivial⟩, rfl⟩ ?_
        refine JO.done rfl ?_
        refine JS.endB ?_
        refine JS.region ?_
        refine JO.reg ttOk 3 [(W (x9 + 1))] [] [(5, .v (.int .i64 (W (x9 + 1))))] _ rfl ⟨⟨trivial, rfl⟩, ⟨rfl, trivial⟩, rfl⟩ ?_
        refine JO.done rfl ?_
        exact JS.endL (n15, (List.set (List.set x7 (Int.toNat x9) (x8, (at' x7 x9).2)) (Int.toNat x9) ((at' (List.set x7 (Int.toNat x9) (x8, (at' x7 x9).2)) x9).1, (W (x8 + 1)))), (W ((W (x8 + 1)) + 1)), (W (x9 + 1))) h (Nat.lt_succ_self _) ⟨rfl, rfl, rfl, trivial⟩ trivial [] rfl [0] rfl
      · have h := condF h ht26
        refine JS.exit rfl ?_
        exact JS.endJ (x7, x8) h ⟨rfl, trivial⟩ trivial [] rfl [0] rfl
    · rintro ⟨x18, x19⟩ h
      subst hj28
      refine JS.know 0 rfl fun hs27 => ?_
      refine JS.seq ?_
      refine JS.region ?_
      refine JO.reg ttOk 2 [] [] [(4, .v (.int .i64 x19))] _ rfl ⟨⟨rfl, trivial⟩, rfl⟩ ?_
      refine JO.done rfl ?_
      cases h
      exact JS.retX ttOk () trivial rfl rfl [0] rfl

def M_l_heldByteS_L1 (x0 : List UInt8) (j19 : Int → Option Int) (k13 : (Int × Int) → Option Int) : (Int × Int) → Option Int := fun (x7, x8) =>
  (bif (decide (x8 < (x0.length : Int))) then
  (guardO (0 ≤ x8 ∧ x8 < (x0.length : Int)) <|
  (bif (!(decide (((at' x0 x8).toNat : Int) = ((u8 (x7)).toNat : Int)))) then
  some (-1)
  else
  k13 ((W (x7 + 1)), (W (x8 + 1)))))
  else
  j19 x7)

def M_l_heldByteS (x0 : List UInt8) (x1 : Int) : Option Int :=
  (joinO (fun (x18 : Int) =>
  some x18) fun j19 =>
  (fixF (M_l_heldByteS_L1 x0 j19) FUEL (x1, 0)))

theorem ok_l_heldByteS (x0 : List UInt8) (x1 : Int) (a3 : Option Addr) (c4 : Nat) (l5 : Nat) (hl6 : x0.length = l5) (r : Int) (h : M_l_heldByteS x0 x1 = some r) :
    FC Try.prog 35 [.slice a3 l5 c4, .int .i64 x1] [⟨.byte, ⟨a3, l5, c4⟩, x0⟩] (fun _ : Unit => True) (fun _ => .int .i64 r) (fun _ => []) :=
  by
    subst hl6
    refine FC.of (T := TTx) Try.call35 Try.func35 rfl rfl fun w0 => ?_
    unfold M_l_heldByteS at h
    refine JS.seq ?_
    refine JS.region ?_
    refine JO.reg ttOk 1 [] [] [] _ rfl ⟨trivial, rfl⟩ ?_
    refine JO.done rfl ?_
    refine JS.seq ?_
    refine JS.seq ?_
    refine JS.region ?_
    refine JO.reg ttOk 1 [] [] [(5, .v (.int .i64 0))] _ rfl ⟨⟨rfl, trivial⟩, rfl⟩ ?_
    refine JO.done rfl ?_
    obtain ⟨j19, hj27, h⟩ := joinO_some h
    refine JS.blockJ (ι := Int) ⟨fun z => j19 z = some r, fun z => [(1, .v (.int .i64 z))], fun z => .nil, fun z => [], fun z => [], fun z => 0⟩ ?_ ?_
    · refine JS.loop (ι := Nat × Int × Int) ⟨fun z => fixF (M_l_heldByteS_L1 x0 j19) z.1 (z.2.1, z.2.2) = some r, fun z => [(0, .v (.slice a3 x0.length c4)), (1, .v (.int .i64 z.2.1)), (5, .v (.int .i64 z.2.2))], fun z => .nil, fun z => [⟨.byte, ⟨a3, x0.length, c4⟩, x0⟩], fun z => [], fun z => z.1⟩ (FUEL, x1, 0) h ⟨rfl, rfl, rfl, trivial⟩ trivial [0] rfl [] rfl ?_
      rintro ⟨n14, x7, x8⟩ h
      obtain ⟨n14, rfl, h⟩ := fixF_some h
      rw [M_l_heldByteS_L1] at h
      refine JS.seq ?_
      refine JS.seq ?_
      refine JS.region ?_
      refine JO.reg ttOk 4 [] [] [(9, .v (.bool (decide (x8 < (x0.length : Int)))))] _ rfl ⟨⟨rfl, trivial⟩, rfl⟩ ?_
      refine JO.done rfl ?_
      refine JS.cond rfl (fun ht26 => ?_) (fun ht26 => ?_)
      · have h := condT h ht26
        refine JS.skip ?_
        refine JS.seq ?_
        refine JS.block ?_
        refine JS.seq ?_
        refine JS.seq ?_
        refine JS.region ?_
        refine JO.know 0 rfl fun hs24 => ?_
        obtain ⟨g10, h⟩ := guardO_some h
        refine JO.reg ttOk 3 [] [] [(14, .ep ⟨a3, x0.length, c4⟩ (Int.toNat x8 * 1))] _ rfl ⟨hs24.ix g10, ⟨rfl, trivial⟩, rfl⟩ ?_
        refine JO.load ttOk rfl rfl rfl rfl rfl rfl rfl 0 rfl rfl (Int.toNat x8) 0 (at' x0 x8) ⟨at_some g10, rfl⟩ rfl rfl ?_
        refine JO.reg ttOk 3 [((u8 (x7)).toNat : Int)] [] [(18, .v (.bool (!(decide (((at' x0 x8).toNat : Int) = ((u8 (x7)).toNat : Int))))))] _ rfl ⟨⟨trivial, u8_wrap _⟩, ⟨rfl, trivial⟩, rfl⟩ ?_
        refine JO.done rfl ?_
        refine JS.cond rfl (fun ht25 => ?_) (fun ht25 => ?_)
        · have h := condT h ht25
          refine JS.seq ?_
          refine JS.region ?_
          refine JO.reg ttOk 1 [] [] [(4, .v (.int .i64 (-1)))] _ rfl ⟨⟨rfl, trivial⟩, rfl⟩ ?_
          refine JO.done rfl ?_
          cases h
          exact JS.ret ttOk () trivial rfl rfl [] rfl
        · have h := condF h ht25
          refine JS.skip ?_
          refine JS.region ?_
          refine JO.reg ttOk 3 [(W (x7 + 1))] [] [(1, .v (.int .i64 (W (x7 + 1))))] _ rfl ⟨⟨trivial, rfl⟩, ⟨rfl, trivial⟩, rfl⟩ ?_
          refine JO.done rfl ?_
          refine JS.endB ?_
          refine JS.region ?_
          refine JO.reg ttOk 3 [(W (x8 + 1))] [] [(5, .v (.int .i64 (W (x8 + 1))))] _ rfl ⟨⟨trivial, rfl⟩, ⟨rfl, trivial⟩, rfl⟩ ?_
          refine JO.done rfl ?_
          exact JS.endL (n14, (W (x7 + 1)), (W (x8 + 1))) h (Nat.lt_succ_self _) ⟨rfl, rfl, rfl, trivial⟩ trivial [0] rfl [] rfl
      · have h := condF h ht26
        refine JS.exit rfl ?_
        exact JS.endJ x7 h ⟨rfl, trivial⟩ trivial [] rfl [] rfl
    · rintro x18 h
      subst hj27
      refine JS.seq ?_
      refine JS.region ?_
      refine JO.reg ttOk 2 [] [] [(4, .v (.int .i64 x18))] _ rfl ⟨⟨rfl, trivial⟩, rfl⟩ ?_
      refine JO.done rfl ?_
      cases h
      exact JS.ret ttOk () trivial rfl rfl [] rfl

def M_l_heldDec (x0 : Int × List UInt8) (x1 : Int) : Option Int :=
  (bindO (M_l_heldByteS x0.2 x1) fun (y7 : Int) =>
  (bif (decide (y7 < 0)) then
  some (-1)
  else
  some y7))

theorem ok_l_heldDec (x0 : Int × List UInt8) (x1 : Int) (a3 : Option Addr) (c4 : Nat) (l5 : Nat) (hl6 : x0.2.length = l5) (r : Int) (h : M_l_heldDec x0 x1 = some r) :
    FC Try.prog 16 [.agg #[.int .i64 x0.1, .slice a3 l5 c4], .int .i64 x1] [⟨.byte, ⟨a3, l5, c4⟩, x0.2⟩] (fun _ : Unit => True) (fun _ => .int .i64 r) (fun _ => []) :=
  by
    subst hl6
    refine FC.of (T := TTx) Try.call16 Try.func16 rfl rfl fun w0 => ?_
    unfold M_l_heldDec at h
    refine JS.seq ?_
    refine JS.region ?_
    refine JO.regB ttOk 2 [] [2] [(2, .bp 2 0)] (.new 2 26 [.int .i64 x0.1, .slice a3 x0.2.length c4] .nil) rfl ⟨⟨rfl, trivial⟩, ⟨rfl, rfl, rfl, rfl, trivial⟩⟩ ?_
    refine JO.done rfl ?_
    refine JS.seq ?_
    refine JS.region ?_
    refine JO.reg ttOk 3 [] [] [(6, .v (.slice a3 x0.2.length c4)), (7, .v (.int .i64 x1))] _ rfl ⟨⟨rfl, rfl, trivial⟩, rfl⟩ ?_
    obtain ⟨y7, hy8, h⟩ := bindO_some h
    refine JO.call rfl rfl rfl rfl (ok_l_heldByteS x0.2 x1 a3 c4 x0.2.length rfl _ hy8) rfl [0] rfl rfl ?_
    intro _ _
    refine JO.reg ttOk 1 [] [] [(1, .v (.int .i64 y7))] _ rfl ⟨⟨rfl, trivial⟩, rfl⟩ ?_
    refine JO.done rfl ?_
    refine JS.seq ?_
    refine JS.seq ?_
    refine JS.region ?_
    refine JO.reg ttOk 2 [] [] [(10, .v (.bool (decide (y7 < 0))))] _ rfl ⟨⟨rfl, trivial⟩, rfl⟩ ?_
    refine JO.done rfl ?_
    refine JS.cond rfl (fun ht10 => ?_) (fun ht10 => ?_)
    · have h := condT h ht10
      refine JS.seq ?_
      refine JS.region ?_
      refine JO.reg ttOk 1 [] [] [(4, .v (.int .i64 (-1)))] _ rfl ⟨⟨rfl, trivial⟩, rfl⟩ ?_
      refine JO.done rfl ?_
      cases h
      exact JS.ret ttOk () trivial rfl rfl [] rfl
    · have h := condF h ht10
      refine JS.skip ?_
      refine JS.seq ?_
      refine JS.region ?_
      refine JO.reg ttOk 2 [] [] [(4, .v (.int .i64 y7))] _ rfl ⟨⟨rfl, trivial⟩, rfl⟩ ?_
      refine JO.done rfl ?_
      cases h
      exact JS.ret ttOk () trivial rfl rfl [] rfl

def M_l_heldKeyS_L1 (x0 : List (Int × Int)) (j22 : Int → Option Int) (k15 : (Int × Int) → Option Int) : (Int × Int) → Option Int := fun (x7, x8) =>
  (bif (decide (x8 < (x0.length : Int))) then
  (guardO (0 ≤ x8 ∧ x8 < (x0.length : Int)) <|
  (bif (!(decide ((at' x0 x8).1 = x7))) then
  some (-1)
  else
  (guardO (0 ≤ x8 ∧ x8 < (x0.length : Int)) <|
  (bif (!(decide ((at' x0 x8).2 = (W (x7 + 1))))) then
  some (-1)
  else
  k15 ((W ((W (x7 + 1)) + 1)), (W (x8 + 1)))))))
  else
  j22 x7)

def M_l_heldKeyS (x0 : List (Int × Int)) (x1 : Int) : Option Int :=
  (joinO (fun (x21 : Int) =>
  some x21) fun j22 =>
  (fixF (M_l_heldKeyS_L1 x0 j22) FUEL (x1, 0)))

theorem ok_l_heldKeyS (x0 : List (Int × Int)) (x1 : Int) (a3 : Option Addr) (c4 : Nat) (l5 : Nat) (hl6 : x0.length = l5) (r : Int) (h : M_l_heldKeyS x0 x1 = some r) :
    FC Try.prog 17 [.slice a3 l5 c4, .int .i64 x1] [⟨(.pair (.int .i64) (.int .i64)), ⟨a3, l5, c4⟩, x0⟩] (fun _ : Unit => True) (fun _ => .int .i64 r) (fun _ => []) :=
  by
    subst hl6
    refine FC.of (T := TTx) Try.call17 Try.func17 rfl rfl fun w0 => ?_
    unfold M_l_heldKeyS at h
    refine JS.seq ?_
    refine JS.region ?_
    refine JO.reg ttOk 1 [] [] [] _ rfl ⟨trivial, rfl⟩ ?_
    refine JO.done rfl ?_
    refine JS.seq ?_
    refine JS.seq ?_
    refine JS.region ?_
    refine JO.reg ttOk 1 [] [] [(5, .v (.int .i64 0))] _ rfl ⟨⟨rfl, trivial⟩, rfl⟩ ?_
    refine JO.done rfl ?_
    obtain ⟨j22, hj32, h⟩ := joinO_some h
    refine JS.blockJ (ι := Int) ⟨fun z => j22 z = some r, fun z => [(1, .v (.int .i64 z))], fun z => .nil, fun z => [], fun z => [], fun z => 0⟩ ?_ ?_
    · refine JS.loop (ι := Nat × Int × Int) ⟨fun z => fixF (M_l_heldKeyS_L1 x0 j22) z.1 (z.2.1, z.2.2) = some r, fun z => [(0, .v (.slice a3 x0.length c4)), (1, .v (.int .i64 z.2.1)), (5, .v (.int .i64 z.2.2))], fun z => .nil, fun z => [⟨(.pair (.int .i64) (.int .i64)), ⟨a3, x0.length, c4⟩, x0⟩], fun z => [], fun z => z.1⟩ (FUEL, x1, 0) h ⟨rfl, rfl, rfl, trivial⟩ trivial [0] rfl [] rfl ?_
      rintro ⟨n16, x7, x8⟩ h
      obtain ⟨n16, rfl, h⟩ := fixF_some h
      rw [M_l_heldKeyS_L1] at h
      refine JS.seq ?_
      refine JS.seq ?_
      refine JS.region ?_
      refine JO.reg ttOk 4 [] [] [(9, .v (.bool (decide (x8 < (x0.length : Int)))))] _ rfl ⟨⟨rfl, trivial⟩, rfl⟩ ?_
      refine JO.done rfl ?_
      refine JS.cond rfl (fun ht31 => ?_) (fun ht31 => ?_)
      · have h := condT h ht31
        refine JS.skip ?_
        refine JS.seq ?_
        refine JS.block ?_
        refine JS.seq ?_
        refine JS.seq ?_
        refine JS.region ?_
        refine JO.know 0 rfl fun hs28 => ?_
        obtain ⟨g10, h⟩ := guardO_some h
        refine JO.reg ttOk 4 [] [] [(15, .ep ⟨a3, x0.length, c4⟩ (Int.toNat x8 * 2))] _ rfl ⟨hs28.ix g10, hs28.fa g10, ⟨rfl, trivial⟩, rfl⟩ ?_
        refine JO.load ttOk rfl rfl rfl rfl rfl rfl rfl 0 rfl rfl (Int.toNat x8) 0 (at' x0 x8) ⟨at_some g10, rfl⟩ rfl rfl ?_
        refine JO.reg ttOk 2 [] [] [(18, .v (.bool (!(decide ((at' x0 x8).1 = x7)))))] _ rfl ⟨⟨rfl, trivial⟩, rfl⟩ ?_
        refine JO.done rfl ?_
        refine JS.cond rfl (fun ht30 => ?_) (fun ht30 => ?_)
        · have h := condT h ht30
          refine JS.seq ?_
          refine JS.region ?_
          refine JO.reg ttOk 1 [] [] [(4, .v (.int .i64 (-1)))] _ rfl ⟨⟨rfl, trivial⟩, rfl⟩ ?_
          refine JO.done rfl ?_
          cases h
          exact JS.ret ttOk () trivial rfl rfl [] rfl
        · have h := condF h ht30
          refine JS.skip ?_
          refine JS.seq ?_
          refine JS.region ?_
          refine JO.reg ttOk 3 [(W (x7 + 1))] [] [(1, .v (.int .i64 (W (x7 + 1))))] _ rfl ⟨⟨trivial, rfl⟩, ⟨rfl, trivial⟩, rfl⟩ ?_
          refine JO.done rfl ?_
          refine JS.seq ?_
          refine JS.seq ?_
          refine JS.region ?_
          obtain ⟨g11, h⟩ := guardO_some h
          refine JO.reg ttOk 4 [] [] [(24, .ep ⟨a3, x0.length, c4⟩ (Int.toNat x8 * 2 + 1))] _ rfl ⟨hs28.ix g11, hs28.fa g11, ⟨rfl, trivial⟩, rfl⟩ ?_
          refine JO.load ttOk rfl rfl rfl rfl rfl rfl rfl 0 rfl rfl (Int.toNat x8) 1 (at' x0 x8) ⟨at_some g11, rfl⟩ rfl rfl ?_
          refine JO.reg ttOk 2 [] [] [(27, .v (.bool (!(decide ((at' x0 x8).2 = (W (x7 + 1)))))))] _ rfl ⟨⟨rfl, trivial⟩, rfl⟩ ?_
          refine JO.done rfl ?_
          refine JS.cond rfl (fun ht29 => ?_) (fun ht29 => ?_)
          · have h := condT h ht29
            refine JS.seq ?_
            refine JS.region ?_
            refine JO.reg ttOk 1 [] [] [(4, .v (.int .i64 (-1)))] _ rfl ⟨⟨rfl, trivial⟩, rfl⟩ ?_
            refine JO.done rfl ?_
            cases h
            exact JS.ret ttOk () trivial rfl rfl [] rfl
          · have h := condF h ht29
            refine JS.skip ?_
            refine JS.region ?_
            refine JO.reg ttOk 3 [(W ((W (x7 + 1)) + 1))] [] [(1, .v (.int .i64 (W ((W (x7 + 1)) + 1))))] _ rfl ⟨⟨trivial, rfl⟩, ⟨rfl, trivial⟩, rfl⟩ ?_
            refine JO.done rfl ?_
            refine JS.endB ?_
            refine JS.region ?_
            refine JO.reg ttOk 3 [(W (x8 + 1))] [] [(5, .v (.int .i64 (W (x8 + 1))))] _ rfl ⟨⟨trivial, rfl⟩, ⟨rfl, trivial⟩, rfl⟩ ?_
            refine JO.done rfl ?_
            exact JS.endL (n16, (W ((W (x7 + 1)) + 1)), (W (x8 + 1))) h (Nat.lt_succ_self _) ⟨rfl, rfl, rfl, trivial⟩ trivial [0] rfl [] rfl
      · have h := condF h ht31
        refine JS.exit rfl ?_
        exact JS.endJ x7 h ⟨rfl, trivial⟩ trivial [] rfl [] rfl
    · rintro x21 h
      subst hj32
      refine JS.seq ?_
      refine JS.region ?_
      refine JO.reg ttOk 2 [] [] [(4, .v (.int .i64 x21))] _ rfl ⟨⟨rfl, trivial⟩, rfl⟩ ?_
      refine JO.done rfl ?_
      cases h
      exact JS.ret ttOk () trivial rfl rfl [] rfl

def M_l_FnExactDecByte (x0 : Int × List UInt8) (x1 : Int) : Option Bool :=
  (bindO (M_l_szDec x0 1048576) fun (y7 : Int) =>
  (bif (decide (y7 < 0)) then
  some true
  else
  (bindO (M_l_toDec x0) fun (y9 : Int × List UInt8) =>
  (bindO (M_s_DecByte y9 x1) fun (y13, y14) =>
  (bindO (M_l_toDec x0) fun (y20 : Int × List UInt8) =>
  (bindO (M_i_DecByte y20 x1) fun (y24, y25) =>
  (bindO (M_l_eqDec y24 y13) fun (y31 : Bool) =>
  (callO ((!y31) = false) (M_l_eqKeyS y25 y14) false fun (y33 : Bool) =>
  (bif (bif (!y31) then true else (!y33)) then
  some false
  else
  (bindO (M_l_toDec x0) fun (y36 : Int × List UInt8) =>
  (bindO (M_l_eqDec y20 y36) fun (y40 : Bool) =>
  (bif (!y40) then
  some false
  else
  (bindO (M_l_markDec y20 1) fun (y43, y44) =>
  (callO ((decide (y43 < 0)) = false) (M_l_eqDec y24 y13) false fun (y47 : Bool) =>
  (callO ((bif (decide (y43 < 0)) then true else (!y47)) = false) (M_l_eqKeyS y25 y14) false fun (y50 : Bool) =>
  (bif (bif (bif (decide (y43 < 0)) then true else (!y47)) then true else (!y50)) then
  some false
  else
  (bindO (M_l_markDec y24 1) fun (y53, y54) =>
  (bindO (M_l_markKeyS y25 y53) fun (y57, y58) =>
  (bindO (M_l_heldDec (y24.1, y54) 1) fun (y61 : Int) =>
  (bif (decide (y61 < 0)) then
  some false
  else
  (bindO (M_l_heldKeyS y58 y61) fun (y63 : Int) =>
  (bif (decide (y63 < 0)) then
  some false
  else
  (bif (!(decide (y63 = y57))) then
  some false
  else
  (bindO (M_l_toDec x0) fun (y65 : Int × List UInt8) =>
  (bindO (M_i_DecByte y65 x1) fun (y69, y70) =>
  (bindO (M_l_eqDec y69 y13) fun (y76 : Bool) =>
  (callO ((!y76) = false) (M_l_eqKeyS y70 y14) false fun (y78 : Bool) =>
  (bif (bif (!y76) then true else (!y78)) then
  some false
  else
  (bindO (M_l_heldDec (y24.1, y54) 1) fun (y81 : Int) =>
  (bif (decide (y81 < 0)) then
  some false
  else
  (bindO (M_l_heldKeyS y58 y81) fun (y83 : Int) =>
  (bif (decide (y83 < 0)) then
  some false
  else
  (bif (!(decide (y83 = y57))) then
  some false
  else
  some true)))))))))))))))))))))))))))))))))

theorem ok_l_FnExactDecByte (x0 : Int × List UInt8) (x1 : Int) (a3 : Option Addr) (c4 : Nat) (l5 : Nat) (hl6 : x0.2.length = l5) (r : Bool) (h : M_l_FnExactDecByte x0 x1 = some r) :
    FC Try.prog 6 [.agg #[.int .i64 x0.1, .slice a3 l5 c4], .int .i64 x1] [⟨.byte, ⟨a3, l5, c4⟩, x0.2⟩] (fun _ : Unit => True) (fun _ => .bool r) (fun _ => []) :=
  by
    subst hl6
    refine FC.of (T := TTx) Try.call6 Try.func6 rfl rfl fun w0 => ?_
    unfold M_l_FnExactDecByte at h
    refine JS.seq ?_
    refine JS.region ?_
    refine JO.regB ttOk 2 [] [2] [(2, .bp 2 0)] (.new 2 24 [.int .i64 x0.1, .slice a3 x0.2.length c4] .nil) rfl ⟨⟨rfl, trivial⟩, ⟨rfl, rfl, rfl, rfl, trivial⟩⟩ ?_
    refine JO.done rfl ?_
    refine JS.seq ?_
    refine JS.region ?_
    refine JO.reg ttOk 1 [] [] [(5, .v (.int .i64 1048576))] _ rfl ⟨⟨rfl, trivial⟩, rfl⟩ ?_
    refine JO.done rfl ?_
    refine JS.seq ?_
    refine JS.region ?_
    refine JO.reg ttOk 2 [] [] [(16, .v (.agg #[.int .i64 x0.1, .slice a3 x0.2.length c4])), (17, .v (.int .i64 1048576))] _ rfl ⟨⟨rfl, rfl, trivial⟩, rfl⟩ ?_
    obtain ⟨y7, hy8, h⟩ := bindO_some h
    refine JO.call rfl rfl rfl rfl (ok_l_szDec x0 1048576 a3 c4 x0.2.length rfl _ hy8) rfl [0] rfl rfl ?_
    intro _ _
    refine JO.reg ttOk 1 [] [] [(5, .v (.int .i64 y7))] _ rfl ⟨⟨rfl, trivial⟩, rfl⟩ ?_
    refine JO.done rfl ?_
    refine JS.seq ?_
    refine JS.seq ?_
    refine JS.region ?_
    refine JO.reg ttOk 2 [] [] [(20, .v (.bool (decide (y7 < 0))))] _ rfl ⟨⟨rfl, trivial⟩, rfl⟩ ?_
    refine JO.done rfl ?_
    refine JS.cond rfl (fun ht110 => ?_) (fun ht110 => ?_)
    · have h := condT h ht110
      refine JS.seq ?_
      refine JS.region ?_
      refine JO.reg ttOk 1 [] [] [(4, .v (.bool true))] _ rfl ⟨⟨rfl, trivial⟩, rfl⟩ ?_
      refine JO.done rfl ?_
      cases h
      exact JS.ret ttOk () trivial rfl rfl [] rfl
    · have h := condF h ht110
      refine JS.skip ?_
      refine JS.seq ?_
      refine JS.region ?_
      refine JO.reg ttOk 1 [] [] [(22, .v (.agg #[.int .i64 x0.1, .slice a3 x0.2.length c4]))] _ rfl ⟨⟨rfl, trivial⟩, rfl⟩ ?_
      obtain ⟨y9, hy10, h⟩ := bindO_some h
      refine JO.call rfl rfl rfl rfl (ok_l_toDec x0 a3 c4 x0.2.length rfl _ hy10) rfl [0] rfl rfl ?_
      rintro ⟨a11, c12⟩ -
      refine JO.reg ttOk 1 [] [] [(24, .v (.int .i64 x1))] _ rfl ⟨⟨rfl, trivial⟩, rfl⟩ ?_
      obtain ⟨⟨y13, y14⟩, hy15, h⟩ := bindO_some h
      refine JO.call rfl rfl rfl rfl (ok_s_DecByte y9 x1 a11 c12 y9.2.length rfl _ hy15) rfl [1] rfl rfl ?_
      rintro ⟨a16, c17, a18, c19⟩ -
      refine JO.regB ttOk 6 [] [19] [(6, .bp 19 0), (7, .v (.slice a18 y14.length c19))] (.new 2 24 [.int .i64 x0.1, .slice a3 x0.2.length c4] (.new 19 26 [.int .i64 y13.1, .slice a16 y13.2.length c17] .nil)) rfl ⟨⟨rfl, rfl, trivial⟩, ⟨rfl, rfl, rfl, rfl, rfl, rfl, rfl, rfl, trivial⟩⟩ ?_
      refine JO.done rfl ?_
      refine JS.seq ?_
      refine JS.region ?_
      refine JO.reg ttOk 1 [] [] [(28, .v (.agg #[.int .i64 x0.1, .slice a3 x0.2.length c4]))] _ rfl ⟨⟨rfl, trivial⟩, rfl⟩ ?_
      obtain ⟨y20, hy21, h⟩ := bindO_some h
      refine JO.call rfl rfl rfl rfl (ok_l_toDec x0 a3 c4 x0.2.length rfl _ hy21) rfl [0] rfl rfl ?_
      rintro ⟨a22, c23⟩ -
      refine JO.regB ttOk 2 [] [25] [(8, .bp 25 0)] (.new 2 24 [.int .i64 x0.1, .slice a3 x0.2.length c4] (.new 19 26 [.int .i64 y13.1, .slice a16 y13.2.length c17] (.new 25 26 [.int .i64 y20.1, .slice a22 y20.2.length c23] .nil))) rfl ⟨⟨rfl, trivial⟩, ⟨rfl, rfl, rfl, rfl, rfl, rfl, rfl, rfl, rfl, rfl, rfl, rfl, trivial⟩⟩ ?_
      refine JO.done rfl ?_
      refine JS.seq ?_
      refine JS.region ?_
      refine JO.reg ttOk 2 [] [] [(31, .v (.agg #[.int .i64 y20.1, .slice a22 y20.2.length c23])), (32, .v (.int .i64 x1))] _ rfl ⟨⟨rfl, rfl, trivial⟩, rfl⟩ ?_
      obtain ⟨⟨y24, y25⟩, hy26, h⟩ := bindO_some h
      refine JO.call rfl rfl rfl rfl (ok_i_DecByte y20 x1 a22 c23 y20.2.length rfl _ hy26) rfl [1] rfl rfl ?_
      rintro ⟨a27, c28, a29, c30⟩ -
      refine JO.regB ttOk 6 [] [35] [(9, .bp 35 0), (10, .v (.slice a29 y25.length c30))] (.new 2 24 [.int .i64 x0.1, .slice a3 x0.2.length c4] (.new 19 26 [.int .i64 y13.1, .slice a16 y13.2.length c17] (.new 25 26 [.int .i64 y20.1, .slice a22 y20.2.length c23] (.new 35 26 [.int .i64 y24.1, .slice a27 y24.2.length c28] .nil)))) rfl ⟨⟨rfl, rfl, trivial⟩, ⟨rfl, rfl, rfl, rfl, rfl, rfl, rfl, rfl, rfl, rfl, rfl, rfl, rfl, rfl, rfl, rfl, trivial⟩⟩ ?_
      refine JO.done rfl ?_
      refine JS.seq ?_
      refine JS.seq ?_
      refine JS.region ?_
      refine JO.reg ttOk 2 [] [] [(36, .v (.agg #[.int .i64 y24.1, .slice a27 y24.2.length c28])), (37, .v (.agg #[.int .i64 y13.1, .slice a16 y13.2.length c17]))] _ rfl ⟨⟨rfl, rfl, trivial⟩, rfl⟩ ?_
      obtain ⟨y31, hy32, h⟩ := bindO_some h
      refine JO.call rfl rfl rfl rfl (ok_l_eqDec y24 y13 a27 c28 y24.2.length rfl a16 c17 y13.2.length rfl _ hy32) rfl [1, 4] rfl rfl ?_
      intro _ _
      refine JO.reg ttOk 4 [] [] [(40, .v (.bool (!y31))), (41, .cd [(40, false)] (.v (.slice a29 y25.length c30))), (42, .cd [(40, false)] (.v (.slice a18 y14.length c19)))] _ rfl ⟨⟨rfl, rfl, rfl, trivial⟩, rfl⟩ ?_
      obtain ⟨y33, hy34, -, h⟩ := callO_some h
      refine JO.callg rfl rfl rfl rfl (fun q96 => ok_l_eqKeyS y25 y14 a29 c30 y25.length rfl a18 c19 y14.length rfl _ (hy34 q96)) rfl [2, 5] rfl rfl ?_
      refine JO.reg ttOk 2 [] [] [(45, .v (.bool (bif (!y31) then true else (!y33))))] _ rfl ⟨⟨rfl, trivial⟩, rfl⟩ ?_
      refine JO.done rfl ?_
      refine JS.cond rfl (fun ht109 => ?_) (fun ht109 => ?_)
      · have h := condT h ht109
        refine JS.seq ?_
        refine JS.region ?_
        refine JO.reg ttOk 1 [] [] [(4, .v (.bool false))] _ rfl ⟨⟨rfl, trivial⟩, rfl⟩ ?_
        refine JO.done rfl ?_
        cases h
        exact JS.ret ttOk () trivial rfl rfl [] rfl
      · have h := condF h ht109
        refine JS.skip ?_
        refine JS.seq ?_
        refine JS.seq ?_
        obtain ⟨y36, hy37, h⟩ := bindO_some h
        obtain ⟨y40, hy41, h⟩ := bindO_some h
        refine JS.regionA rfl (.new 2 24 [.int .i64 x0.1, .slice a3 x0.2.length c4] (.new 25 26 [.int .i64 y20.1, .slice a22 y20.2.length c23] .nil)) [] [] ⟨rfl, rfl, rfl, rfl, rfl, rfl, rfl, rfl, trivial⟩ rfl (fun be42 => ?_)
        refine JA.reg ttOk panic_cx true 3 [0, 1] rfl (by kernel_rfl) [] [(46, .v (.agg #[.int .i64 y20.1, .slice a22 y20.2.length c23])), (47, .v (.agg #[.int .i64 x0.1, .slice a3 x0.2.length c4]))] ⟨rfl, rfl, rfl, rfl, rfl, rfl, rfl, rfl, trivial⟩ [] rfl rfl ⟨rfl, rfl, trivial⟩ ?_
        refine JA.one 2 (by kernel_rfl) ?_
        refine JK.call rfl rfl rfl rfl (ok_l_toDec x0 a3 c4 x0.2.length rfl _ hy37) rfl [0] rfl rfl ?_
        rintro ⟨a38, c39⟩ -
        refine JA.next ⟨rfl, rfl, rfl, rfl, rfl, rfl, rfl, rfl, trivial⟩ [] rfl ?_
        refine JA.one 3 (by kernel_rfl) ?_
        refine JK.call rfl rfl rfl rfl (ok_l_eqDec y20 y36 a22 c23 y20.2.length rfl a38 c39 y36.2.length rfl _ hy41) rfl [4, 1] rfl rfl ?_
        intro _ _
        refine JA.next ⟨rfl, rfl, rfl, rfl, rfl, rfl, rfl, rfl, trivial⟩ [] rfl ?_
        refine JA.reg ttOk panic_cx true 0 [4] rfl (by kernel_rfl) [] [(46, .v (.agg #[.int .i64 y20.1, .slice a22 y20.2.length c23])), (47, .v (.agg #[.int .i64 x0.1, .slice a3 x0.2.length c4])), (48, .v (.agg #[.int .i64 y36.1, .slice a38 y36.2.length c39])), (49, .v (.bool y40)), (50, .v (.bool (!y40)))] ⟨rfl, rfl, rfl, rfl, rfl, rfl, rfl, rfl, trivial⟩ [] rfl rfl ⟨rfl, rfl, rfl, rfl, rfl, trivial⟩ ?_
        refine JA.done (by kernel_rfl) ?_
        refine JS.boxes (B' := (.new 2 24 [.int .i64 x0.1, .slice a3 x0.2.length c4] (.new 19 26 [.int .i64 y13.1, .slice a16 y13.2.length c17] (.new 25 26 [.int .i64 y20.1, .slice a22 y20.2.length c23] (.new 35 26 [.int .i64 y24.1, .slice a27 y24.2.length c28] .nil))))) ⟨rfl, rfl, rfl, rfl, rfl, rfl, rfl, rfl, rfl, rfl, rfl, rfl, rfl, rfl, rfl, rfl, trivial⟩ ?_
        refine JS.cond rfl (fun ht108 => ?_) (fun ht108 => ?_)
        · have h := condT h ht108
          refine JS.seq ?_
          refine JS.region ?_
          refine JO.reg ttOk 1 [] [] [(4, .v (.bool false))] _ rfl ⟨⟨rfl, trivial⟩, rfl⟩ ?_
          refine JO.done rfl ?_
          cases h
          exact JS.ret ttOk () trivial rfl rfl [] rfl
        · have h := condF h ht108
          refine JS.skip ?_
          refine JS.seq ?_
          refine JS.region ?_
          refine JO.reg ttOk 1 [] [] [(11, .v (.int .i64 1))] _ rfl ⟨⟨rfl, trivial⟩, rfl⟩ ?_
          refine JO.done rfl ?_
          refine JS.seq ?_
          refine JS.region ?_
          refine JO.reg ttOk 2 [] [] [(51, .v (.agg #[.int .i64 y20.1, .slice a22 y20.2.length c23])), (52, .v (.int .i64 1))] _ rfl ⟨⟨rfl, rfl, trivial⟩, rfl⟩ ?_
          obtain ⟨⟨y43, y44⟩, hy45, h⟩ := bindO_some h
          refine JO.callX rfl rfl rfl rfl (ok_l_markDec y20 1 a22 c23 y20.2.length rfl _ hy45) rfl [3] rfl [] rfl rfl ?_
          intro _ _
          refine JO.know 1 rfl fun hs46 => ?_
          refine JO.reg ttOk 1 [] [] [(11, .v (.int .i64 y43))] _ rfl ⟨⟨rfl, trivial⟩, rfl⟩ ?_
          refine JO.done rfl ?_
          refine JS.seq ?_
          refine JS.seq ?_
          refine JS.region ?_
          refine JO.reg ttOk 5 [] [] [(56, .v (.bool (decide (y43 < 0)))), (57, .cd [(56, false)] (.v (.agg #[.int .i64 y24.1, .slice a27 y24.2.length c28]))), (58, .cd [(56, false)] (.v (.agg #[.int .i64 y13.1, .slice a16 y13.2.length c17])))] _ rfl ⟨⟨rfl, rfl, rfl, trivial⟩, rfl⟩ ?_
          obtain ⟨y47, hy48, -, h⟩ := callO_some h
          refine JO.callg rfl rfl rfl rfl (fun q97 => ok_l_eqDec y24 y13 a27 c28 y24.2.length rfl a16 c17 y13.2.length rfl _ (hy48 q97)) rfl [3, 5] rfl rfl ?_
          refine JO.reg ttOk 5 [] [] [(62, .v (.bool (bif (decide (y43 < 0)) then true else (!y47)))), (63, .cd [(62, false)] (.v (.slice a29 y25.length c30))), (64, .cd [(62, false)] (.v (.slice a18 y14.length c19)))] _ rfl ⟨⟨rfl, rfl, rfl, trivial⟩, rfl⟩ ?_
          obtain ⟨y50, hy51, -, h⟩ := callO_some h
          refine JO.callg rfl rfl rfl rfl (fun q98 => ok_l_eqKeyS y25 y14 a29 c30 y25.length rfl a18 c19 y14.length rfl _ (hy51 q98)) rfl [4, 6] rfl rfl ?_
          refine JO.reg ttOk 2 [] [] [(67, .v (.bool (bif (bif (decide (y43 < 0)) then true else (!y47)) then true else (!y50))))] _ rfl ⟨⟨rfl, trivial⟩, rfl⟩ ?_
          refine JO.done rfl ?_
          refine JS.cond rfl (fun ht107 => ?_) (fun ht107 => ?_)
          · have h := condT h ht107
            refine JS.seq ?_
            refine JS.region ?_
            refine JO.reg ttOk 1 [] [] [(4, .v (.bool false))] _ rfl ⟨⟨rfl, trivial⟩, rfl⟩ ?_
            refine JO.done rfl ?_
            cases h
            exact JS.ret ttOk () trivial rfl rfl [] rfl
          · have h := condF h ht107
            refine JS.skip ?_
            refine JS.seq ?_
            refine JS.region ?_
            refine JO.reg ttOk 1 [] [] [(12, .v (.int .i64 1))] _ rfl ⟨⟨rfl, trivial⟩, rfl⟩ ?_
            refine JO.done rfl ?_
            refine JS.seq ?_
            refine JS.region ?_
            refine JO.reg ttOk 2 [] [] [(68, .v (.agg #[.int .i64 y24.1, .slice a27 y24.2.length c28])), (69, .v (.int .i64 1))] _ rfl ⟨⟨rfl, rfl, trivial⟩, rfl⟩ ?_
            obtain ⟨⟨y53, y54⟩, hy55, h⟩ := bindO_some h
            refine JO.callX rfl rfl rfl rfl (ok_l_markDec y24 1 a27 c28 y24.2.length rfl _ hy55) rfl [2] rfl [] rfl rfl ?_
            intro _ _
            refine JO.know 1 rfl fun hs56 => ?_
            refine JO.reg ttOk 1 [] [] [(12, .v (.int .i64 y53))] _ rfl ⟨⟨rfl, trivial⟩, rfl⟩ ?_
            refine JO.done rfl ?_
            refine JS.seq ?_
            refine JS.region ?_
            refine JO.reg ttOk 2 [] [] [(71, .v (.slice a29 y25.length c30)), (72, .v (.int .i64 y53))] _ rfl ⟨⟨rfl, rfl, trivial⟩, rfl⟩ ?_
            obtain ⟨⟨y57, y58⟩, hy59, h⟩ := bindO_some h
            refine JO.callX rfl rfl rfl rfl (ok_l_markKeyS y25 y53 a29 c30 y25.length rfl _ hy59) rfl [3] rfl [] rfl rfl ?_
            intro _ _
            refine JO.know 1 rfl fun hs60 => ?_
            refine JO.reg ttOk 1 [] [] [(12, .v (.int .i64 y57))] _ rfl ⟨⟨rfl, trivial⟩, rfl⟩ ?_
            refine JO.done rfl ?_
            refine JS.seq ?_
            refine JS.region ?_
            refine JO.reg ttOk 1 [] [] [(13, .v (.int .i64 1))] _ rfl ⟨⟨rfl, trivial⟩, rfl⟩ ?_
            refine JO.done rfl ?_
            refine JS.seq ?_
            refine JS.region ?_
            refine JO.reg ttOk 2 [] [] [(74, .v (.agg #[.int .i64 y24.1, .slice a27 y24.2.length c28])), (75, .v (.int .i64 1))] _ rfl ⟨⟨rfl, rfl, trivial⟩, rfl⟩ ?_
            obtain ⟨y61, hy62, h⟩ := bindO_some h
            refine JO.call rfl rfl rfl rfl (ok_l_heldDec (y24.1, y54) 1 a27 c28 y24.2.length hs56.len.symm _ hy62) rfl [2] rfl rfl ?_
            intro _ _
            refine JO.reg ttOk 1 [] [] [(13, .v (.int .i64 y61))] _ rfl ⟨⟨rfl, trivial⟩, rfl⟩ ?_
            refine JO.done rfl ?_
            refine JS.seq ?_
            refine JS.seq ?_
            refine JS.region ?_
            refine JO.reg ttOk 2 [] [] [(78, .v (.bool (decide (y61 < 0))))] _ rfl ⟨⟨rfl, trivial⟩, rfl⟩ ?_
            refine JO.done rfl ?_
            refine JS.cond rfl (fun ht106 => ?_) (fun ht106 => ?_)
            · have h := condT h ht106
              refine JS.seq ?_
              refine JS.region ?_
              refine JO.reg ttOk 1 [] [] [(4, .v (.bool false))] _ rfl ⟨⟨rfl, trivial⟩, rfl⟩ ?_
              refine JO.done rfl ?_
              cases h
              exact JS.ret ttOk () trivial rfl rfl [] rfl
            · have h := condF h ht106
              refine JS.skip ?_
              refine JS.seq ?_
              refine JS.region ?_
              refine JO.reg ttOk 2 [] [] [(79, .v (.slice a29 y25.length c30)), (80, .v (.int .i64 y61))] _ rfl ⟨⟨rfl, rfl, trivial⟩, rfl⟩ ?_
              obtain ⟨y63, hy64, h⟩ := bindO_some h
              refine JO.call rfl rfl rfl rfl (ok_l_heldKeyS y58 y61 a29 c30 y25.length hs60.len.symm _ hy64) rfl [1] rfl rfl ?_
              intro _ _
              refine JO.reg ttOk 1 [] [] [(13, .v (.int .i64 y63))] _ rfl ⟨⟨rfl, trivial⟩, rfl⟩ ?_
              refine JO.done rfl ?_
              refine JS.seq ?_
              refine JS.seq ?_
              refine JS.region ?_
              refine JO.reg ttOk 2 [] [] [(83, .v (.bool (decide (y63 < 0))))] _ rfl ⟨⟨rfl, trivial⟩, rfl⟩ ?_
              refine JO.done rfl ?_
              refine JS.cond rfl (fun ht105 => ?_) (fun ht105 => ?_)
              · have h := condT h ht105
                refine JS.seq ?_
                refine JS.region ?_
                refine JO.reg ttOk 1 [] [] [(4, .v (.bool false))] _ rfl ⟨⟨rfl, trivial⟩, rfl⟩ ?_
                refine JO.done rfl ?_
                cases h
                exact JS.ret ttOk () trivial rfl rfl [] rfl
              · have h := condF h ht105
                refine JS.skip ?_
                refine JS.seq ?_
                refine JS.seq ?_
                refine JS.region ?_
                refine JO.reg ttOk 3 [] [] [(86, .v (.bool (!(decide (y63 = y57)))))] _ rfl ⟨⟨rfl, trivial⟩, rfl⟩ ?_
                refine JO.done rfl ?_
                refine JS.cond rfl (fun ht104 => ?_) (fun ht104 => ?_)
                · have h := condT h ht104
                  refine JS.seq ?_
                  refine JS.region ?_
                  refine JO.reg ttOk 1 [] [] [(4, .v (.bool false))] _ rfl ⟨⟨rfl, trivial⟩, rfl⟩ ?_
                  refine JO.done rfl ?_
                  cases h
                  exact JS.ret ttOk () trivial rfl rfl [] rfl
                · have h := condF h ht104
                  refine JS.skip ?_
                  refine JS.seq ?_
                  refine JS.region ?_
                  refine JO.reg ttOk 1 [] [] [(88, .v (.agg #[.int .i64 x0.1, .slice a3 x0.2.length c4]))] _ rfl ⟨⟨rfl, trivial⟩, rfl⟩ ?_
                  obtain ⟨y65, hy66, h⟩ := bindO_some h
                  refine JO.call rfl rfl rfl rfl (ok_l_toDec x0 a3 c4 x0.2.length rfl _ hy66) rfl [0] rfl rfl ?_
                  rintro ⟨a67, c68⟩ -
                  refine JO.reg ttOk 1 [] [] [(90, .v (.int .i64 x1))] _ rfl ⟨⟨rfl, trivial⟩, rfl⟩ ?_
                  obtain ⟨⟨y69, y70⟩, hy71, h⟩ := bindO_some h
                  refine JO.call rfl rfl rfl rfl (ok_i_DecByte y65 x1 a67 c68 y65.2.length rfl _ hy71) rfl [1] rfl rfl ?_
                  rintro ⟨a72, c73, a74, c75⟩ -
                  refine JO.regB ttOk 6 [] [82] [(14, .bp 82 0), (15, .v (.slice a74 y70.length c75))] (.new 19 26 [.int .i64 y13.1, .slice a16 y13.2.length c17] (.new 35 26 [.int .i64 y24.1, .slice a27 y24.2.length c28] (.new 82 26 [.int .i64 y69.1, .slice a72 y69.2.length c73] .nil))) rfl ⟨⟨rfl, rfl, trivial⟩, ⟨rfl, rfl, rfl, rfl, rfl, rfl, rfl, rfl, rfl, rfl, rfl, rfl, trivial⟩⟩ ?_
                  refine JO.done rfl ?_
                  refine JS.seq ?_
                  refine JS.seq ?_
                  refine JS.region ?_
                  refine JO.reg ttOk 2 [] [] [(94, .v (.agg #[.int .i64 y69.1, .slice a72 y69.2.length c73])), (95, .v (.agg #[.int .i64 y13.1, .slice a16 y13.2.length c17]))] _ rfl ⟨⟨rfl, rfl, trivial⟩, rfl⟩ ?_
                  obtain ⟨y76, hy77, h⟩ := bindO_some h
                  refine JO.call rfl rfl rfl rfl (ok_l_eqDec y69 y13 a72 c73 y69.2.length rfl a16 c17 y13.2.length rfl _ hy77) rfl [1, 8] rfl rfl ?_
                  intro _ _
                  refine JO.reg ttOk 4 [] [] [(98, .v (.bool (!y76))), (99, .cd [(98, false)] (.v (.slice a74 y70.length c75))), (100, .cd [(98, false)] (.v (.slice a18 y14.length c19)))] _ rfl ⟨⟨rfl, rfl, rfl, trivial⟩, rfl⟩ ?_
                  obtain ⟨y78, hy79, -, h⟩ := callO_some h
                  refine JO.callg rfl rfl rfl rfl (fun q99 => ok_l_eqKeyS y70 y14 a74 c75 y70.length rfl a18 c19 y14.length rfl _ (hy79 q99)) rfl [2, 9] rfl rfl ?_
                  refine JO.reg ttOk 2 [] [] [(103, .v (.bool (bif (!y76) then true else (!y78))))] _ rfl ⟨⟨rfl, trivial⟩, rfl⟩ ?_
                  refine JO.done rfl ?_
                  refine JS.cond rfl (fun ht103 => ?_) (fun ht103 => ?_)
                  · have h := condT h ht103
                    refine JS.seq ?_
                    refine JS.region ?_
                    refine JO.reg ttOk 1 [] [] [(4, .v (.bool false))] _ rfl ⟨⟨rfl, trivial⟩, rfl⟩ ?_
                    refine JO.done rfl ?_
                    cases h
                    exact JS.ret ttOk () trivial rfl rfl [] rfl
                  · have h := condF h ht103
                    refine JS.skip ?_
                    refine JS.seq ?_
                    refine JS.region ?_
                    refine JO.reg ttOk 1 [] [] [(13, .v (.int .i64 1))] _ rfl ⟨⟨rfl, trivial⟩, rfl⟩ ?_
                    refine JO.done rfl ?_
                    refine JS.seq ?_
                    refine JS.region ?_
                    refine JO.reg ttOk 2 [] [] [(104, .v (.agg #[.int .i64 y24.1, .slice a27 y24.2.length c28])), (105, .v (.int .i64 1))] _ rfl ⟨⟨rfl, rfl, trivial⟩, rfl⟩ ?_
                    obtain ⟨y81, hy82, h⟩ := bindO_some h
                    refine JO.call rfl rfl rfl rfl (ok_l_heldDec (y24.1, y54) 1 a27 c28 y24.2.length hs56.len.symm _ hy82) rfl [5] rfl rfl ?_
                    intro _ _
                    refine JO.reg ttOk 1 [] [] [(13, .v (.int .i64 y81))] _ rfl ⟨⟨rfl, trivial⟩, rfl⟩ ?_
                    refine JO.done rfl ?_
                    refine JS.seq ?_
                    refine JS.seq ?_
                    refine JS.region ?_
                    refine JO.reg ttOk 2 [] [] [(108, .v (.bool (decide (y81 < 0))))] _ rfl ⟨⟨rfl, trivial⟩, rfl⟩ ?_
                    refine JO.done rfl ?_
                    refine JS.cond rfl (fun ht102 => ?_) (fun ht102 => ?_)
                    · have h := condT h ht102
                      refine JS.seq ?_
                      refine JS.region ?_
                      refine JO.reg ttOk 1 [] [] [(4, .v (.bool false))] _ rfl ⟨⟨rfl, trivial⟩, rfl⟩ ?_
                      refine JO.done rfl ?_
                      cases h
                      exact JS.ret ttOk () trivial rfl rfl [] rfl
                    · have h := condF h ht102
                      refine JS.skip ?_
                      refine JS.seq ?_
                      refine JS.region ?_
                      refine JO.reg ttOk 2 [] [] [(109, .v (.slice a29 y25.length c30)), (110, .v (.int .i64 y81))] _ rfl ⟨⟨rfl, rfl, trivial⟩, rfl⟩ ?_
                      obtain ⟨y83, hy84, h⟩ := bindO_some h
                      refine JO.call rfl rfl rfl rfl (ok_l_heldKeyS y58 y81 a29 c30 y25.length hs60.len.symm _ hy84) rfl [4] rfl rfl ?_
                      intro _ _
                      refine JO.reg ttOk 1 [] [] [(13, .v (.int .i64 y83))] _ rfl ⟨⟨rfl, trivial⟩, rfl⟩ ?_
                      refine JO.done rfl ?_
                      refine JS.seq ?_
                      refine JS.seq ?_
                      refine JS.region ?_
                      refine JO.reg ttOk 2 [] [] [(113, .v (.bool (decide (y83 < 0))))] _ rfl ⟨⟨rfl, trivial⟩, rfl⟩ ?_
                      refine JO.done rfl ?_
                      refine JS.cond rfl (fun ht101 => ?_) (fun ht101 => ?_)
                      · have h := condT h ht101
                        refine JS.seq ?_
                        refine JS.region ?_
                        refine JO.reg ttOk 1 [] [] [(4, .v (.bool false))] _ rfl ⟨⟨rfl, trivial⟩, rfl⟩ ?_
                        refine JO.done rfl ?_
                        cases h
                        exact JS.ret ttOk () trivial rfl rfl [] rfl
                      · have h := condF h ht101
                        refine JS.skip ?_
                        refine JS.seq ?_
                        refine JS.seq ?_
                        refine JS.region ?_
                        refine JO.reg ttOk 3 [] [] [(116, .v (.bool (!(decide (y83 = y57)))))] _ rfl ⟨⟨rfl, trivial⟩, rfl⟩ ?_
                        refine JO.done rfl ?_
                        refine JS.cond rfl (fun ht100 => ?_) (fun ht100 => ?_)
                        · have h := condT h ht100
                          refine JS.seq ?_
                          refine JS.region ?_
                          refine JO.reg ttOk 1 [] [] [(4, .v (.bool false))] _ rfl ⟨⟨rfl, trivial⟩, rfl⟩ ?_
                          refine JO.done rfl ?_
                          cases h
                          exact JS.ret ttOk () trivial rfl rfl [] rfl
                        · have h := condF h ht100
                          refine JS.skip ?_
                          refine JS.seq ?_
                          refine JS.region ?_
                          refine JO.reg ttOk 1 [] [] [(4, .v (.bool true))] _ rfl ⟨⟨rfl, trivial⟩, rfl⟩ ?_
                          refine JO.done rfl ?_
                          cases h
                          exact JS.ret ttOk () trivial rfl rfl [] rfl

end
end Go.Eng
