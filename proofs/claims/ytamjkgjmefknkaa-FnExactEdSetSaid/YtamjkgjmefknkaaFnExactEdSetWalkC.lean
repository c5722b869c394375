/- The walks of the functions that FnExactEdSet reaches: what each computes, as a plain function (M_..), and that the model computes it (ok_..). Condition of each: that the plain function answers. -/
import Derived.Test.YtamjkgjmefknkaaFnExactEdSetWalkB
set_option linter.unusedVariables false
set_option linter.unusedSimpArgs false
namespace Go.Eng
open Go Go.Proofs
noncomputable section

def M_l_heldLine (x0 : List Int × Int) (x1 : Int) : Option Int :=
  (bindO (M_l_heldIntS x0.1 x1) fun (y7 : Int) =>
  (bif (decide (y7 < 0)) then
  some (-1)
  else
  some y7))

theorem ok_l_heldLine (x0 : List Int × Int) (x1 : Int) (a3 : Option Addr) (c4 : Nat) (l5 : Nat) (hl6 : x0.1.length = l5) (r : Int) (h : M_l_heldLine x0 x1 = some r) :
    FC Try.prog 62 [.agg #[.slice a3 l5 c4, .int .i64 x0.2], .int .i64 x1] [⟨(.int .i64), ⟨a3, l5, c4⟩, x0.1⟩] (fun _ : Unit => True) (fun _ => .int .i64 r) (fun _ => []) :=
  by
    subst hl6
    refine FC.of (T := TTx) Try.call62 Try.func62 rfl rfl fun w0 => ?_
    unfold M_l_heldLine at h
    refine JS.seq ?_
    refine JS.region ?_
    refine JO.regB ttOk 2 [] [2] [(2, .bp 2 0)] (.new 2 25 [.slice a3 x0.1.length c4, .int .i64 x0.2] .nil) rfl ⟨⟨rfl, trivial⟩, ⟨rfl, rfl, rfl, rfl, trivial⟩⟩ ?_
    refine JO.done rfl ?_
    refine JS.seq ?_
    refine JS.region ?_
    refine JO.reg ttOk 3 [] [] [(6, .v (.slice a3 x0.1.length c4)), (7, .v (.int .i64 x1))] _ rfl ⟨⟨rfl, rfl, trivial⟩, rfl⟩ ?_
    obtain ⟨y7, hy8, h⟩ := bindO_some h
    refine JO.call rfl rfl rfl rfl (ok_l_heldIntS x0.1 x1 a3 c4 x0.1.length rfl _ hy8) rfl [0] rfl rfl ?_
    intro _ _
    refine JO.reg ttOk 1 [] [] [(1, .v (.int .i64 y7))] _ rfl ⟨⟨rfl, trivial⟩, rfl⟩ ?_
    refine JO.done rfl ?_
    refine JS.seq ?_
    refine JS.seq ?_
    refine JS.region ?_
    refine JO.reg ttOk 2 [] [] [(10, .v (.bool (decide (y7 < 0))))] _ rfl ⟨⟨rfl, trivial⟩, rfl⟩ ?_
    refine JO.done rfl ?_
    refine JS.cond rfl (fun ht10 => ?_) (fun ht10 => ?_)
    · have h := condT h ht10
      refine JS.seq ?_
      refine JS.region ?_
      refine JO.reg ttOk 1 [] [] [(4, .v (.int .i64 (-1)))] _ rfl ⟨⟨rfl, trivial⟩, rfl⟩ ?_
      refine JO.done rfl ?_
      cases h
      exact JS.ret ttOk () trivial rfl rfl [] rfl
    · have h := condF h ht10
      refine JS.skip ?_
      refine JS.seq ?_
      refine JS.region ?_
      refine JO.reg ttOk 2 [] [] [(4, .v (.int .i64 y7))] _ rfl ⟨⟨rfl, trivial⟩, rfl⟩ ?_
      refine JO.done rfl ?_
      cases h
      exact JS.ret ttOk () trivial rfl rfl [] rfl

def M_l_heldPieceS_L1 (x0 : List (List Int)) (j26 : Int → Option Int) (k20 : (Int × Int) → Option Int) : (Int × Int) → Option Int := fun (x7, x8) =>
  (bif (decide (x8 < (x0.length : Int))) then
  (guardO (0 ≤ x8 ∧ x8 < (x0.length : Int)) <|
  (bindO (M_l_heldIntS (at' x0 x8) x7) fun (y16 : Int) =>
  (bif (decide (y16 < 0)) then
  some (-1)
  else
  k20 (y16, (W (x8 + 1))))))
  else
  j26 x7)

def M_l_heldPieceS (x0 : List (List Int)) (x1 : Int) : Option Int :=
  (joinO (fun (x25 : Int) =>
  some x25) fun j26 =>
  (fixF (M_l_heldPieceS_L1 x0 j26) FUEL (x1, 0)))

theorem ok_l_heldPieceS (x0 : List (List Int)) (x1 : Int) (a3 : Option Addr) (c4 : Nat) (l5 : Nat) (hl6 : x0.length = l5) (r : Int) (h : M_l_heldPieceS x0 x1 = some r) :
    FC Try.prog 107 [.slice a3 l5 c4, .int .i64 x1] [⟨(.sl (.int .i64)), ⟨a3, l5, c4⟩, x0⟩] (fun _ : Unit => True) (fun _ => .int .i64 r) (fun _ => []) :=
  by
    subst hl6
    refine FC.of (T := TTx) Try.call107 Try.func107 rfl rfl fun w0 => ?_
    unfold M_l_heldPieceS at h
    refine JS.seq ?_
    refine JS.region ?_
    refine JO.reg ttOk 1 [] [] [] _ rfl ⟨trivial, rfl⟩ ?_
    refine JO.done rfl ?_
    refine JS.seq ?_
    refine JS.seq ?_
    refine JS.region ?_
    refine JO.reg ttOk 1 [] [] [(5, .v (.int .i64 0))] _ rfl ⟨⟨rfl, trivial⟩, rfl⟩ ?_
    refine JO.done rfl ?_
    obtain ⟨j26, hj34, h⟩ := joinO_some h
    refine JS.blockJ (ι := Int) ⟨fun z => j26 z = some r, fun z => [(1, .v (.int .i64 z))], fun z => .nil, fun z => [], fun z => [], fun z => 0⟩ ?_ ?_
    · refine JS.loop (ι := Nat × Int × Int) ⟨fun z => fixF (M_l_heldPieceS_L1 x0 j26) z.1 (z.2.1, z.2.2) = some r, fun z => [(0, .v (.slice a3 x0.length c4)), (1, .v (.int .i64 z.2.1)), (5, .v (.int .i64 z.2.2))], fun z => .nil, fun z => [⟨(.sl (.int .i64)), ⟨a3, x0.length, c4⟩, x0⟩], fun z => [], fun z => z.1⟩ (FUEL, x1, 0) h ⟨rfl, rfl, rfl, trivial⟩ trivial [0] rfl [] rfl ?_
      rintro ⟨n21, x7, x8⟩ h
      obtain ⟨n21, rfl, h⟩ := fixF_some h
      rw [M_l_heldPieceS_L1] at h
      refine JS.seq ?_
      refine JS.seq ?_
      refine JS.region ?_
      refine JO.reg ttOk 4 [] [] [(9, .v (.bool (decide (x8 < (x0.length : Int)))))] _ rfl ⟨⟨rfl, trivial⟩, rfl⟩ ?_
      refine JO.done rfl ?_
      refine JS.cond rfl (fun ht33 => ?_) (fun ht33 => ?_)
      · have h := condT h ht33
        refine JS.skip ?_
        refine JS.seq ?_
        refine JS.block ?_
        refine JS.seq ?_
        refine JS.region ?_
        refine JO.know 0 rfl fun hs31 => ?_
        obtain ⟨g10, h⟩ := guardO_some h
        refine JO.reg ttOk 4 [] [] [(15, .ep ⟨a3, x0.length, c4⟩ (Int.toNat x8 * 1))] _ rfl ⟨hs31.ix g10, hs31.fa g10, ⟨rfl, trivial⟩, rfl⟩ ?_
        refine JO.openR 0 rfl (Int.toNat x8) (at' x0 x8) rfl ?_
        intro a11 c12 ys13 hl14 hy15
        refine JO.loadV ttOk rfl rfl rfl rfl rfl rfl 0 rfl rfl (Int.toNat x8) 0 (Sl.v ⟨a11, (at' x0 x8).length, c12⟩) ⟨hy15 (ltNat g10), rfl⟩ rfl rfl rfl ?_
        refine JO.reg ttOk 1 [] [] [(17, .v (.int .i64 x7))] _ rfl ⟨⟨rfl, trivial⟩, rfl⟩ ?_
        obtain ⟨y16, hy17, h⟩ := bindO_some h
        refine JO.call rfl rfl rfl rfl (ok_l_heldIntS (at' x0 x8) x7 a11 c12 ((at' x0 x8).length) rfl _ hy17) rfl [1] rfl rfl ?_
        intro _ _
        refine JO.reg ttOk 1 [] [] [(1, .v (.int .i64 y16))] _ rfl ⟨⟨rfl, trivial⟩, rfl⟩ ?_
        refine JO.done rfl ?_
        refine JS.seq ?_
        refine JS.region ?_
        refine JO.reg ttOk 2 [] [] [(20, .v (.bool (decide (y16 < 0))))] _ rfl ⟨⟨rfl, trivial⟩, rfl⟩ ?_
        refine JO.done rfl ?_
        refine JS.cond rfl (fun ht32 => ?_) (fun ht32 => ?_)
        · have h := condT h ht32
          refine JS.seq ?_
          refine JS.region ?_
          refine JO.reg ttOk 1 [] [] [(4, .v (.int .i64 (-1)))] _ rfl ⟨⟨rfl, trivial⟩, rfl⟩ ?_
          refine JO.done rfl ?_
          cases h
          exact JS.ret ttOk () trivial rfl rfl [] rfl
        · have h := condF h ht32
          refine JS.skip ?_
          refine JS.endB ?_
          refine JS.region ?_
          refine JO.reg ttOk 3 [(W (x8 + 1))] [] [(5, .v (.int .i64 (W (x8 + 1))))] _ rfl ⟨⟨trivial, rfl⟩, ⟨rfl, trivial⟩, rfl⟩ ?_
          refine JO.done rfl ?_
          exact JS.endL (n21, y16, (W (x8 + 1))) h (Nat.lt_succ_self _) ⟨rfl, rfl, rfl, trivial⟩ trivial [2] rfl [] rfl
      · have h := condF h ht33
        refine JS.exit rfl ?_
        exact JS.endJ x7 h ⟨rfl, trivial⟩ trivial [] rfl [] rfl
    · rintro x25 h
      subst hj34
      refine JS.seq ?_
      refine JS.region ?_
      refine JO.reg ttOk 2 [] [] [(4, .v (.int .i64 x25))] _ rfl ⟨⟨rfl, trivial⟩, rfl⟩ ?_
      refine JO.done rfl ?_
      cases h
      exact JS.ret ttOk () trivial rfl rfl [] rfl

def M_l_heldRing (x0 : List (List Int)) (x1 : Int) : Option Int :=
  (bindO (M_l_heldPieceS x0 x1) fun (y7 : Int) =>
  (bif (decide (y7 < 0)) then
  some (-1)
  else
  some y7))

theorem ok_l_heldRing (x0 : List (List Int)) (x1 : Int) (a3 : Option Addr) (c4 : Nat) (l5 : Nat) (hl6 : x0.length = l5) (r : Int) (h : M_l_heldRing x0 x1 = some r) :
    FC Try.prog 63 [.agg #[.slice a3 l5 c4], .int .i64 x1] [⟨(.sl (.int .i64)), ⟨a3, l5, c4⟩, x0⟩] (fun _ : Unit => True) (fun _ => .int .i64 r) (fun _ => []) :=
  by
    subst hl6
    refine FC.of (T := TTx) Try.call63 Try.func63 rfl rfl fun w0 => ?_
    unfold M_l_heldRing at h
    refine JS.seq ?_
    refine JS.region ?_
    refine JO.regB ttOk 2 [] [2] [(2, .bp 2 0)] (.new 2 42 [.slice a3 x0.length c4] .nil) rfl ⟨⟨rfl, trivial⟩, ⟨rfl, rfl, rfl, rfl, trivial⟩⟩ ?_
    refine JO.done rfl ?_
    refine JS.seq ?_
    refine JS.region ?_
    refine JO.reg ttOk 3 [] [] [(6, .v (.slice a3 x0.length c4)), (7, .v (.int .i64 x1))] _ rfl ⟨⟨rfl, rfl, trivial⟩, rfl⟩ ?_
    obtain ⟨y7, hy8, h⟩ := bindO_some h
    refine JO.call rfl rfl rfl rfl (ok_l_heldPieceS x0 x1 a3 c4 x0.length rfl _ hy8) rfl [0] rfl rfl ?_
    intro _ _
    refine JO.reg ttOk 1 [] [] [(1, .v (.int .i64 y7))] _ rfl ⟨⟨rfl, trivial⟩, rfl⟩ ?_
    refine JO.done rfl ?_
    refine JS.seq ?_
    refine JS.seq ?_
    refine JS.region ?_
    refine JO.reg ttOk 2 [] [] [(10, .v (.bool (decide (y7 < 0))))] _ rfl ⟨⟨rfl, trivial⟩, rfl⟩ ?_
    refine JO.done rfl ?_
    refine JS.cond rfl (fun ht10 => ?_) (fun ht10 => ?_)
    · have h := condT h ht10
      refine JS.seq ?_
      refine JS.region ?_
      refine JO.reg ttOk 1 [] [] [(4, .v (.int .i64 (-1)))] _ rfl ⟨⟨rfl, trivial⟩, rfl⟩ ?_
      refine JO.done rfl ?_
      cases h
      exact JS.ret ttOk () trivial rfl rfl [] rfl
    · have h := condF h ht10
      refine JS.skip ?_
      refine JS.seq ?_
      refine JS.region ?_
      refine JO.reg ttOk 2 [] [] [(4, .v (.int .i64 y7))] _ rfl ⟨⟨rfl, trivial⟩, rfl⟩ ?_
      refine JO.done rfl ?_
      cases h
      exact JS.ret ttOk () trivial rfl rfl [] rfl

def M_l_heldLineS_L1 (x0 : List (List Int × Int)) (j29 : Int → Option Int) (k22 : (Int × Int) → Option Int) : (Int × Int) → Option Int := fun (x7, x8) =>
  (bif (decide (x8 < (x0.length : Int))) then
  (guardO (0 ≤ x8 ∧ x8 < (x0.length : Int)) <|
  (bindO (M_l_heldIntS ((at' x0 x8).1) x7) fun (y16 : Int) =>
  (bif (decide (y16 < 0)) then
  some (-1)
  else
  (guardO (0 ≤ x8 ∧ x8 < (x0.length : Int)) <|
  (bif (!(decide ((at' x0 x8).2 = y16))) then
  some (-1)
  else
  k22 ((W (y16 + 1)), (W (x8 + 1))))))))
  else
  j29 x7)

def M_l_heldLineS (x0 : List (List Int × Int)) (x1 : Int) : Option Int :=
  (joinO (fun (x28 : Int) =>
  some x28) fun j29 =>
  (fixF (M_l_heldLineS_L1 x0 j29) FUEL (x1, 0)))

theorem ok_l_heldLineS (x0 : List (List Int × Int)) (x1 : Int) (a3 : Option Addr) (c4 : Nat) (l5 : Nat) (hl6 : x0.length = l5) (r : Int) (h : M_l_heldLineS x0 x1 = some r) :
    FC Try.prog 108 [.slice a3 l5 c4, .int .i64 x1] [⟨(.pair (.sl (.int .i64)) (.int .i64)), ⟨a3, l5, c4⟩, x0⟩] (fun _ : Unit => True) (fun _ => .int .i64 r) (fun _ => []) :=
  by
    subst hl6
    refine FC.of (T := TTx) Try.call108 Try.func108 rfl rfl fun w0 => ?_
    unfold M_l_heldLineS at h
    refine JS.seq ?_
    refine JS.region ?_
    refine JO.reg ttOk 1 [] [] [] _ rfl ⟨trivial, rfl⟩ ?_
    refine JO.done rfl ?_
    refine JS.seq ?_
    refine JS.seq ?_
    refine JS.region ?_
    refine JO.reg ttOk 1 [] [] [(5, .v (.int .i64 0))] _ rfl ⟨⟨rfl, trivial⟩, rfl⟩ ?_
    refine JO.done rfl ?_
    obtain ⟨j29, hj39, h⟩ := joinO_some h
    refine JS.blockJ (ι := Int) ⟨fun z => j29 z = some r, fun z => [(1, .v (.int .i64 z))], fun z => .nil, fun z => [], fun z => [], fun z => 0⟩ ?_ ?_
    · refine JS.loop (ι := Nat × Int × Int) ⟨fun z => fixF (M_l_heldLineS_L1 x0 j29) z.1 (z.2.1, z.2.2) = some r, fun z => [(0, .v (.slice a3 x0.length c4)), (1, .v (.int .i64 z.2.1)), (5, .v (.int .i64 z.2.2))], fun z => .nil, fun z => [⟨(.pair (.sl (.int .i64)) (.int .i64)), ⟨a3, x0.length, c4⟩, x0⟩], fun z => [], fun z => z.1⟩ (FUEL, x1, 0) h ⟨rfl, rfl, rfl, trivial⟩ trivial [0] rfl [] rfl ?_
      rintro ⟨n23, x7, x8⟩ h
      obtain ⟨n23, rfl, h⟩ := fixF_some h
      rw [M_l_heldLineS_L1] at h
      refine JS.seq ?_
      refine JS.seq ?_
      refine JS.region ?_
      refine JO.reg ttOk 4 [] [] [(9, .v (.bool (decide (x8 < (x0.length : Int)))))] _ rfl ⟨⟨rfl, trivial⟩, rfl⟩ ?_
      refine JO.done rfl ?_
      refine JS.cond rfl (fun ht38 => ?_) (fun ht38 => ?_)
      · have h := condT h ht38
        refine JS.skip ?_
        refine JS.seq ?_
        refine JS.block ?_
        refine JS.seq ?_
        refine JS.region ?_
        refine JO.know 0 rfl fun hs35 => ?_
        obtain ⟨g10, h⟩ := guardO_some h
        refine JO.reg ttOk 4 [] [] [(15, .ep ⟨a3, x0.length, c4⟩ (Int.toNat x8 * 2))] _ rfl ⟨hs35.ix g10, hs35.fa g10, ⟨rfl, trivial⟩, rfl⟩ ?_
        refine JO.openR 0 rfl (Int.toNat x8) (at' x0 x8) rfl ?_
        intro a11 c12 ys13 hl14 hy15
        refine JO.loadV ttOk rfl rfl rfl rfl rfl rfl 0 rfl rfl (Int.toNat x8) 0 ((Sl.v ⟨a11, ((at' x0 x8).1).length, c12⟩), (at' x0 x8).2) ⟨hy15 (ltNat g10), rfl⟩ rfl rfl rfl ?_
        refine JO.reg ttOk 1 [] [] [(17, .v (.int .i64 x7))] _ rfl ⟨⟨rfl, trivial⟩, rfl⟩ ?_
        obtain ⟨y16, hy17, h⟩ := bindO_some h
        refine JO.call rfl rfl rfl rfl (ok_l_heldIntS ((at' x0 x8).1) x7 a11 c12 (((at' x0 x8).1).length) rfl _ hy17) rfl [1] rfl rfl ?_
        intro _ _
        refine JO.reg ttOk 1 [] [] [(1, .v (.int .i64 y16))] _ rfl ⟨⟨rfl, trivial⟩, rfl⟩ ?_
        refine JO.done rfl ?_
        refine JS.seq ?_
        refine JS.seq ?_
        refine JS.region ?_
        refine JO.reg ttOk 2 [] [] [(20, .v (.bool (decide (y16 < 0))))] _ rfl ⟨⟨rfl, trivial⟩, rfl⟩ ?_
        refine JO.done rfl ?_
        refine JS.cond rfl (fun ht37 => ?_) (fun ht37 => ?_)
        · have h := condT h ht37
          refine JS.seq ?_
          refine JS.region ?_
          refine JO.reg ttOk 1 [] [] [(4, .v (.int .i64 (-1)))] _ rfl ⟨⟨rfl, trivial⟩, rfl⟩ ?_
          refine JO.done rfl ?_
          cases h
          exact JS.ret ttOk () trivial rfl rfl [] rfl
        · have h := condF h ht37
          refine JS.skip ?_
          refine JS.seq ?_
          refine JS.seq ?_
          refine JS.region ?_
          obtain ⟨g18, h⟩ := guardO_some h
          refine JO.reg ttOk 4 [] [] [(24, .ep ⟨a3, x0.length, c4⟩ (Int.toNat x8 * 2 + 1))] _ rfl ⟨hs35.ix g18, hs35.fa g18, ⟨rfl, trivial⟩, rfl⟩ ?_
          refine JO.load ttOk rfl rfl rfl rfl rfl rfl rfl 2 rfl rfl (Int.toNat x8) 1 (at' x0 x8) ⟨at_some g18, rfl⟩ rfl rfl ?_
          refine JO.reg ttOk 2 [] [] [(27, .v (.bool (!(decide ((at' x0 x8).2 = y16)))))] _ rfl ⟨⟨rfl, trivial⟩, rfl⟩ ?_
          refine JO.done rfl ?_
          refine JS.cond rfl (fun ht36 => ?_) (fun ht36 => ?_)
          · have h := condT h ht36
            refine JS.seq ?_
            refine JS.region ?_
            refine JO.reg ttOk 1 [] [] [(4, .v (.int .i64 (-1)))] _ rfl ⟨⟨rfl, trivial⟩, rfl⟩ ?_
            refine JO.done rfl ?_
            cases h
            exact JS.ret ttOk () trivial rfl rfl [] rfl
          · have h := condF h ht36
            refine JS.skip ?_
            refine JS.region ?_
            refine JO.reg ttOk 3 [(W (y16 + 1))] [] [(1, .v (.int .i64 (W (y16 + 1))))] _ rfl ⟨⟨trivial, rfl⟩, ⟨rfl, trivial⟩, rfl⟩ ?_
            refine JO.done rfl ?_
            refine JS.endB ?_
            refine JS.region ?_
            refine JO.reg ttOk 3 [(W (x8 + 1))] [] [(5, .v (.int .i64 (W (x8 + 1))))] _ rfl ⟨⟨trivial, rfl⟩, ⟨rfl, trivial⟩, rfl⟩ ?_
            refine JO.done rfl ?_
            exact JS.endL (n23, (W (y16 + 1)), (W (x8 + 1))) h (Nat.lt_succ_self _) ⟨rfl, rfl, rfl, trivial⟩ trivial [2] rfl [] rfl
      · have h := condF h ht38
        refine JS.exit rfl ?_
        exact JS.endJ x7 h ⟨rfl, trivial⟩ trivial [] rfl [] rfl
    · rintro x28 h
      subst hj39
      refine JS.seq ?_
      refine JS.region ?_
      refine JO.reg ttOk 2 [] [] [(4, .v (.int .i64 x28))] _ rfl ⟨⟨rfl, trivial⟩, rfl⟩ ?_
      refine JO.done rfl ?_
      cases h
      exact JS.ret ttOk () trivial rfl rfl [] rfl

def M_l_heldUndo (x0 : List (List Int × Int)) (x1 : Int) : Option Int :=
  (bindO (M_l_heldLineS x0 x1) fun (y7 : Int) =>
  (bif (decide (y7 < 0)) then
  some (-1)
  else
  some y7))

theorem ok_l_heldUndo (x0 : List (List Int × Int)) (x1 : Int) (a3 : Option Addr) (c4 : Nat) (l5 : Nat) (hl6 : x0.length = l5) (r : Int) (h : M_l_heldUndo x0 x1 = some r) :
    FC Try.prog 64 [.agg #[.slice a3 l5 c4], .int .i64 x1] [⟨(.pair (.sl (.int .i64)) (.int .i64)), ⟨a3, l5, c4⟩, x0⟩] (fun _ : Unit => True) (fun _ => .int .i64 r) (fun _ => []) :=
  by
    subst hl6
    refine FC.of (T := TTx) Try.call64 Try.func64 rfl rfl fun w0 => ?_
    unfold M_l_heldUndo at h
    refine JS.seq ?_
    refine JS.region ?_
    refine JO.regB ttOk 2 [] [2] [(2, .bp 2 0)] (.new 2 45 [.slice a3 x0.length c4] .nil) rfl ⟨⟨rfl, trivial⟩, ⟨rfl, rfl, rfl, rfl, trivial⟩⟩ ?_
    refine JO.done rfl ?_
    refine JS.seq ?_
    refine JS.region ?_
    refine JO.reg ttOk 3 [] [] [(6, .v (.slice a3 x0.length c4)), (7, .v (.int .i64 x1))] _ rfl ⟨⟨rfl, rfl, trivial⟩, rfl⟩ ?_
    obtain ⟨y7, hy8, h⟩ := bindO_some h
    refine JO.call rfl rfl rfl rfl (ok_l_heldLineS x0 x1 a3 c4 x0.length rfl _ hy8) rfl [0] rfl rfl ?_
    intro _ _
    refine JO.reg ttOk 1 [] [] [(1, .v (.int .i64 y7))] _ rfl ⟨⟨rfl, trivial⟩, rfl⟩ ?_
    refine JO.done rfl ?_
    refine JS.seq ?_
    refine JS.seq ?_
    refine JS.region ?_
    refine JO.reg ttOk 2 [] [] [(10, .v (.bool (decide (y7 < 0))))] _ rfl ⟨⟨rfl, trivial⟩, rfl⟩ ?_
    refine JO.done rfl ?_
    refine JS.cond rfl (fun ht10 => ?_) (fun ht10 => ?_)
    · have h := condT h ht10
      refine JS.seq ?_
      refine JS.region ?_
      refine JO.reg ttOk 1 [] [] [(4, .v (.int .i64 (-1)))] _ rfl ⟨⟨rfl, trivial⟩, rfl⟩ ?_
      refine JO.done rfl ?_
      cases h
      exact JS.ret ttOk () trivial rfl rfl [] rfl
    · have h := condF h ht10
      refine JS.skip ?_
      refine JS.seq ?_
      refine JS.region ?_
      refine JO.reg ttOk 2 [] [] [(4, .v (.int .i64 y7))] _ rfl ⟨⟨rfl, trivial⟩, rfl⟩ ?_
      refine JO.done rfl ?_
      cases h
      exact JS.ret ttOk () trivial rfl rfl [] rfl

def M_l_heldEd (x0 : Bool × Int × (List Int × Int) × Int × Int × Int × Int × Int × Int × Int × List (List Int) × (List (List Int × Int)) × Int × (List Int × Int) × List Int × Int × List Int × Int) (x1 : Int) : Option Int :=
  (bindO (M_l_heldLine x0.2.2.1 x1) fun (y27 : Int) =>
  (bif (decide (y27 < 0)) then
  some (-1)
  else
  (bindO (M_l_heldRing x0.2.2.2.2.2.2.2.2.2.2.1 y27) fun (y29 : Int) =>
  (bif (decide (y29 < 0)) then
  some (-1)
  else
  (bindO (M_l_heldUndo x0.2.2.2.2.2.2.2.2.2.2.2.1 y29) fun (y31 : Int) =>
  (bif (decide (y31 < 0)) then
  some (-1)
  else
  (bindO (M_l_heldLine x0.2.2.2.2.2.2.2.2.2.2.2.2.2.1 y31) fun (y33 : Int) =>
  (bif (decide (y33 < 0)) then
  some (-1)
  else
  (bindO (M_l_heldIntS x0.2.2.2.2.2.2.2.2.2.2.2.2.2.2.1 y33) fun (y35 : Int) =>
  (bif (decide (y35 < 0)) then
  some (-1)
  else
  (bindO (M_l_heldLine x0.2.2.2.2.2.2.2.2.2.2.2.2.2.2.2.2 y35) fun (y37 : Int) =>
  (bif (decide (y37 < 0)) then
  some (-1)
  else
  some y37))))))))))))

theorem ok_l_heldEd (x0 : Bool × Int × (List Int × Int) × Int × Int × Int × Int × Int × Int × Int × List (List Int) × (List (List Int × Int)) × Int × (List Int × Int) × List Int × Int × List Int × Int) (x1 : Int) (a3 : Option Addr) (c4 : Nat) (l5 : Nat) (hl6 : x0.2.2.1.1.length = l5) (a7 : Option Addr) (c8 : Nat) (l9 : Nat) (hl10 : x0.2.2.2.2.2.2.2.2.2.2.1.length = l9) (a11 : Option Addr) (c12 : Nat) (l13 : Nat) (hl14 : x0.2.2.2.2.2.2.2.2.2.2.2.1.length = l13) (a15 : Option Addr) (c16 : Nat) (l17 : Nat) (hl18 : x0.2.2.2.2.2.2.2.2.2.2.2.2.2.1.1.length = l17) (a19 : Option Addr) (c20 : Nat) (l21 : Nat) (hl22 : x0.2.2.2.2.2.2.2.2.2.2.2.2.2.2.1.length = l21) (a23 : Option Addr) (c24 : Nat) (l25 : Nat) (hl26 : x0.2.2.2.2.2.2.2.2.2.2.2.2.2.2.2.2.1.length = l25) (r : Int) (h : M_l_heldEd x0 x1 = some r) :
    FC Try.prog 24 [.agg #[.bool x0.1, .int .i64 x0.2.1, .slice a3 l5 c4, .int .i64 x0.2.2.1.2, .int .i64 x0.2.2.2.1, .int .i64 x0.2.2.2.2.1, .int .i64 x0.2.2.2.2.2.1, .int .i64 x0.2.2.2.2.2.2.1, .int .i64 x0.2.2.2.2.2.2.2.1, .int .i64 x0.2.2.2.2.2.2.2.2.1, .int .i64 x0.2.2.2.2.2.2.2.2.2.1, .slice a7 l9 c8, .slice a11 l13 c12, .int .i64 x0.2.2.2.2.2.2.2.2.2.2.2.2.1, .slice a15 l17 c16, .int .i64 x0.2.2.2.2.2.2.2.2.2.2.2.2.2.1.2, .slice a19 l21 c20, .int .i64 x0.2.2.2.2.2.2.2.2.2.2.2.2.2.2.2.1, .slice a23 l25 c24, .int .i64 x0.2.2.2.2.2.2.2.2.2.2.2.2.2.2.2.2.2], .int .i64 x1] [⟨(.int .i64), ⟨a3, l5, c4⟩, x0.2.2.1.1⟩, ⟨(.sl (.int .i64)), ⟨a7, l9, c8⟩, x0.2.2.2.2.2.2.2.2.2.2.1⟩, ⟨(.pair (.sl (.int .i64)) (.int .i64)), ⟨a11, l13, c12⟩, x0.2.2.2.2.2.2.2.2.2.2.2.1⟩, ⟨(.int .i64), ⟨a15, l17, c16⟩, x0.2.2.2.2.2.2.2.2.2.2.2.2.2.1.1⟩, ⟨(.int .i64), ⟨a19, l21, c20⟩, x0.2.2.2.2.2.2.2.2.2.2.2.2.2.2.1⟩, ⟨(.int .i64), ⟨a23, l25, c24⟩, x0.2.2.2.2.2.2.2.2.2.2.2.2.2.2.2.2.1⟩] (fun _ : Unit => True) (fun _ => .int .i64 r) (fun _ => []) :=
  by
    subst hl6
    subst hl10
    subst hl14
    subst hl18
    subst hl22
    subst hl26
    refine FC.of (T := TTx) Try.call24 Try.func24 rfl rfl fun w0 => ?_
    unfold M_l_heldEd at h
    refine JS.seq ?_
    refine JS.region ?_
    refine JO.regB ttOk 2 [] [7] [(2, .bp 7 0)] (.new 7 47 [.bool x0.1, .int .i64 x0.2.1, .slice a3 x0.2.2.1.1.length c4, .int .i64 x0.2.2.1.2, .int .i64 x0.2.2.2.1, .int .i64 x0.2.2.2.2.1, .int .i64 x0.2.2.2.2.2.1, .int .i64 x0.2.2.2.2.2.2.1, .int .i64 x0.2.2.2.2.2.2.2.1, .int .i64 x0.2.2.2.2.2.2.2.2.1, .int .i64 x0.2.2.2.2.2.2.2.2.2.1, .slice a7 x0.2.2.2.2.2.2.2.2.2.2.1.length c8, .slice a11 x0.2.2.2.2.2.2.2.2.2.2.2.1.length c12, .int .i64 x0.2.2.2.2.2.2.2.2.2.2.2.2.1, .slice a15 x0.2.2.2.2.2.2.2.2.2.2.2.2.2.1.1.length c16, .int .i64 x0.2.2.2.2.2.2.2.2.2.2.2.2.2.1.2, .slice a19 x0.2.2.2.2.2.2.2.2.2.2.2.2.2.2.1.length c20, .int .i64 x0.2.2.2.2.2.2.2.2.2.2.2.2.2.2.2.1, .slice a23 x0.2.2.2.2.2.2.2.2.2.2.2.2.2.2.2.2.1.length c24, .int .i64 x0.2.2.2.2.2.2.2.2.2.2.2.2.2.2.2.2.2] .nil) rfl ⟨⟨rfl, trivial⟩, ⟨rfl, rfl, rfl, rfl, trivial⟩⟩ ?_
    refine JO.done rfl ?_
    refine JS.seq ?_
    refine JS.region ?_
    refine JO.reg ttOk 3 [] [] [(6, .v (.agg #[.slice a3 x0.2.2.1.1.length c4, .int .i64 x0.2.2.1.2])), (7, .v (.int .i64 x1))] _ rfl ⟨⟨rfl, rfl, trivial⟩, rfl⟩ ?_
    obtain ⟨y27, hy28, h⟩ := bindO_some h
    refine JO.call rfl rfl rfl rfl (ok_l_heldLine x0.2.2.1 x1 a3 c4 x0.2.2.1.1.length rfl _ hy28) rfl [0] rfl rfl ?_
    intro _ _
    refine JO.reg ttOk 1 [] [] [(1, .v (.int .i64 y27))] _ rfl ⟨⟨rfl, trivial⟩, rfl⟩ ?_
    refine JO.done rfl ?_
    refine JS.seq ?_
    refine JS.seq ?_
    refine JS.region ?_
    refine JO.reg ttOk 2 [] [] [(10, .v (.bool (decide (y27 < 0))))] _ rfl ⟨⟨rfl, trivial⟩, rfl⟩ ?_
    refine JO.done rfl ?_
    refine JS.cond rfl (fun ht50 => ?_) (fun ht50 => ?_)
    · have h := condT h ht50
      refine JS.seq ?_
      refine JS.region ?_
      refine JO.reg ttOk 1 [] [] [(4, .v (.int .i64 (-1)))] _ rfl ⟨⟨rfl, trivial⟩, rfl⟩ ?_
      refine JO.done rfl ?_
      cases h
      exact JS.ret ttOk () trivial rfl rfl [] rfl
    · have h := condF h ht50
      refine JS.skip ?_
      refine JS.seq ?_
      refine JS.region ?_
      refine JO.reg ttOk 3 [] [] [(12, .v (.agg #[.slice a7 x0.2.2.2.2.2.2.2.2.2.2.1.length c8])), (13, .v (.int .i64 y27))] _ rfl ⟨⟨rfl, rfl, trivial⟩, rfl⟩ ?_
      obtain ⟨y29, hy30, h⟩ := bindO_some h
      refine JO.call rfl rfl rfl rfl (ok_l_heldRing x0.2.2.2.2.2.2.2.2.2.2.1 y27 a7 c8 x0.2.2.2.2.2.2.2.2.2.2.1.length rfl _ hy30) rfl [1] rfl rfl ?_
      intro _ _
      refine JO.reg ttOk 1 [] [] [(1, .v (.int .i64 y29))] _ rfl ⟨⟨rfl, trivial⟩, rfl⟩ ?_
      refine JO.done rfl ?_
      refine JS.seq ?_
      refine JS.seq ?_
      refine JS.region ?_
      refine JO.reg ttOk 2 [] [] [(16, .v (.bool (decide (y29 < 0))))] _ rfl ⟨⟨rfl, trivial⟩, rfl⟩ ?_
      refine JO.done rfl ?_
      refine JS.cond rfl (fun ht49 => ?_) (fun ht49 => ?_)
      · have h := condT h ht49
        refine JS.seq ?_
        refine JS.region ?_
        refine JO.reg ttOk 1 [] [] [(4, .v (.int .i64 (-1)))] _ rfl ⟨⟨rfl, trivial⟩, rfl⟩ ?_
        refine JO.done rfl ?_
        cases h
        exact JS.ret ttOk () trivial rfl rfl [] rfl
      · have h := condF h ht49
        refine JS.skip ?_
        refine JS.seq ?_
        refine JS.region ?_
        refine JO.reg ttOk 3 [] [] [(18, .v (.agg #[.slice a11 x0.2.2.2.2.2.2.2.2.2.2.2.1.length c12])), (19, .v (.int .i64 y29))] _ rfl ⟨⟨rfl, rfl, trivial⟩, rfl⟩ ?_
        obtain ⟨y31, hy32, h⟩ := bindO_some h
        refine JO.call rfl rfl rfl rfl (ok_l_heldUndo x0.2.2.2.2.2.2.2.2.2.2.2.1 y29 a11 c12 x0.2.2.2.2.2.2.2.2.2.2.2.1.length rfl _ hy32) rfl [2] rfl rfl ?_
        intro _ _
        refine JO.reg ttOk 1 [] [] [(1, .v (.int .i64 y31))] _ rfl ⟨⟨rfl, trivial⟩, rfl⟩ ?_
        refine JO.done rfl ?_
        refine JS.seq ?_
        refine JS.seq ?_
        refine JS.region ?_
        refine JO.reg ttOk 2 [] [] [(22, .v (.bool (decide (y31 < 0))))] _ rfl ⟨⟨rfl, trivial⟩, rfl⟩ ?_
        refine JO.done rfl ?_
        refine JS.cond rfl (fun ht48 => ?_) (fun ht48 => ?_)
        · have h := condT h ht48
          refine JS.seq ?_
          refine JS.region ?_
          refine JO.reg ttOk 1 [] [] [(4, .v (.int .i64 (-1)))] _ rfl ⟨⟨rfl, trivial⟩, rfl⟩ ?_
          refine JO.done rfl ?_
          cases h
          exact JS.ret ttOk () trivial rfl rfl [] rfl
        · have h := condF h ht48
          refine JS.skip ?_
          refine JS.seq ?_
          refine JS.region ?_
          refine JO.reg ttOk 3 [] [] [(24, .v (.agg #[.slice a15 x0.2.2.2.2.2.2.2.2.2.2.2.2.2.1.1.length c16, .int .i64 x0.2.2.2.2.2.2.2.2.2.2.2.2.2.1.2])), (25, .v (.int .i64 y31))] _ rfl ⟨⟨rfl, rfl, trivial⟩, rfl⟩ ?_
          obtain ⟨y33, hy34, h⟩ := bindO_some h
          refine JO.call rfl rfl rfl rfl (ok_l_heldLine x0.2.2.2.2.2.2.2.2.2.2.2.2.2.1 y31 a15 c16 x0.2.2.2.2.2.2.2.2.2.2.2.2.2.1.1.length rfl _ hy34) rfl [3] rfl rfl ?_
          intro _ _
          refine JO.reg ttOk 1 [] [] [(1, .v (.int .i64 y33))] _ rfl ⟨⟨rfl, trivial⟩, rfl⟩ ?_
          refine JO.done rfl ?_
          refine JS.seq ?_
          refine JS.seq ?_
          refine JS.region ?_
          refine JO.reg ttOk 2 [] [] [(28, .v (.bool (decide (y33 < 0))))] _ rfl ⟨⟨rfl, trivial⟩, rfl⟩ ?_
          refine JO.done rfl ?_
          refine JS.cond rfl (fun ht47 => ?_) (fun ht47 => ?_)
          · have h := condT h ht47
            refine JS.seq ?_
            refine JS.region ?_
            refine JO.reg ttOk 1 [] [] [(4, .v (.int .i64 (-1)))] _ rfl ⟨⟨rfl, trivial⟩, rfl⟩ ?_
            refine JO.done rfl ?_
            cases h
            exact JS.ret ttOk () trivial rfl rfl [] rfl
          · have h := condF h ht47
            refine JS.skip ?_
            refine JS.seq ?_
            refine JS.region ?_
            refine JO.reg ttOk 3 [] [] [(30, .v (.slice a19 x0.2.2.2.2.2.2.2.2.2.2.2.2.2.2.1.length c20)), (31, .v (.int .i64 y33))] _ rfl ⟨⟨rfl, rfl, trivial⟩, rfl⟩ ?_
            obtain ⟨y35, hy36, h⟩ := bindO_some h
            refine JO.call rfl rfl rfl rfl (ok_l_heldIntS x0.2.2.2.2.2.2.2.2.2.2.2.2.2.2.1 y33 a19 c20 x0.2.2.2.2.2.2.2.2.2.2.2.2.2.2.1.length rfl _ hy36) rfl [4] rfl rfl ?_
            intro _ _
            refine JO.reg ttOk 1 [] [] [(1, .v (.int .i64 y35))] _ rfl ⟨⟨rfl, trivial⟩, rfl⟩ ?_
            refine JO.done rfl ?_
            refine JS.seq ?_
            refine JS.seq ?_
            refine JS.region ?_
            refine JO.reg ttOk 2 [] [] [(34, .v (.bool (decide (y35 < 0))))] _ rfl ⟨⟨rfl, trivial⟩, rfl⟩ ?_
            refine JO.done rfl ?_
            refine JS.cond rfl (fun ht46 => ?_) (fun ht46 => ?_)
            · have h := condT h ht46
              refine JS.seq ?_
              refine JS.region ?_
              refine JO.reg ttOk 1 [] [] [(4, .v (.int .i64 (-1)))] _ rfl ⟨⟨rfl, trivial⟩, rfl⟩ ?_
              refine JO.done rfl ?_
              cases h
              exact JS.ret ttOk () trivial rfl rfl [] rfl
            · have h := condF h ht46
              refine JS.skip ?_
              refine JS.seq ?_
              refine JS.region ?_
              refine JO.reg ttOk 3 [] [] [(36, .v (.agg #[.slice a23 x0.2.2.2.2.2.2.2.2.2.2.2.2.2.2.2.2.1.length c24, .int .i64 x0.2.2.2.2.2.2.2.2.2.2.2.2.2.2.2.2.2])), (37, .v (.int .i64 y35))] _ rfl ⟨⟨rfl, rfl, trivial⟩, rfl⟩ ?_
              obtain ⟨y37, hy38, h⟩ := bindO_some h
              refine JO.call rfl rfl rfl rfl (ok_l_heldLine x0.2.2.2.2.2.2.2.2.2.2.2.2.2.2.2.2 y35 a23 c24 x0.2.2.2.2.2.2.2.2.2.2.2.2.2.2.2.2.1.length rfl _ hy38) rfl [5] rfl rfl ?_
              intro _ _
              refine JO.reg ttOk 1 [] [] [(1, .v (.int .i64 y37))] _ rfl ⟨⟨rfl, trivial⟩, rfl⟩ ?_
              refine JO.done rfl ?_
              refine JS.seq ?_
              refine JS.seq ?_
              refine JS.region ?_
              refine JO.reg ttOk 2 [] [] [(40, .v (.bool (decide (y37 < 0))))] _ rfl ⟨⟨rfl, trivial⟩, rfl⟩ ?_
              refine JO.done rfl ?_
              refine JS.cond rfl (fun ht45 => ?_) (fun ht45 => ?_)
              · have h := condT h ht45
                refine JS.seq ?_
                refine JS.region ?_
                refine JO.reg ttOk 1 [] [] [(4, .v (.int .i64 (-1)))] _ rfl ⟨⟨rfl, trivial⟩, rfl⟩ ?_
                refine JO.done rfl ?_
                cases h
                exact JS.ret ttOk () trivial rfl rfl [] rfl
              · have h := condF h ht45
                refine JS.skip ?_
                refine JS.seq ?_
                refine JS.region ?_
                refine JO.reg ttOk 2 [] [] [(4, .v (.int .i64 y37))] _ rfl ⟨⟨rfl, trivial⟩, rfl⟩ ?_
                refine JO.done rfl ?_
                cases h
                exact JS.ret ttOk () trivial rfl rfl [] rfl

end
end Go.Eng
