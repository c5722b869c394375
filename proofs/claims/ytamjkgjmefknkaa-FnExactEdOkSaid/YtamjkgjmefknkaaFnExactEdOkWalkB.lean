/- The walks of the functions that FnExactEdOk reaches: what each computes, as a plain function (M_..), and that the model computes it (ok_..). Condition of each: that the plain function answers. -/
import Derived.Test.YtamjkgjmefknkaaFnExactEdOkWalkA
set_option linter.unusedVariables false
set_option linter.unusedSimpArgs false
namespace Go.Eng
open Go Go.Proofs
noncomputable section

def M_l_eqEd (x0 : Bool × Int × (List Int × Int) × Int × Int × Int × Int × Int × Int × Int × List (List Int) × (List (List Int × Int)) × Int × (List Int × Int) × List Int × Int × List Int × Int) (x1 : Bool × Int × (List Int × Int) × Int × Int × Int × Int × Int × Int × Int × List (List Int) × (List (List Int × Int)) × Int × (List Int × Int) × List Int × Int × List Int × Int) : Option Bool :=
  (bif (!(x0.1 == x1.1)) then
  some false
  else
  (bif (!(decide (x0.2.1 = x1.2.1))) then
  some false
  else
  (bindO (M_l_eqLine x0.2.2.1 x1.2.2.1) fun (y51 : Bool) =>
  (bif (!y51) then
  some false
  else
  (bif (!(decide (x0.2.2.2.1 = x1.2.2.2.1))) then
  some false
  else
  (bif (!(decide (x0.2.2.2.2.1 = x1.2.2.2.2.1))) then
  some false
  else
  (bif (!(decide (x0.2.2.2.2.2.1 = x1.2.2.2.2.2.1))) then
  some false
  else
  (bif (!(decide (x0.2.2.2.2.2.2.1 = x1.2.2.2.2.2.2.1))) then
  some false
  else
  (bif (!(decide (x0.2.2.2.2.2.2.2.1 = x1.2.2.2.2.2.2.2.1))) then
  some false
  else
  (bif (!(decide (x0.2.2.2.2.2.2.2.2.1 = x1.2.2.2.2.2.2.2.2.1))) then
  some false
  else
  (bif (!(decide (x0.2.2.2.2.2.2.2.2.2.1 = x1.2.2.2.2.2.2.2.2.2.1))) then
  some false
  else
  (bindO (M_l_eqRing x0.2.2.2.2.2.2.2.2.2.2.1 x1.2.2.2.2.2.2.2.2.2.2.1) fun (y53 : Bool) =>
  (bif (!y53) then
  some false
  else
  (bindO (M_l_eqUndo x0.2.2.2.2.2.2.2.2.2.2.2.1 x1.2.2.2.2.2.2.2.2.2.2.2.1) fun (y55 : Bool) =>
  (bif (!y55) then
  some false
  else
  (bif (!(decide (x0.2.2.2.2.2.2.2.2.2.2.2.2.1 = x1.2.2.2.2.2.2.2.2.2.2.2.2.1))) then
  some false
  else
  (bindO (M_l_eqLine x0.2.2.2.2.2.2.2.2.2.2.2.2.2.1 x1.2.2.2.2.2.2.2.2.2.2.2.2.2.1) fun (y57 : Bool) =>
  (bif (!y57) then
  some false
  else
  (bindO (M_l_eqIntS x0.2.2.2.2.2.2.2.2.2.2.2.2.2.2.1 x1.2.2.2.2.2.2.2.2.2.2.2.2.2.2.1) fun (y59 : Bool) =>
  (bif (!y59) then
  some false
  else
  (bif (!(decide (x0.2.2.2.2.2.2.2.2.2.2.2.2.2.2.2.1 = x1.2.2.2.2.2.2.2.2.2.2.2.2.2.2.2.1))) then
  some false
  else
  (bindO (M_l_eqLine x0.2.2.2.2.2.2.2.2.2.2.2.2.2.2.2.2 x1.2.2.2.2.2.2.2.2.2.2.2.2.2.2.2.2) fun (y61 : Bool) =>
  (bif (!y61) then
  some false
  else
  some true)))))))))))))))))))))))

theorem ok_l_eqEd (x0 : Bool × Int × (List Int × Int) × Int × Int × Int × Int × Int × Int × Int × List (List Int) × (List (List Int × Int)) × Int × (List Int × Int) × List Int × Int × List Int × Int) (x1 : Bool × Int × (List Int × Int) × Int × Int × Int × Int × Int × Int × Int × List (List Int) × (List (List Int × Int)) × Int × (List Int × Int) × List Int × Int × List Int × Int) (a3 : Option Addr) (c4 : Nat) (l5 : Nat) (hl6 : x0.2.2.1.1.length = l5) (a7 : Option Addr) (c8 : Nat) (l9 : Nat) (hl10 : x0.2.2.2.2.2.2.2.2.2.2.1.length = l9) (a11 : Option Addr) (c12 : Nat) (l13 : Nat) (hl14 : x0.2.2.2.2.2.2.2.2.2.2.2.1.length = l13) (a15 : Option Addr) (c16 : Nat) (l17 : Nat) (hl18 : x0.2.2.2.2.2.2.2.2.2.2.2.2.2.1.1.length = l17) (a19 : Option Addr) (c20 : Nat) (l21 : Nat) (hl22 : x0.2.2.2.2.2.2.2.2.2.2.2.2.2.2.1.length = l21) (a23 : Option Addr) (c24 : Nat) (l25 : Nat) (hl26 : x0.2.2.2.2.2.2.2.2.2.2.2.2.2.2.2.2.1.length = l25) (a27 : Option Addr) (c28 : Nat) (l29 : Nat) (hl30 : x1.2.2.1.1.length = l29) (a31 : Option Addr) (c32 : Nat) (l33 : Nat) (hl34 : x1.2.2.2.2.2.2.2.2.2.2.1.length = l33) (a35 : Option Addr) (c36 : Nat) (l37 : Nat) (hl38 : x1.2.2.2.2.2.2.2.2.2.2.2.1.length = l37) (a39 : Option Addr) (c40 : Nat) (l41 : Nat) (hl42 : x1.2.2.2.2.2.2.2.2.2.2.2.2.2.1.1.length = l41) (a43 : Option Addr) (c44 : Nat) (l45 : Nat) (hl46 : x1.2.2.2.2.2.2.2.2.2.2.2.2.2.2.1.length = l45) (a47 : Option Addr) (c48 : Nat) (l49 : Nat) (hl50 : x1.2.2.2.2.2.2.2.2.2.2.2.2.2.2.2.2.1.length = l49) (r : Bool) (h : M_l_eqEd x0 x1 = some r) :
    FC Try.prog 22 [.agg #[.bool x0.1, .int .i64 x0.2.1, .slice a3 l5 c4, .int .i64 x0.2.2.1.2, .int .i64 x0.2.2.2.1, .int .i64 x0.2.2.2.2.1, .int .i64 x0.2.2.2.2.2.1, .int .i64 x0.2.2.2.2.2.2.1, .int .i64 x0.2.2.2.2.2.2.2.1, .int .i64 x0.2.2.2.2.2.2.2.2.1, .int .i64 x0.2.2.2.2.2.2.2.2.2.1, .slice a7 l9 c8, .slice a11 l13 c12, .int .i64 x0.2.2.2.2.2.2.2.2.2.2.2.2.1, .slice a15 l17 c16, .int .i64 x0.2.2.2.2.2.2.2.2.2.2.2.2.2.1.2, .slice a19 l21 c20, .int .i64 x0.2.2.2.2.2.2.2.2.2.2.2.2.2.2.2.1, .slice a23 l25 c24, .int .i64 x0.2.2.2.2.2.2.2.2.2.2.2.2.2.2.2.2.2], .agg #[.bool x1.1, .int .i64 x1.2.1, .slice a27 l29 c28, .int .i64 x1.2.2.1.2, .int .i64 x1.2.2.2.1, .int .i64 x1.2.2.2.2.1, .int .i64 x1.2.2.2.2.2.1, .int .i64 x1.2.2.2.2.2.2.1, .int .i64 x1.2.2.2.2.2.2.2.1, .int .i64 x1.2.2.2.2.2.2.2.2.1, .int .i64 x1.2.2.2.2.2.2.2.2.2.1, .slice a31 l33 c32, .slice a35 l37 c36, .int .i64 x1.2.2.2.2.2.2.2.2.2.2.2.2.1, .slice a39 l41 c40, .int .i64 x1.2.2.2.2.2.2.2.2.2.2.2.2.2.1.2, .slice a43 l45 c44, .int .i64 x1.2.2.2.2.2.2.2.2.2.2.2.2.2.2.2.1, .slice a47 l49 c48, .int .i64 x1.2.2.2.2.2.2.2.2.2.2.2.2.2.2.2.2.2]] [⟨(.int .i64), ⟨a3, l5, c4⟩, x0.2.2.1.1⟩, ⟨(.sl (.int .i64)), ⟨a7, l9, c8⟩, x0.2.2.2.2.2.2.2.2.2.2.1⟩, ⟨(.pair (.sl (.int .i64)) (.int .i64)), ⟨a11, l13, c12⟩, x0.2.2.2.2.2.2.2.2.2.2.2.1⟩, ⟨(.int .i64), ⟨a15, l17, c16⟩, x0.2.2.2.2.2.2.2.2.2.2.2.2.2.1.1⟩, ⟨(.int .i64), ⟨a19, l21, c20⟩, x0.2.2.2.2.2.2.2.2.2.2.2.2.2.2.1⟩, ⟨(.int .i64), ⟨a23, l25, c24⟩, x0.2.2.2.2.2.2.2.2.2.2.2.2.2.2.2.2.1⟩, ⟨(.int .i64), ⟨a27, l29, c28⟩, x1.2.2.1.1⟩, ⟨(.sl (.int .i64)), ⟨a31, l33, c32⟩, x1.2.2.2.2.2.2.2.2.2.2.1⟩, ⟨(.pair (.sl (.int .i64)) (.int .i64)), ⟨a35, l37, c36⟩, x1.2.2.2.2.2.2.2.2.2.2.2.1⟩, ⟨(.int .i64), ⟨a39, l41, c40⟩, x1.2.2.2.2.2.2.2.2.2.2.2.2.2.1.1⟩, ⟨(.int .i64), ⟨a43, l45, c44⟩, x1.2.2.2.2.2.2.2.2.2.2.2.2.2.2.1⟩, ⟨(.int .i64), ⟨a47, l49, c48⟩, x1.2.2.2.2.2.2.2.2.2.2.2.2.2.2.2.2.1⟩] (fun _ : Unit => True) (fun _ => .bool r) (fun _ => []) :=
  by
    subst hl6
    subst hl10
    subst hl14
    subst hl18
    subst hl22
    subst hl26
    subst hl30
    subst hl34
    subst hl38
    subst hl42
    subst hl46
    subst hl50
    refine FC.of (T := TTx) Try.call22 Try.func22 rfl rfl fun w0 => ?_
    unfold M_l_eqEd at h
    refine JS.seq ?_
    refine JS.region ?_
    refine JO.regB ttOk 3 [] [13, 14] [(2, .bp 13 0), (3, .bp 14 0)] (.new 13 47 [.bool x0.1, .int .i64 x0.2.1, .slice a3 x0.2.2.1.1.length c4, .int .i64 x0.2.2.1.2, .int .i64 x0.2.2.2.1, .int .i64 x0.2.2.2.2.1, .int .i64 x0.2.2.2.2.2.1, .int .i64 x0.2.2.2.2.2.2.1, .int .i64 x0.2.2.2.2.2.2.2.1, .int .i64 x0.2.2.2.2.2.2.2.2.1, .int .i64 x0.2.2.2.2.2.2.2.2.2.1, .slice a7 x0.2.2.2.2.2.2.2.2.2.2.1.length c8, .slice a11 x0.2.2.2.2.2.2.2.2.2.2.2.1.length c12, .int .i64 x0.2.2.2.2.2.2.2.2.2.2.2.2.1, .slice a15 x0.2.2.2.2.2.2.2.2.2.2.2.2.2.1.1.length c16, .int .i64 x0.2.2.2.2.2.2.2.2.2.2.2.2.2.1.2, .slice a19 x0.2.2.2.2.2.2.2.2.2.2.2.2.2.2.1.length c20, .int .i64 x0.2.2.2.2.2.2.2.2.2.2.2.2.2.2.2.1, .slice a23 x0.2.2.2.2.2.2.2.2.2.2.2.2.2.2.2.2.1.length c24, .int .i64 x0.2.2.2.2.2.2.2.2.2.2.2.2.2.2.2.2.2] (.new 14 47 [.bool x1.1, .int .i64 x1.2.1, .slice a27 x1.2.2.1.1.length c28, .int .i64 x1.2.2.1.2, .int .i64 x1.2.2.2.1, .int .i64 x1.2.2.2.2.1, .int .i64 x1.2.2.2.2.2.1, .int .i64 x1.2.2.2.2.2.2.1, .int .i64 x1.2.2.2.2.2.2.2.1, .int .i64 x1.2.2.2.2.2.2.2.2.1, .int .i64 x1.2.2.2.2.2.2.2.2.2.1, .slice a31 x1.2.2.2.2.2.2.2.2.2.2.1.length c32, .slice a35 x1.2.2.2.2.2.2.2.2.2.2.2.1.length c36, .int .i64 x1.2.2.2.2.2.2.2.2.2.2.2.2.1, .slice a39 x1.2.2.2.2.2.2.2.2.2.2.2.2.2.1.1.length c40, .int .i64 x1.2.2.2.2.2.2.2.2.2.2.2.2.2.1.2, .slice a43 x1.2.2.2.2.2.2.2.2.2.2.2.2.2.2.1.length c44, .int .i64 x1.2.2.2.2.2.2.2.2.2.2.2.2.2.2.2.1, .slice a47 x1.2.2.2.2.2.2.2.2.2.2.2.2.2.2.2.2.1.length c48, .int .i64 x1.2.2.2.2.2.2.2.2.2.2.2.2.2.2.2.2.2] .nil)) rfl ⟨⟨rfl, rfl, trivial⟩, ⟨rfl, rfl, rfl, rfl, rfl, rfl, rfl, rfl, trivial⟩⟩ ?_
    refine JO.done rfl ?_
    refine JS.seq ?_
    refine JS.seq ?_
    refine JS.region ?_
    refine JO.reg ttOk 5 [] [] [(9, .v (.bool (!(x0.1 == x1.1))))] _ rfl ⟨⟨rfl, trivial⟩, rfl⟩ ?_
    refine JO.done rfl ?_
    refine JS.cond rfl (fun ht96 => ?_) (fun ht96 => ?_)
    · have h := condT h ht96
      refine JS.seq ?_
      refine JS.region ?_
      refine JO.reg ttOk 1 [] [] [(4, .v (.bool false))] _ rfl ⟨⟨rfl, trivial⟩, rfl⟩ ?_
      refine JO.done rfl ?_
      cases h
      exact JS.ret ttOk () trivial rfl rfl [] rfl
    · have h := condF h ht96
      refine JS.skip ?_
      refine JS.seq ?_
      refine JS.seq ?_
      refine JS.region ?_
      refine JO.reg ttOk 5 [] [] [(14, .v (.bool (!(decide (x0.2.1 = x1.2.1)))))] _ rfl ⟨⟨rfl, trivial⟩, rfl⟩ ?_
      refine JO.done rfl ?_
      refine JS.cond rfl (fun ht95 => ?_) (fun ht95 => ?_)
      · have h := condT h ht95
        refine JS.seq ?_
        refine JS.region ?_
        refine JO.reg ttOk 1 [] [] [(4, .v (.bool false))] _ rfl ⟨⟨rfl, trivial⟩, rfl⟩ ?_
        refine JO.done rfl ?_
        cases h
        exact JS.ret ttOk () trivial rfl rfl [] rfl
      · have h := condF h ht95
        refine JS.skip ?_
        refine JS.seq ?_
        refine JS.seq ?_
        refine JS.region ?_
        refine JO.reg ttOk 4 [] [] [(16, .v (.agg #[.slice a3 x0.2.2.1.1.length c4, .int .i64 x0.2.2.1.2])), (18, .v (.agg #[.slice a27 x1.2.2.1.1.length c28, .int .i64 x1.2.2.1.2]))] _ rfl ⟨⟨rfl, rfl, trivial⟩, rfl⟩ ?_
        obtain ⟨y51, hy52, h⟩ := bindO_some h
        refine JO.call rfl rfl rfl rfl (ok_l_eqLine x0.2.2.1 x1.2.2.1 a3 c4 x0.2.2.1.1.length rfl a27 c28 x1.2.2.1.1.length rfl _ hy52) rfl [0, 6] rfl rfl ?_
        intro _ _
        refine JO.reg ttOk 1 [] [] [(20, .v (.bool (!y51)))] _ rfl ⟨⟨rfl, trivial⟩, rfl⟩ ?_
        refine JO.done rfl ?_
        refine JS.cond rfl (fun ht94 => ?_) (fun ht94 => ?_)
        · have h := condT h ht94
          refine JS.seq ?_
          refine JS.region ?_
          refine JO.reg ttOk 1 [] [] [(4, .v (.bool false))] _ rfl ⟨⟨rfl, trivial⟩, rfl⟩ ?_
          refine JO.done rfl ?_
          cases h
          exact JS.ret ttOk () trivial rfl rfl [] rfl
        · have h := condF h ht94
          refine JS.skip ?_
          refine JS.seq ?_
          refine JS.seq ?_
          refine JS.region ?_
          refine JO.reg ttOk 5 [] [] [(25, .v (.bool (!(decide (x0.2.2.2.1 = x1.2.2.2.1)))))] _ rfl ⟨⟨rfl, trivial⟩, rfl⟩ ?_
          refine JO.done rfl ?_
          refine JS.cond rfl (fun ht93 => ?_) (fun ht93 => ?_)
          · have h := condT h ht93
            refine JS.seq ?_
            refine JS.region ?_
            refine JO.reg ttOk 1 [] [] [(4, .v (.bool false))] _ rfl ⟨⟨rfl, trivial⟩, rfl⟩ ?_
            refine JO.done rfl ?_
            cases h
            exact JS.ret ttOk () trivial rfl rfl [] rfl
          · have h := condF h ht93
            refine JS.skip ?_
            refine JS.seq ?_
            refine JS.seq ?_
            refine JS.region ?_
            refine JO.reg ttOk 5 [] [] [(30, .v (.bool (!(decide (x0.2.2.2.2.1 = x1.2.2.2.2.1)))))] _ rfl ⟨⟨rfl, trivial⟩, rfl⟩ ?_
            refine JO.done rfl ?_
            refine JS.cond rfl (fun ht92 => ?_) (fun ht92 => ?_)
            · have h := condT h ht92
              refine JS.seq ?_
              refine JS.region ?_
              refine JO.reg ttOk 1 [] [] [(4, .v (.bool false))] _ rfl ⟨⟨rfl, trivial⟩, rfl⟩ ?_
              refine JO.done rfl ?_
              cases h
              exact JS.ret ttOk () trivial rfl rfl [] rfl
            · have h := condF h ht92
              refine JS.skip ?_
              refine JS.seq ?_
              refine JS.seq ?_
              refine JS.region ?_
              refine JO.reg ttOk 5 [] [] [(35, .v (.bool (!(decide (x0.2.2.2.2.2.1 = x1.2.2.2.2.2.1)))))] _ rfl ⟨⟨rfl, trivial⟩, rfl⟩ ?_
              refine JO.done rfl ?_
              refine JS.cond rfl (fun ht91 => ?_) (fun ht91 => ?_)
              · have h := condT h ht91
                refine JS.seq ?_
                refine JS.region ?_
                refine JO.reg ttOk 1 [] [] [(4, .v (.bool false))] _ rfl ⟨⟨rfl, trivial⟩, rfl⟩ ?_
                refine JO.done rfl ?_
                cases h
                exact JS.ret ttOk () trivial rfl rfl [] rfl
              · have h := condF h ht91
                refine JS.skip ?_
                refine JS.seq ?_
                refine JS.seq ?_
                refine JS.region ?_
                refine JO.reg ttOk 5 [] [] [(40, .v (.bool (!(decide (x0.2.2.2.2.2.2.1 = x1.2.2.2.2.2.2.1)))))] _ rfl ⟨⟨rfl, trivial⟩, rfl⟩ ?_
                refine JO.done rfl ?_
                refine JS.cond rfl (fun ht90 => ?_) (fun ht90 => ?_)
                · have h := condT h ht90
                  refine JS.seq ?_
                  refine JS.region ?_
                  refine JO.reg ttOk 1 [] [] [(4, .v (.bool false))] _ rfl ⟨⟨rfl, trivial⟩, rfl⟩ ?_
                  refine JO.done rfl ?_
                  cases h
                  exact JS.ret ttOk () trivial rfl rfl [] rfl
                · have h := condF h ht90
                  refine JS.skip ?_
                  refine JS.seq ?_
                  refine JS.seq ?_
                  refine JS.region ?_
                  refine JO.reg ttOk 5 [] [] [(45, .v (.bool (!(decide (x0.2.2.2.2.2.2.2.1 = x1.2.2.2.2.2.2.2.1)))))] _ rfl ⟨⟨rfl, trivial⟩, rfl⟩ ?_
                  refine JO.done rfl ?_
                  refine JS.cond rfl (fun ht89 => ?_) (fun ht89 => ?_)
                  · have h := condT h ht89
                    refine JS.seq ?_
                    refine JS.region ?_
                    refine JO.reg ttOk 1 [] [] [(4, .v (.bool false))] _ rfl ⟨⟨rfl, trivial⟩, rfl⟩ ?_
                    refine JO.done rfl ?_
                    cases h
                    exact JS.ret ttOk () trivial rfl rfl [] rfl
                  · have h := condF h ht89
                    refine JS.skip ?_
                    refine JS.seq ?_
                    refine JS.seq ?_
                    refine JS.region ?_
                    refine JO.reg ttOk 5 [] [] [(50, .v (.bool (!(decide (x0.2.2.2.2.2.2.2.2.1 = x1.2.2.2.2.2.2.2.2.1)))))] _ rfl ⟨⟨rfl, trivial⟩, rfl⟩ ?_
                    refine JO.done rfl ?_
                    refine JS.cond rfl (fun ht88 => ?_) (fun ht88 => ?_)
                    · have h := condT h ht88
                      refine JS.seq ?_
                      refine JS.region ?_
                      refine JO.reg ttOk 1 [] [] [(4, .v (.bool false))] _ rfl ⟨⟨rfl, trivial⟩, rfl⟩ ?_
                      refine JO.done rfl ?_
                      cases h
                      exact JS.ret ttOk () trivial rfl rfl [] rfl
                    · have h := condF h ht88
                      refine JS.skip ?_
                      refine JS.seq ?_
                      refine JS.seq ?_
                      refine JS.region ?_
                      refine JO.reg ttOk 5 [] [] [(55, .v (.bool (!(decide (x0.2.2.2.2.2.2.2.2.2.1 = x1.2.2.2.2.2.2.2.2.2.1)))))] _ rfl ⟨⟨rfl, trivial⟩, rfl⟩ ?_
                      refine JO.done rfl ?_
                      refine JS.cond rfl (fun ht87 => ?_) (fun ht87 => ?_)
                      · have h := condT h ht87
                        refine JS.seq ?_
                        refine JS.region ?_
                        refine JO.reg ttOk 1 [] [] [(4, .v (.bool false))] _ rfl ⟨⟨rfl, trivial⟩, rfl⟩ ?_
                        refine JO.done rfl ?_
                        cases h
                        exact JS.ret ttOk () trivial rfl rfl [] rfl
                      · have h := condF h ht87
                        refine JS.skip ?_
                        refine JS.seq ?_
                        refine JS.seq ?_
                        refine JS.region ?_
                        refine JO.reg ttOk 4 [] [] [(57, .v (.agg #[.slice a7 x0.2.2.2.2.2.2.2.2.2.2.1.length c8])), (59, .v (.agg #[.slice a31 x1.2.2.2.2.2.2.2.2.2.2.1.length c32]))] _ rfl ⟨⟨rfl, rfl, trivial⟩, rfl⟩ ?_
                        obtain ⟨y53, hy54, h⟩ := bindO_some h
                        refine JO.call rfl rfl rfl rfl (ok_l_eqRing x0.2.2.2.2.2.2.2.2.2.2.1 x1.2.2.2.2.2.2.2.2.2.2.1 a7 c8 x0.2.2.2.2.2.2.2.2.2.2.1.length rfl a31 c32 x1.2.2.2.2.2.2.2.2.2.2.1.length rfl _ hy54) rfl [1, 7] rfl rfl ?_
                        intro _ _
                        refine JO.reg ttOk 1 [] [] [(61, .v (.bool (!y53)))] _ rfl ⟨⟨rfl, trivial⟩, rfl⟩ ?_
                        refine JO.done rfl ?_
                        refine JS.cond rfl (fun ht86 => ?_) (fun ht86 => ?_)
                        · have h := condT h ht86
                          refine JS.seq ?_
                          refine JS.region ?_
                          refine JO.reg ttOk 1 [] [] [(4, .v (.bool false))] _ rfl ⟨⟨rfl, trivial⟩, rfl⟩ ?_
                          refine JO.done rfl ?_
                          cases h
                          exact JS.ret ttOk () trivial rfl rfl [] rfl
                        · have h := condF h ht86
                          refine JS.skip ?_
                          refine JS.seq ?_
                          refine JS.seq ?_
                          refine JS.region ?_
                          refine JO.reg ttOk 4 [] [] [(63, .v (.agg #[.slice a11 x0.2.2.2.2.2.2.2.2.2.2.2.1.length c12])), (65, .v (.agg #[.slice a35 x1.2.2.2.2.2.2.2.2.2.2.2.1.length c36]))] _ rfl ⟨⟨rfl, rfl, trivial⟩, rfl⟩ ?_
                          obtain ⟨y55, hy56, h⟩ := bindO_some h
                          refine JO.call rfl rfl rfl rfl (ok_l_eqUndo x0.2.2.2.2.2.2.2.2.2.2.2.1 x1.2.2.2.2.2.2.2.2.2.2.2.1 a11 c12 x0.2.2.2.2.2.2.2.2.2.2.2.1.length rfl a35 c36 x1.2.2.2.2.2.2.2.2.2.2.2.1.length rfl _ hy56) rfl [2, 8] rfl rfl ?_
                          intro _ _
                          refine JO.reg ttOk 1 [] [] [(67, .v (.bool (!y55)))] _ rfl ⟨⟨rfl, trivial⟩, rfl⟩ ?_
                          refine JO.done rfl ?_
                          refine JS.cond rfl (fun ht85 => ?_) (fun ht85 => ?_)
                          · have h := condT h ht85
                            refine JS.seq ?_
                            refine JS.region ?_
                            refine JO.reg ttOk 1 [] [] [(4, .v (.bool false))] _ rfl ⟨⟨rfl, trivial⟩, rfl⟩ ?_
                            refine JO.done rfl ?_
                            cases h
                            exact JS.ret ttOk () trivial rfl rfl [] rfl
                          · have h := condF h ht85
                            refine JS.skip ?_
                            refine JS.seq ?_
                            refine JS.seq ?_
                            refine JS.region ?_
                            refine JO.reg ttOk 5 [] [] [(72, .v (.bool (!(decide (x0.2.2.2.2.2.2.2.2.2.2.2.2.1 = x1.2.2.2.2.2.2.2.2.2.2.2.2.1)))))] _ rfl ⟨⟨rfl, trivial⟩, rfl⟩ ?_
                            refine JO.done rfl ?_
                            refine JS.cond rfl (fun ht84 => ?_) (fun ht84 => ?_)
                            · have h := condT h ht84
                              refine JS.seq ?_
                              refine JS.region ?_
                              refine JO.reg ttOk 1 [] [] [(4, .v (.bool false))] _ rfl ⟨⟨rfl, trivial⟩, rfl⟩ ?_
                              refine JO.done rfl ?_
                              cases h
                              exact JS.ret ttOk () trivial rfl rfl [] rfl
                            · have h := condF h ht84
                              refine JS.skip ?_
                              refine JS.seq ?_
                              refine JS.seq ?_
                              refine JS.region ?_
                              refine JO.reg ttOk 4 [] [] [(74, .v (.agg #[.slice a15 x0.2.2.2.2.2.2.2.2.2.2.2.2.2.1.1.length c16, .int .i64 x0.2.2.2.2.2.2.2.2.2.2.2.2.2.1.2])), (76, .v (.agg #[.slice a39 x1.2.2.2.2.2.2.2.2.2.2.2.2.2.1.1.length c40, .int .i64 x1.2.2.2.2.2.2.2.2.2.2.2.2.2.1.2]))] _ rfl ⟨⟨rfl, rfl, trivial⟩, rfl⟩ ?_
                              obtain ⟨y57, hy58, h⟩ := bindO_some h
                              refine JO.call rfl rfl rfl rfl (ok_l_eqLine x0.2.2.2.2.2.2.2.2.2.2.2.2.2.1 x1.2.2.2.2.2.2.2.2.2.2.2.2.2.1 a15 c16 x0.2.2.2.2.2.2.2.2.2.2.2.2.2.1.1.length rfl a39 c40 x1.2.2.2.2.2.2.2.2.2.2.2.2.2.1.1.length rfl _ hy58) rfl [3, 9] rfl rfl ?_
                              intro _ _
                              refine JO.reg ttOk 1 [] [] [(78, .v (.bool (!y57)))] _ rfl ⟨⟨rfl, trivial⟩, rfl⟩ ?_
                              refine JO.done rfl ?_
                              refine JS.cond rfl (fun ht83 => ?_) (fun ht83 => ?_)
                              · have h := condT h ht83
                                refine JS.seq ?_
                                refine JS.region ?_
                                refine JO.reg ttOk 1 [] [] [(4, .v (.bool false))] _ rfl ⟨⟨rfl, trivial⟩, rfl⟩ ?_
                                refine JO.done rfl ?_
                                cases h
                                exact JS.ret ttOk () trivial rfl rfl [] rfl
                              · have h := condF h ht83
                                refine JS.skip ?_
                                refine JS.seq ?_
                                refine JS.seq ?_
                                refine JS.region ?_
                                refine JO.reg ttOk 4 [] [] [(80, .v (.slice a19 x0.2.2.2.2.2.2.2.2.2.2.2.2.2.2.1.length c20)), (82, .v (.slice a43 x1.2.2.2.2.2.2.2.2.2.2.2.2.2.2.1.length c44))] _ rfl ⟨⟨rfl, rfl, trivial⟩, rfl⟩ ?_
                                obtain ⟨y59, hy60, h⟩ := bindO_some h
                                refine JO.call rfl rfl rfl rfl (ok_l_eqIntS x0.2.2.2.2.2.2.2.2.2.2.2.2.2.2.1 x1.2.2.2.2.2.2.2.2.2.2.2.2.2.2.1 a19 c20 x0.2.2.2.2.2.2.2.2.2.2.2.2.2.2.1.length rfl a43 c44 x1.2.2.2.2.2.2.2.2.2.2.2.2.2.2.1.length rfl _ hy60) rfl [4, 10] rfl rfl ?_
                                intro _ _
                                refine JO.reg ttOk 1 [] [] [(84, .v (.bool (!y59)))] _ rfl ⟨⟨rfl, trivial⟩, rfl⟩ ?_
                                refine JO.done rfl ?_
                                refine JS.cond rfl (fun ht82 => ?_) (fun ht82 => ?_)
                                · have h := condT h ht82
                                  refine JS.seq ?_
                                  refine JS.region ?_
                                  refine JO.reg ttOk 1 [] [] [(4, .v (.bool false))] _ rfl ⟨⟨rfl, trivial⟩, rfl⟩ ?_
                                  refine JO.done rfl ?_
                                  cases h
                                  exact JS.ret ttOk () trivial rfl rfl [] rfl
                                · have h := condF h ht82
                                  refine JS.skip ?_
                                  refine JS.seq ?_
                                  refine JS.seq ?_
                                  refine JS.region ?_
                                  refine JO.reg ttOk 5 [] [] [(89, .v (.bool (!(decide (x0.2.2.2.2.2.2.2.2.2.2.2.2.2.2.2.1 = x1.2.2.2.2.2.2.2.2.2.2.2.2.2.2.2.1)))))] _ rfl ⟨⟨rfl, trivial⟩, rfl⟩ ?_
                                  refine JO.done rfl ?_
                                  refine JS.cond rfl (fun ht81 => ?_) (fun ht81 => ?_)
                                  · have h := condT h ht81
                                    refine JS.seq ?_
                                    refine JS.region ?_
                                    refine JO.reg ttOk 1 [] [] [(4, .v (.bool false))] _ rfl ⟨⟨rfl, trivial⟩, rfl⟩ ?_
                                    refine JO.done rfl ?_
                                    cases h
                                    exact JS.ret ttOk () trivial rfl rfl [] rfl
                                  · have h := condF h ht81
                                    refine JS.skip ?_
                                    refine JS.seq ?_
                                    refine JS.seq ?_
                                    refine JS.region ?_
                                    refine JO.reg ttOk 4 [] [] [(91, .v (.agg #[.slice a23 x0.2.2.2.2.2.2.2.2.2.2.2.2.2.2.2.2.1.length c24, .int .i64 x0.2.2.2.2.2.2.2.2.2.2.2.2.2.2.2.2.2])), (93, .v (.agg #[.slice a47 x1.2.2.2.2.2.2.2.2.2.2.2.2.2.2.2.2.1.length c48, .int .i64 x1.2.2.2.2.2.2.2.2.2.2.2.2.2.2.2.2.2]))] _ rfl ⟨⟨rfl, rfl, trivial⟩, rfl⟩ ?_
                                    obtain ⟨y61, hy62, h⟩ := bindO_some h
                                    refine JO.call rfl rfl rfl rfl (ok_l_eqLine x0.2.2.2.2.2.2.2.2.2.2.2.2.2.2.2.2 x1.2.2.2.2.2.2.2.2.2.2.2.2.2.2.2.2 a23 c24 x0.2.2.2.2.2.2.2.2.2.2.2.2.2.2.2.2.1.length rfl a47 c48 x1.2.2.2.2.2.2.2.2.2.2.2.2.2.2.2.2.1.length rfl _ hy62) rfl [5, 11] rfl rfl ?_
                                    intro _ _
                                    refine JO.reg ttOk 1 [] [] [(95, .v (.bool (!y61)))] _ rfl ⟨⟨rfl, trivial⟩, rfl⟩ ?_
                                    refine JO.done rfl ?_
                                    refine JS.cond rfl (fun ht80 => ?_) (fun ht80 => ?_)
                                    · have h := condT h ht80
                                      refine JS.seq ?_
                                      refine JS.region ?_
                                      refine JO.reg ttOk 1 [] [] [(4, .v (.bool false))] _ rfl ⟨⟨rfl, trivial⟩, rfl⟩ ?_
                                      refine JO.done rfl ?_
                                      cases h
                                      exact JS.ret ttOk () trivial rfl rfl [] rfl
                                    · have h := condF h ht80
                                      refine JS.skip ?_
                                      refine JS.seq ?_
                                      refine JS.region ?_
                                      refine JO.reg ttOk 1 [] [] [(4, .v (.bool true))] _ rfl ⟨⟨rfl, trivial⟩, rfl⟩ ?_
                                      refine JO.done rfl ?_
                                      cases h
                                      exact JS.ret ttOk () trivial rfl rfl [] rfl

def M_l_FnExactEdOk (x0 : Bool × Int × (List Int × Int) × Int × Int × Int × Int × Int × Int × Int × List (List Int) × (List (List Int × Int)) × Int × (List Int × Int) × List Int × Int × List Int × Int) : Option Bool :=
  (bindO (M_l_szEd x0 1048576) fun (y26 : Int) =>
  (bif (decide (y26 < 0)) then
  some true
  else
  (bindO (M_l_toEd x0) fun (y28 : Bool × Int × (List Int × Int) × Int × Int × Int × Int × Int × Int × Int × List (List Int) × (List (List Int × Int)) × Int × (List Int × Int) × List Int × Int × List Int × Int) =>
  (bindO (M_s_EdOk y28) fun (y42 : Bool) =>
  (bindO (M_l_toEd x0) fun (y44 : Bool × Int × (List Int × Int) × Int × Int × Int × Int × Int × Int × Int × List (List Int) × (List (List Int × Int)) × Int × (List Int × Int) × List Int × Int × List Int × Int) =>
  (bindO (M_i_EdOk y44) fun (y58 : Bool) =>
  (bif (!(y58 == y42)) then
  some false
  else
  (bindO (M_l_toEd x0) fun (y60 : Bool × Int × (List Int × Int) × Int × Int × Int × Int × Int × Int × Int × List (List Int) × (List (List Int × Int)) × Int × (List Int × Int) × List Int × Int × List Int × Int) =>
  (bindO (M_l_eqEd y44 y60) fun (y74 : Bool) =>
  (bif (!y74) then
  some false
  else
  some true))))))))))

theorem ok_l_FnExactEdOk (x0 : Bool × Int × (List Int × Int) × Int × Int × Int × Int × Int × Int × Int × List (List Int) × (List (List Int × Int)) × Int × (List Int × Int) × List Int × Int × List Int × Int) (a2 : Option Addr) (c3 : Nat) (l4 : Nat) (hl5 : x0.2.2.1.1.length = l4) (a6 : Option Addr) (c7 : Nat) (l8 : Nat) (hl9 : x0.2.2.2.2.2.2.2.2.2.2.1.length = l8) (a10 : Option Addr) (c11 : Nat) (l12 : Nat) (hl13 : x0.2.2.2.2.2.2.2.2.2.2.2.1.length = l12) (a14 : Option Addr) (c15 : Nat) (l16 : Nat) (hl17 : x0.2.2.2.2.2.2.2.2.2.2.2.2.2.1.1.length = l16) (a18 : Option Addr) (c19 : Nat) (l20 : Nat) (hl21 : x0.2.2.2.2.2.2.2.2.2.2.2.2.2.2.1.length = l20) (a22 : Option Addr) (c23 : Nat) (l24 : Nat) (hl25 : x0.2.2.2.2.2.2.2.2.2.2.2.2.2.2.2.2.1.length = l24) (r : Bool) (h : M_l_FnExactEdOk x0 = some r) :
    FC Try.prog 7 [.agg #[.bool x0.1, .int .i64 x0.2.1, .slice a2 l4 c3, .int .i64 x0.2.2.1.2, .int .i64 x0.2.2.2.1, .int .i64 x0.2.2.2.2.1, .int .i64 x0.2.2.2.2.2.1, .int .i64 x0.2.2.2.2.2.2.1, .int .i64 x0.2.2.2.2.2.2.2.1, .int .i64 x0.2.2.2.2.2.2.2.2.1, .int .i64 x0.2.2.2.2.2.2.2.2.2.1, .slice a6 l8 c7, .slice a10 l12 c11, .int .i64 x0.2.2.2.2.2.2.2.2.2.2.2.2.1, .slice a14 l16 c15, .int .i64 x0.2.2.2.2.2.2.2.2.2.2.2.2.2.1.2, .slice a18 l20 c19, .int .i64 x0.2.2.2.2.2.2.2.2.2.2.2.2.2.2.2.1, .slice a22 l24 c23, .int .i64 x0.2.2.2.2.2.2.2.2.2.2.2.2.2.2.2.2.2]] [⟨(.int .i64), ⟨a2, l4, c3⟩, x0.2.2.1.1⟩, ⟨(.sl (.int .i64)), ⟨a6, l8, c7⟩, x0.2.2.2.2.2.2.2.2.2.2.1⟩, ⟨(.pair (.sl (.int .i64)) (.int .i64)), ⟨a10, l12, c11⟩, x0.2.2.2.2.2.2.2.2.2.2.2.1⟩, ⟨(.int .i64), ⟨a14, l16, c15⟩, x0.2.2.2.2.2.2.2.2.2.2.2.2.2.1.1⟩, ⟨(.int .i64), ⟨a18, l20, c19⟩, x0.2.2.2.2.2.2.2.2.2.2.2.2.2.2.1⟩, ⟨(.int .i64), ⟨a22, l24, c23⟩, x0.2.2.2.2.2.2.2.2.2.2.2.2.2.2.2.2.1⟩] (fun _ : Unit => True) (fun _ => .bool r) (fun _ => []) :=
  by
    subst hl5
    subst hl9
    subst hl13
    subst hl17
    subst hl21
    subst hl25
    refine FC.of (T := TTx) Try.call7 Try.func7 rfl rfl fun w0 => ?_
    unfold M_l_FnExactEdOk at h
    refine JS.seq ?_
    refine JS.region ?_
    refine JO.regB ttOk 2 [] [7] [(1, .bp 7 0)] (.new 7 60 [.bool x0.1, .int .i64 x0.2.1, .slice a2 x0.2.2.1.1.length c3, .int .i64 x0.2.2.1.2, .int .i64 x0.2.2.2.1, .int .i64 x0.2.2.2.2.1, .int .i64 x0.2.2.2.2.2.1, .int .i64 x0.2.2.2.2.2.2.1, .int .i64 x0.2.2.2.2.2.2.2.1, .int .i64 x0.2.2.2.2.2.2.2.2.1, .int .i64 x0.2.2.2.2.2.2.2.2.2.1, .slice a6 x0.2.2.2.2.2.2.2.2.2.2.1.length c7, .slice a10 x0.2.2.2.2.2.2.2.2.2.2.2.1.length c11, .int .i64 x0.2.2.2.2.2.2.2.2.2.2.2.2.1, .slice a14 x0.2.2.2.2.2.2.2.2.2.2.2.2.2.1.1.length c15, .int .i64 x0.2.2.2.2.2.2.2.2.2.2.2.2.2.1.2, .slice a18 x0.2.2.2.2.2.2.2.2.2.2.2.2.2.2.1.length c19, .int .i64 x0.2.2.2.2.2.2.2.2.2.2.2.2.2.2.2.1, .slice a22 x0.2.2.2.2.2.2.2.2.2.2.2.2.2.2.2.2.1.length c23, .int .i64 x0.2.2.2.2.2.2.2.2.2.2.2.2.2.2.2.2.2] .nil) rfl ⟨⟨rfl, trivial⟩, ⟨rfl, rfl, rfl, rfl, trivial⟩⟩ ?_
    refine JO.done rfl ?_
    refine JS.seq ?_
    refine JS.region ?_
    refine JO.reg ttOk 1 [] [] [(3, .v (.int .i64 1048576))] _ rfl ⟨⟨rfl, trivial⟩, rfl⟩ ?_
    refine JO.done rfl ?_
    refine JS.seq ?_
    refine JS.region ?_
    refine JO.reg ttOk 2 [] [] [(7, .v (.agg #[.bool x0.1, .int .i64 x0.2.1, .slice a2 x0.2.2.1.1.length c3, .int .i64 x0.2.2.1.2, .int .i64 x0.2.2.2.1, .int .i64 x0.2.2.2.2.1, .int .i64 x0.2.2.2.2.2.1, .int .i64 x0.2.2.2.2.2.2.1, .int .i64 x0.2.2.2.2.2.2.2.1, .int .i64 x0.2.2.2.2.2.2.2.2.1, .int .i64 x0.2.2.2.2.2.2.2.2.2.1, .slice a6 x0.2.2.2.2.2.2.2.2.2.2.1.length c7, .slice a10 x0.2.2.2.2.2.2.2.2.2.2.2.1.length c11, .int .i64 x0.2.2.2.2.2.2.2.2.2.2.2.2.1, .slice a14 x0.2.2.2.2.2.2.2.2.2.2.2.2.2.1.1.length c15, .int .i64 x0.2.2.2.2.2.2.2.2.2.2.2.2.2.1.2, .slice a18 x0.2.2.2.2.2.2.2.2.2.2.2.2.2.2.1.length c19, .int .i64 x0.2.2.2.2.2.2.2.2.2.2.2.2.2.2.2.1, .slice a22 x0.2.2.2.2.2.2.2.2.2.2.2.2.2.2.2.2.1.length c23, .int .i64 x0.2.2.2.2.2.2.2.2.2.2.2.2.2.2.2.2.2])), (8, .v (.int .i64 1048576))] _ rfl ⟨⟨rfl, rfl, trivial⟩, rfl⟩ ?_
    obtain ⟨y26, hy27, h⟩ := bindO_some h
    refine JO.call rfl rfl rfl rfl (ok_l_szEd x0 1048576 a2 c3 x0.2.2.1.1.length rfl a6 c7 x0.2.2.2.2.2.2.2.2.2.2.1.length rfl a10 c11 x0.2.2.2.2.2.2.2.2.2.2.2.1.length rfl a14 c15 x0.2.2.2.2.2.2.2.2.2.2.2.2.2.1.1.length rfl a18 c19 x0.2.2.2.2.2.2.2.2.2.2.2.2.2.2.1.length rfl a22 c23 x0.2.2.2.2.2.2.2.2.2.2.2.2.2.2.2.2.1.length rfl _ hy27) rfl [0, 1, 2, 3, 4, 5] rfl rfl ?_
    intro _ _
    refine JO.reg ttOk 1 [] [] [(3, .v (.int .i64 y26))] _ rfl ⟨⟨rfl, trivial⟩, rfl⟩ ?_
    refine JO.done rfl ?_
    refine JS.seq ?_
    refine JS.seq ?_
    refine JS.region ?_
    refine JO.reg ttOk 2 [] [] [(11, .v (.bool (decide (y26 < 0))))] _ rfl ⟨⟨rfl, trivial⟩, rfl⟩ ?_
    refine JO.done rfl ?_
    refine JS.cond rfl (fun ht82 => ?_) (fun ht82 => ?_)
    · have h := condT h ht82
      refine JS.seq ?_
      refine JS.region ?_
      refine JO.reg ttOk 1 [] [] [(2, .v (.bool true))] _ rfl ⟨⟨rfl, trivial⟩, rfl⟩ ?_
      refine JO.done rfl ?_
      cases h
      exact JS.ret ttOk () trivial rfl rfl [] rfl
    · have h := condF h ht82
      refine JS.skip ?_
      refine JS.seq ?_
      refine JS.region ?_
      refine JO.reg ttOk 1 [] [] [(12, .v (.agg #[.bool x0.1, .int .i64 x0.2.1, .slice a2 x0.2.2.1.1.length c3, .int .i64 x0.2.2.1.2, .int .i64 x0.2.2.2.1, .int .i64 x0.2.2.2.2.1, .int .i64 x0.2.2.2.2.2.1, .int .i64 x0.2.2.2.2.2.2.1, .int .i64 x0.2.2.2.2.2.2.2.1, .int .i64 x0.2.2.2.2.2.2.2.2.1, .int .i64 x0.2.2.2.2.2.2.2.2.2.1, .slice a6 x0.2.2.2.2.2.2.2.2.2.2.1.length c7, .slice a10 x0.2.2.2.2.2.2.2.2.2.2.2.1.length c11, .int .i64 x0.2.2.2.2.2.2.2.2.2.2.2.2.1, .slice a14 x0.2.2.2.2.2.2.2.2.2.2.2.2.2.1.1.length c15, .int .i64 x0.2.2.2.2.2.2.2.2.2.2.2.2.2.1.2, .slice a18 x0.2.2.2.2.2.2.2.2.2.2.2.2.2.2.1.length c19, .int .i64 x0.2.2.2.2.2.2.2.2.2.2.2.2.2.2.2.1, .slice a22 x0.2.2.2.2.2.2.2.2.2.2.2.2.2.2.2.2.1.length c23, .int .i64 x0.2.2.2.2.2.2.2.2.2.2.2.2.2.2.2.2.2]))] _ rfl ⟨⟨rfl, trivial⟩, rfl⟩ ?_
      obtain ⟨y28, hy29, h⟩ := bindO_some h
      refine JO.call rfl rfl rfl rfl (ok_l_toEd x0 a2 c3 x0.2.2.1.1.length rfl a6 c7 x0.2.2.2.2.2.2.2.2.2.2.1.length rfl a10 c11 x0.2.2.2.2.2.2.2.2.2.2.2.1.length rfl a14 c15 x0.2.2.2.2.2.2.2.2.2.2.2.2.2.1.1.length rfl a18 c19 x0.2.2.2.2.2.2.2.2.2.2.2.2.2.2.1.length rfl a22 c23 x0.2.2.2.2.2.2.2.2.2.2.2.2.2.2.2.2.1.length rfl _ hy29) rfl [0, 1, 2, 3, 4, 5] rfl rfl ?_
      rintro ⟨a30, c31, a32, c33, a34, c35, a36, c37, a38, c39, a40, c41⟩ -
      obtain ⟨y42, hy43, h⟩ := bindO_some h
      refine JO.call rfl rfl rfl rfl (ok_s_EdOk y28 a30 c31 y28.2.2.1.1.length rfl a32 c33 y28.2.2.2.2.2.2.2.2.2.2.1.length rfl a34 c35 y28.2.2.2.2.2.2.2.2.2.2.2.1.length rfl a36 c37 y28.2.2.2.2.2.2.2.2.2.2.2.2.2.1.1.length rfl a38 c39 y28.2.2.2.2.2.2.2.2.2.2.2.2.2.2.1.length rfl a40 c41 y28.2.2.2.2.2.2.2.2.2.2.2.2.2.2.2.2.1.length rfl _ hy43) rfl [6, 7, 8, 9, 10, 11] rfl rfl ?_
      intro _ _
      refine JO.reg ttOk 1 [] [] [(4, .v (.bool y42))] _ rfl ⟨⟨rfl, trivial⟩, rfl⟩ ?_
      refine JO.done rfl ?_
      refine JS.seq ?_
      refine JS.region ?_
      refine JO.reg ttOk 1 [] [] [(15, .v (.agg #[.bool x0.1, .int .i64 x0.2.1, .slice a2 x0.2.2.1.1.length c3, .int .i64 x0.2.2.1.2, .int .i64 x0.2.2.2.1, .int .i64 x0.2.2.2.2.1, .int .i64 x0.2.2.2.2.2.1, .int .i64 x0.2.2.2.2.2.2.1, .int .i64 x0.2.2.2.2.2.2.2.1, .int .i64 x0.2.2.2.2.2.2.2.2.1, .int .i64 x0.2.2.2.2.2.2.2.2.2.1, .slice a6 x0.2.2.2.2.2.2.2.2.2.2.1.length c7, .slice a10 x0.2.2.2.2.2.2.2.2.2.2.2.1.length c11, .int .i64 x0.2.2.2.2.2.2.2.2.2.2.2.2.1, .slice a14 x0.2.2.2.2.2.2.2.2.2.2.2.2.2.1.1.length c15, .int .i64 x0.2.2.2.2.2.2.2.2.2.2.2.2.2.1.2, .slice a18 x0.2.2.2.2.2.2.2.2.2.2.2.2.2.2.1.length c19, .int .i64 x0.2.2.2.2.2.2.2.2.2.2.2.2.2.2.2.1, .slice a22 x0.2.2.2.2.2.2.2.2.2.2.2.2.2.2.2.2.1.length c23, .int .i64 x0.2.2.2.2.2.2.2.2.2.2.2.2.2.2.2.2.2]))] _ rfl ⟨⟨rfl, trivial⟩, rfl⟩ ?_
      obtain ⟨y44, hy45, h⟩ := bindO_some h
      refine JO.call rfl rfl rfl rfl (ok_l_toEd x0 a2 c3 x0.2.2.1.1.length rfl a6 c7 x0.2.2.2.2.2.2.2.2.2.2.1.length rfl a10 c11 x0.2.2.2.2.2.2.2.2.2.2.2.1.length rfl a14 c15 x0.2.2.2.2.2.2.2.2.2.2.2.2.2.1.1.length rfl a18 c19 x0.2.2.2.2.2.2.2.2.2.2.2.2.2.2.1.length rfl a22 c23 x0.2.2.2.2.2.2.2.2.2.2.2.2.2.2.2.2.1.length rfl _ hy45) rfl [0, 1, 2, 3, 4, 5] rfl rfl ?_
      rintro ⟨a46, c47, a48, c49, a50, c51, a52, c53, a54, c55, a56, c57⟩ -
      refine JO.regB ttOk 2 [] [52] [(5, .bp 52 0)] (.new 7 60 [.bool x0.1, .int .i64 x0.2.1, .slice a2 x0.2.2.1.1.length c3, .int .i64 x0.2.2.1.2, .int .i64 x0.2.2.2.1, .int .i64 x0.2.2.2.2.1, .int .i64 x0.2.2.2.2.2.1, .int .i64 x0.2.2.2.2.2.2.1, .int .i64 x0.2.2.2.2.2.2.2.1, .int .i64 x0.2.2.2.2.2.2.2.2.1, .int .i64 x0.2.2.2.2.2.2.2.2.2.1, .slice a6 x0.2.2.2.2.2.2.2.2.2.2.1.length c7, .slice a10 x0.2.2.2.2.2.2.2.2.2.2.2.1.length c11, .int .i64 x0.2.2.2.2.2.2.2.2.2.2.2.2.1, .slice a14 x0.2.2.2.2.2.2.2.2.2.2.2.2.2.1.1.length c15, .int .i64 x0.2.2.2.2.2.2.2.2.2.2.2.2.2.1.2, .slice a18 x0.2.2.2.2.2.2.2.2.2.2.2.2.2.2.1.length c19, .int .i64 x0.2.2.2.2.2.2.2.2.2.2.2.2.2.2.2.1, .slice a22 x0.2.2.2.2.2.2.2.2.2.2.2.2.2.2.2.2.1.length c23, .int .i64 x0.2.2.2.2.2.2.2.2.2.2.2.2.2.2.2.2.2] (.new 52 47 [.bool y44.1, .int .i64 y44.2.1, .slice a46 y44.2.2.1.1.length c47, .int .i64 y44.2.2.1.2, .int .i64 y44.2.2.2.1, .int .i64 y44.2.2.2.2.1, .int .i64 y44.2.2.2.2.2.1, .int .i64 y44.2.2.2.2.2.2.1, .int .i64 y44.2.2.2.2.2.2.2.1, .int .i64 y44.2.2.2.2.2.2.2.2.1, .int .i64 y44.2.2.2.2.2.2.2.2.2.1, .slice a48 y44.2.2.2.2.2.2.2.2.2.2.1.length c49, .slice a50 y44.2.2.2.2.2.2.2.2.2.2.2.1.length c51, .int .i64 y44.2.2.2.2.2.2.2.2.2.2.2.2.1, .slice a52 y44.2.2.2.2.2.2.2.2.2.2.2.2.2.1.1.length c53, .int .i64 y44.2.2.2.2.2.2.2.2.2.2.2.2.2.1.2, .slice a54 y44.2.2.2.2.2.2.2.2.2.2.2.2.2.2.1.length c55, .int .i64 y44.2.2.2.2.2.2.2.2.2.2.2.2.2.2.2.1, .slice a56 y44.2.2.2.2.2.2.2.2.2.2.2.2.2.2.2.2.1.length c57, .int .i64 y44.2.2.2.2.2.2.2.2.2.2.2.2.2.2.2.2.2] .nil)) rfl ⟨⟨rfl, trivial⟩, ⟨rfl, rfl, rfl, rfl, rfl, rfl, rfl, rfl, trivial⟩⟩ ?_
      refine JO.done rfl ?_
      refine JS.seq ?_
      refine JS.region ?_
      refine JO.reg ttOk 1 [] [] [(17, .v (.agg #[.bool y44.1, .int .i64 y44.2.1, .slice a46 y44.2.2.1.1.length c47, .int .i64 y44.2.2.1.2, .int .i64 y44.2.2.2.1, .int .i64 y44.2.2.2.2.1, .int .i64 y44.2.2.2.2.2.1, .int .i64 y44.2.2.2.2.2.2.1, .int .i64 y44.2.2.2.2.2.2.2.1, .int .i64 y44.2.2.2.2.2.2.2.2.1, .int .i64 y44.2.2.2.2.2.2.2.2.2.1, .slice a48 y44.2.2.2.2.2.2.2.2.2.2.1.length c49, .slice a50 y44.2.2.2.2.2.2.2.2.2.2.2.1.length c51, .int .i64 y44.2.2.2.2.2.2.2.2.2.2.2.2.1, .slice a52 y44.2.2.2.2.2.2.2.2.2.2.2.2.2.1.1.length c53, .int .i64 y44.2.2.2.2.2.2.2.2.2.2.2.2.2.1.2, .slice a54 y44.2.2.2.2.2.2.2.2.2.2.2.2.2.2.1.length c55, .int .i64 y44.2.2.2.2.2.2.2.2.2.2.2.2.2.2.2.1, .slice a56 y44.2.2.2.2.2.2.2.2.2.2.2.2.2.2.2.2.1.length c57, .int .i64 y44.2.2.2.2.2.2.2.2.2.2.2.2.2.2.2.2.2]))] _ rfl ⟨⟨rfl, trivial⟩, rfl⟩ ?_
      obtain ⟨y58, hy59, h⟩ := bindO_some h
      refine JO.call rfl rfl rfl rfl (ok_i_EdOk y44 a46 c47 y44.2.2.1.1.length rfl a48 c49 y44.2.2.2.2.2.2.2.2.2.2.1.length rfl a50 c51 y44.2.2.2.2.2.2.2.2.2.2.2.1.length rfl a52 c53 y44.2.2.2.2.2.2.2.2.2.2.2.2.2.1.1.length rfl a54 c55 y44.2.2.2.2.2.2.2.2.2.2.2.2.2.2.1.length rfl a56 c57 y44.2.2.2.2.2.2.2.2.2.2.2.2.2.2.2.2.1.length rfl _ hy59) rfl [6, 7, 8, 9, 10, 11] rfl rfl ?_
      intro _ _
      refine JO.reg ttOk 1 [] [] [(6, .v (.bool y58))] _ rfl ⟨⟨rfl, trivial⟩, rfl⟩ ?_
      refine JO.done rfl ?_
      refine JS.seq ?_
      refine JS.seq ?_
      refine JS.region ?_
      refine JO.reg ttOk 3 [] [] [(21, .v (.bool (!(y58 == y42))))] _ rfl ⟨⟨rfl, trivial⟩, rfl⟩ ?_
      refine JO.done rfl ?_
      refine JS.cond rfl (fun ht81 => ?_) (fun ht81 => ?_)
      · have h := condT h ht81
        refine JS.seq ?_
        refine JS.region ?_
        refine JO.reg ttOk 1 [] [] [(2, .v (.bool false))] _ rfl ⟨⟨rfl, trivial⟩, rfl⟩ ?_
        refine JO.done rfl ?_
        cases h
        exact JS.ret ttOk () trivial rfl rfl [] rfl
      · have h := condF h ht81
        refine JS.skip ?_
        refine JS.seq ?_
        refine JS.seq ?_
        obtain ⟨y60, hy61, h⟩ := bindO_some h
        obtain ⟨y74, hy75, h⟩ := bindO_some h
        refine JS.regionA rfl (.new 7 60 [.bool x0.1, .int .i64 x0.2.1, .slice a2 x0.2.2.1.1.length c3, .int .i64 x0.2.2.1.2, .int .i64 x0.2.2.2.1, .int .i64 x0.2.2.2.2.1, .int .i64 x0.2.2.2.2.2.1, .int .i64 x0.2.2.2.2.2.2.1, .int .i64 x0.2.2.2.2.2.2.2.1, .int .i64 x0.2.2.2.2.2.2.2.2.1, .int .i64 x0.2.2.2.2.2.2.2.2.2.1, .slice a6 x0.2.2.2.2.2.2.2.2.2.2.1.length c7, .slice a10 x0.2.2.2.2.2.2.2.2.2.2.2.1.length c11, .int .i64 x0.2.2.2.2.2.2.2.2.2.2.2.2.1, .slice a14 x0.2.2.2.2.2.2.2.2.2.2.2.2.2.1.1.length c15, .int .i64 x0.2.2.2.2.2.2.2.2.2.2.2.2.2.1.2, .slice a18 x0.2.2.2.2.2.2.2.2.2.2.2.2.2.2.1.length c19, .int .i64 x0.2.2.2.2.2.2.2.2.2.2.2.2.2.2.2.1, .slice a22 x0.2.2.2.2.2.2.2.2.2.2.2.2.2.2.2.2.1.length c23, .int .i64 x0.2.2.2.2.2.2.2.2.2.2.2.2.2.2.2.2.2] (.new 52 47 [.bool y44.1, .int .i64 y44.2.1, .slice a46 y44.2.2.1.1.length c47, .int .i64 y44.2.2.1.2, .int .i64 y44.2.2.2.1, .int .i64 y44.2.2.2.2.1, .int .i64 y44.2.2.2.2.2.1, .int .i64 y44.2.2.2.2.2.2.1, .int .i64 y44.2.2.2.2.2.2.2.1, .int .i64 y44.2.2.2.2.2.2.2.2.1, .int .i64 y44.2.2.2.2.2.2.2.2.2.1, .slice a48 y44.2.2.2.2.2.2.2.2.2.2.1.length c49, .slice a50 y44.2.2.2.2.2.2.2.2.2.2.2.1.length c51, .int .i64 y44.2.2.2.2.2.2.2.2.2.2.2.2.1, .slice a52 y44.2.2.2.2.2.2.2.2.2.2.2.2.2.1.1.length c53, .int .i64 y44.2.2.2.2.2.2.2.2.2.2.2.2.2.1.2, .slice a54 y44.2.2.2.2.2.2.2.2.2.2.2.2.2.2.1.length c55, .int .i64 y44.2.2.2.2.2.2.2.2.2.2.2.2.2.2.2.1, .slice a56 y44.2.2.2.2.2.2.2.2.2.2.2.2.2.2.2.2.1.length c57, .int .i64 y44.2.2.2.2.2.2.2.2.2.2.2.2.2.2.2.2.2] .nil)) [] [] ⟨rfl, rfl, rfl, rfl, rfl, rfl, rfl, rfl, trivial⟩ rfl (fun be76 => ?_)
        refine JA.reg ttOk panic_cx true 3 [0, 1] rfl (by kernel_rfl) [] [(22, .v (.agg #[.bool y44.1, .int .i64 y44.2.1, .slice a46 y44.2.2.1.1.length c47, .int .i64 y44.2.2.1.2, .int .i64 y44.2.2.2.1, .int .i64 y44.2.2.2.2.1, .int .i64 y44.2.2.2.2.2.1, .int .i64 y44.2.2.2.2.2.2.1, .int .i64 y44.2.2.2.2.2.2.2.1, .int .i64 y44.2.2.2.2.2.2.2.2.1, .int .i64 y44.2.2.2.2.2.2.2.2.2.1, .slice a48 y44.2.2.2.2.2.2.2.2.2.2.1.length c49, .slice a50 y44.2.2.2.2.2.2.2.2.2.2.2.1.length c51, .int .i64 y44.2.2.2.2.2.2.2.2.2.2.2.2.1, .slice a52 y44.2.2.2.2.2.2.2.2.2.2.2.2.2.1.1.length c53, .int .i64 y44.2.2.2.2.2.2.2.2.2.2.2.2.2.1.2, .slice a54 y44.2.2.2.2.2.2.2.2.2.2.2.2.2.2.1.length c55, .int .i64 y44.2.2.2.2.2.2.2.2.2.2.2.2.2.2.2.1, .slice a56 y44.2.2.2.2.2.2.2.2.2.2.2.2.2.2.2.2.1.length c57, .int .i64 y44.2.2.2.2.2.2.2.2.2.2.2.2.2.2.2.2.2])), (23, .v (.agg #[.bool x0.1, .int .i64 x0.2.1, .slice a2 x0.2.2.1.1.length c3, .int .i64 x0.2.2.1.2, .int .i64 x0.2.2.2.1, .int .i64 x0.2.2.2.2.1, .int .i64 x0.2.2.2.2.2.1, .int .i64 x0.2.2.2.2.2.2.1, .int .i64 x0.2.2.2.2.2.2.2.1, .int .i64 x0.2.2.2.2.2.2.2.2.1, .int .i64 x0.2.2.2.2.2.2.2.2.2.1, .slice a6 x0.2.2.2.2.2.2.2.2.2.2.1.length c7, .slice a10 x0.2.2.2.2.2.2.2.2.2.2.2.1.length c11, .int .i64 x0.2.2.2.2.2.2.2.2.2.2.2.2.1, .slice a14 x0.2.2.2.2.2.2.2.2.2.2.2.2.2.1.1.length c15, .int .i64 x0.2.2.2.2.2.2.2.2.2.2.2.2.2.1.2, .slice a18 x0.2.2.2.2.2.2.2.2.2.2.2.2.2.2.1.length c19, .int .i64 x0.2.2.2.2.2.2.2.2.2.2.2.2.2.2.2.1, .slice a22 x0.2.2.2.2.2.2.2.2.2.2.2.2.2.2.2.2.1.length c23, .int .i64 x0.2.2.2.2.2.2.2.2.2.2.2.2.2.2.2.2.2]))] ⟨rfl, rfl, rfl, rfl, rfl, rfl, rfl, rfl, trivial⟩ [] rfl rfl ⟨rfl, rfl, trivial⟩ ?_
        refine JA.one 2 (by kernel_rfl) ?_
        refine JK.call rfl rfl rfl rfl (ok_l_toEd x0 a2 c3 x0.2.2.1.1.length rfl a6 c7 x0.2.2.2.2.2.2.2.2.2.2.1.length rfl a10 c11 x0.2.2.2.2.2.2.2.2.2.2.2.1.length rfl a14 c15 x0.2.2.2.2.2.2.2.2.2.2.2.2.2.1.1.length rfl a18 c19 x0.2.2.2.2.2.2.2.2.2.2.2.2.2.2.1.length rfl a22 c23 x0.2.2.2.2.2.2.2.2.2.2.2.2.2.2.2.2.1.length rfl _ hy61) rfl [0, 1, 2, 3, 4, 5] rfl rfl ?_
        rintro ⟨a62, c63, a64, c65, a66, c67, a68, c69, a70, c71, a72, c73⟩ -
        refine JA.next ⟨rfl, rfl, rfl, rfl, rfl, rfl, rfl, rfl, trivial⟩ [] rfl ?_
        refine JA.one 3 (by kernel_rfl) ?_
        refine JK.call rfl rfl rfl rfl (ok_l_eqEd y44 y60 a46 c47 y44.2.2.1.1.length rfl a48 c49 y44.2.2.2.2.2.2.2.2.2.2.1.length rfl a50 c51 y44.2.2.2.2.2.2.2.2.2.2.2.1.length rfl a52 c53 y44.2.2.2.2.2.2.2.2.2.2.2.2.2.1.1.length rfl a54 c55 y44.2.2.2.2.2.2.2.2.2.2.2.2.2.2.1.length rfl a56 c57 y44.2.2.2.2.2.2.2.2.2.2.2.2.2.2.2.2.1.length rfl a62 c63 y60.2.2.1.1.length rfl a64 c65 y60.2.2.2.2.2.2.2.2.2.2.1.length rfl a66 c67 y60.2.2.2.2.2.2.2.2.2.2.2.1.length rfl a68 c69 y60.2.2.2.2.2.2.2.2.2.2.2.2.2.1.1.length rfl a70 c71 y60.2.2.2.2.2.2.2.2.2.2.2.2.2.2.1.length rfl a72 c73 y60.2.2.2.2.2.2.2.2.2.2.2.2.2.2.2.2.1.length rfl _ hy75) rfl [12, 13, 14, 15, 16, 17, 6, 7, 8, 9, 10, 11] rfl rfl ?_
        intro _ _
        refine JA.next ⟨rfl, rfl, rfl, rfl, rfl, rfl, rfl, rfl, trivial⟩ [] rfl ?_
        refine JA.reg ttOk panic_cx true 0 [4] rfl (by kernel_rfl) [] [(22, .v (.agg #[.bool y44.1, .int .i64 y44.2.1, .slice a46 y44.2.2.1.1.length c47, .int .i64 y44.2.2.1.2, .int .i64 y44.2.2.2.1, .int .i64 y44.2.2.2.2.1, .int .i64 y44.2.2.2.2.2.1, .int .i64 y44.2.2.2.2.2.2.1, .int .i64 y44.2.2.2.2.2.2.2.1, .int .i64 y44.2.2.2.2.2.2.2.2.1, .int .i64 y44.2.2.2.2.2.2.2.2.2.1, .slice a48 y44.2.2.2.2.2.2.2.2.2.2.1.length c49, .slice a50 y44.2.2.2.2.2.2.2.2.2.2.2.1.length c51, .int .i64 y44.2.2.2.2.2.2.2.2.2.2.2.2.1, .slice a52 y44.2.2.2.2.2.2.2.2.2.2.2.2.2.1.1.length c53, .int .i64 y44.2.2.2.2.2.2.2.2.2.2.2.2.2.1.2, .slice a54 y44.2.2.2.2.2.2.2.2.2.2.2.2.2.2.1.length c55, .int .i64 y44.2.2.2.2.2.2.2.2.2.2.2.2.2.2.2.1, .slice a56 y44.2.2.2.2.2.2.2.2.2.2.2.2.2.2.2.2.1.length c57, .int .i64 y44.2.2.2.2.2.2.2.2.2.2.2.2.2.2.2.2.2])), (23, .v (.agg #[.bool x0.1, .int .i64 x0.2.1, .slice a2 x0.2.2.1.1.length c3, .int .i64 x0.2.2.1.2, .int .i64 x0.2.2.2.1, .int .i64 x0.2.2.2.2.1, .int .i64 x0.2.2.2.2.2.1, .int .i64 x0.2.2.2.2.2.2.1, .int .i64 x0.2.2.2.2.2.2.2.1, .int .i64 x0.2.2.2.2.2.2.2.2.1, .int .i64 x0.2.2.2.2.2.2.2.2.2.1, .slice a6 x0.2.2.2.2.2.2.2.2.2.2.1.length c7, .slice a10 x0.2.2.2.2.2.2.2.2.2.2.2.1.length c11, .int .i64 x0.2.2.2.2.2.2.2.2.2.2.2.2.1, .slice a14 x0.2.2.2.2.2.2.2.2.2.2.2.2.2.1.1.length c15, .int .i64 x0.2.2.2.2.2.2.2.2.2.2.2.2.2.1.2, .slice a18 x0.2.2.2.2.2.2.2.2.2.2.2.2.2.2.1.length c19, .int .i64 x0.2.2.2.2.2.2.2.2.2.2.2.2.2.2.2.1, .slice a22 x0.2.2.2.2.2.2.2.2.2.2.2.2.2.2.2.2.1.length c23, .int .i64 x0.2.2.2.2.2.2.2.2.2.2.2.2.2.2.2.2.2])), (24, .v (.agg #[.bool y60.1, .int .i64 y60.2.1, .slice a62 y60.2.2.1.1.length c63, .int .i64 y60.2.2.1.2, .int .i64 y60.2.2.2.1, .int .i64 y60.2.2.2.2.1, .int .i64 y60.2.2.2.2.2.1, .int .i64 y60.2.2.2.2.2.2.1, .int .i64 y60.2.2.2.2.2.2.2.1, .int .i64 y60.2.2.2.2.2.2.2.2.1, .int .i64 y60.2.2.2.2.2.2.2.2.2.1, .slice a64 y60.2.2.2.2.2.2.2.2.2.2.1.length c65, .slice a66 y60.2.2.2.2.2.2.2.2.2.2.2.1.length c67, .int .i64 y60.2.2.2.2.2.2.2.2.2.2.2.2.1, .slice a68 y60.2.2.2.2.2.2.2.2.2.2.2.2.2.1.1.length c69, .int .i64 y60.2.2.2.2.2.2.2.2.2.2.2.2.2.1.2, .slice a70 y60.2.2.2.2.2.2.2.2.2.2.2.2.2.2.1.length c71, .int .i64 y60.2.2.2.2.2.2.2.2.2.2.2.2.2.2.2.1, .slice a72 y60.2.2.2.2.2.2.2.2.2.2.2.2.2.2.2.2.1.length c73, .int .i64 y60.2.2.2.2.2.2.2.2.2.2.2.2.2.2.2.2.2])), (25, .v (.bool y74)), (26, .v (.bool (!y74)))] ⟨rfl, rfl, rfl, rfl, rfl, rfl, rfl, rfl, trivial⟩ [] rfl rfl ⟨rfl, rfl, rfl, rfl, rfl, trivial⟩ ?_
        refine JA.done (by kernel_rfl) ?_
        refine JS.boxes (B' := .nil) trivial ?_
        refine JS.cond rfl (fun ht80 => ?_) (fun ht80 => ?_)
        · have h := condT h ht80
          refine JS.seq ?_
          refine JS.region ?_
          refine JO.reg ttOk 1 [] [] [(2, .v (.bool false))] _ rfl ⟨⟨rfl, trivial⟩, rfl⟩ ?_
          refine JO.done rfl ?_
          cases h
          exact JS.ret ttOk () trivial rfl rfl [] rfl
        · have h := condF h ht80
          refine JS.skip ?_
          refine JS.seq ?_
          refine JS.region ?_
          refine JO.reg ttOk 1 [] [] [(2, .v (.bool true))] _ rfl ⟨⟨rfl, trivial⟩, rfl⟩ ?_
          refine JO.done rfl ?_
          cases h
          exact JS.ret ttOk () trivial rfl rfl [] rfl

end
end Go.Eng
