/- The walks of the functions that FnExactChange reaches: what each computes, as a plain function (M_..), and that the model computes it (ok_..). Condition of each: that the plain function answers. -/
import Derived.Test.YtamjkgjmefknkaaGreatFnExactChangeWalkA
set_option linter.unusedVariables false
set_option linter.unusedSimpArgs false
namespace Go.Eng
open Go Go.Proofs
noncomputable section

def M_s_l24Insert (x0 : Bool × Int × (List Int × Int) × Int × Int × Int × Int × Int × Int × Int × List (List Int) × (List (List Int × Int)) × Int × (List Int × Int) × List Int × Int × List Int × Int) (x1 : Int) : Option ((Bool × Int × (List Int × Int) × Int × Int × Int × Int × Int × Int × Int × List (List Int) × (List (List Int × Int)) × Int × (List Int × Int) × List Int × Int × List Int × Int) × Int) :=
  (bindO (M_s_l23Go x0 x1) fun (y27, y28) =>
  (joinO (fun ((x45, x46) : Int × Int) =>
  some ((y27.1, x45, (y27.2.2.1.1, x46), y27.2.2.2.1, y27.2.2.2.2.1, y27.2.2.2.2.2.1, y27.2.2.2.2.2.2.1, y27.2.2.2.2.2.2.2.1, y27.2.2.2.2.2.2.2.2.1, y27.2.2.2.2.2.2.2.2.2.1, y27.2.2.2.2.2.2.2.2.2.2.1, y27.2.2.2.2.2.2.2.2.2.2.2.1, y27.2.2.2.2.2.2.2.2.2.2.2.2.1, y27.2.2.2.2.2.2.2.2.2.2.2.2.2.1, y27.2.2.2.2.2.2.2.2.2.2.2.2.2.2.1, y27.2.2.2.2.2.2.2.2.2.2.2.2.2.2.2.1, y27.2.2.2.2.2.2.2.2.2.2.2.2.2.2.2.2), y28)) fun j47 =>
  (bif (decide (y28 = 0)) then
  (bindO (M_s_l08Clamp x1 (y27.2.2.1.1.length : Int)) fun (y42 : Int) =>
  j47 (1, y42))
  else
  j47 (y27.2.1, y27.2.2.1.2))))

theorem ok_s_l24Insert (x0 : Bool × Int × (List Int × Int) × Int × Int × Int × Int × Int × Int × Int × List (List Int) × (List (List Int × Int)) × Int × (List Int × Int) × List Int × Int × List Int × Int) (x1 : Int) (a3 : Option Addr) (c4 : Nat) (l5 : Nat) (hl6 : x0.2.2.1.1.length = l5) (a7 : Option Addr) (c8 : Nat) (l9 : Nat) (hl10 : x0.2.2.2.2.2.2.2.2.2.2.1.length = l9) (a11 : Option Addr) (c12 : Nat) (l13 : Nat) (hl14 : x0.2.2.2.2.2.2.2.2.2.2.2.1.length = l13) (a15 : Option Addr) (c16 : Nat) (l17 : Nat) (hl18 : x0.2.2.2.2.2.2.2.2.2.2.2.2.2.1.1.length = l17) (a19 : Option Addr) (c20 : Nat) (l21 : Nat) (hl22 : x0.2.2.2.2.2.2.2.2.2.2.2.2.2.2.1.length = l21) (a23 : Option Addr) (c24 : Nat) (l25 : Nat) (hl26 : x0.2.2.2.2.2.2.2.2.2.2.2.2.2.2.2.2.1.length = l25) (r : (Bool × Int × (List Int × Int) × Int × Int × Int × Int × Int × Int × Int × List (List Int) × (List (List Int × Int)) × Int × (List Int × Int) × List Int × Int × List Int × Int) × Int) (h : M_s_l24Insert x0 x1 = some r) :
    FC Tryz.prog 53 [.agg #[.bool x0.1, .int .i64 x0.2.1, .slice a3 l5 c4, .int .i64 x0.2.2.1.2, .int .i64 x0.2.2.2.1, .int .i64 x0.2.2.2.2.1, .int .i64 x0.2.2.2.2.2.1, .int .i64 x0.2.2.2.2.2.2.1, .int .i64 x0.2.2.2.2.2.2.2.1, .int .i64 x0.2.2.2.2.2.2.2.2.1, .int .i64 x0.2.2.2.2.2.2.2.2.2.1, .slice a7 l9 c8, .slice a11 l13 c12, .int .i64 x0.2.2.2.2.2.2.2.2.2.2.2.2.1, .slice a15 l17 c16, .int .i64 x0.2.2.2.2.2.2.2.2.2.2.2.2.2.1.2, .slice a19 l21 c20, .int .i64 x0.2.2.2.2.2.2.2.2.2.2.2.2.2.2.2.1, .slice a23 l25 c24, .int .i64 x0.2.2.2.2.2.2.2.2.2.2.2.2.2.2.2.2.2], .int .i64 x1] [⟨(.int .i64), ⟨a3, l5, c4⟩, x0.2.2.1.1⟩, ⟨(.sl (.int .i64)), ⟨a7, l9, c8⟩, x0.2.2.2.2.2.2.2.2.2.2.1⟩, ⟨(.pair (.sl (.int .i64)) (.int .i64)), ⟨a11, l13, c12⟩, x0.2.2.2.2.2.2.2.2.2.2.2.1⟩, ⟨(.int .i64), ⟨a15, l17, c16⟩, x0.2.2.2.2.2.2.2.2.2.2.2.2.2.1.1⟩, ⟨(.int .i64), ⟨a19, l21, c20⟩, x0.2.2.2.2.2.2.2.2.2.2.2.2.2.2.1⟩, ⟨(.int .i64), ⟨a23, l25, c24⟩, x0.2.2.2.2.2.2.2.2.2.2.2.2.2.2.2.2.1⟩] (fun _ : Option Addr × Nat × Option Addr × Nat × Option Addr × Nat × Option Addr × Nat × Option Addr × Nat × Option Addr × Nat => True) (fun q => .tuple #[.agg (cl42 r.1 q.1 q.2.1 q.2.2.1 q.2.2.2.1 q.2.2.2.2.1 q.2.2.2.2.2.1 q.2.2.2.2.2.2.1 q.2.2.2.2.2.2.2.1 q.2.2.2.2.2.2.2.2.1 q.2.2.2.2.2.2.2.2.2.1 q.2.2.2.2.2.2.2.2.2.2.1 q.2.2.2.2.2.2.2.2.2.2.2).toArray, .int .i64 r.2]) (fun q => [⟨(.int .i64), ⟨q.1, r.1.2.2.1.1.length, q.2.1⟩, r.1.2.2.1.1⟩, ⟨(.sl (.int .i64)), ⟨q.2.2.1, r.1.2.2.2.2.2.2.2.2.2.2.1.length, q.2.2.2.1⟩, r.1.2.2.2.2.2.2.2.2.2.2.1⟩, ⟨(.pair (.sl (.int .i64)) (.int .i64)), ⟨q.2.2.2.2.1, r.1.2.2.2.2.2.2.2.2.2.2.2.1.length, q.2.2.2.2.2.1⟩, r.1.2.2.2.2.2.2.2.2.2.2.2.1⟩, ⟨(.int .i64), ⟨q.2.2.2.2.2.2.1, r.1.2.2.2.2.2.2.2.2.2.2.2.2.2.1.1.length, q.2.2.2.2.2.2.2.1⟩, r.1.2.2.2.2.2.2.2.2.2.2.2.2.2.1.1⟩, ⟨(.int .i64), ⟨q.2.2.2.2.2.2.2.2.1, r.1.2.2.2.2.2.2.2.2.2.2.2.2.2.2.1.length, q.2.2.2.2.2.2.2.2.2.1⟩, r.1.2.2.2.2.2.2.2.2.2.2.2.2.2.2.1⟩, ⟨(.int .i64), ⟨q.2.2.2.2.2.2.2.2.2.2.1, r.1.2.2.2.2.2.2.2.2.2.2.2.2.2.2.2.2.1.length, q.2.2.2.2.2.2.2.2.2.2.2⟩, r.1.2.2.2.2.2.2.2.2.2.2.2.2.2.2.2.2.1⟩]) :=
  by
    subst hl6
    subst hl10
    subst hl14
    subst hl18
    subst hl22
    subst hl26
    refine FC.of (T := TTx) Tryz.call53 Tryz.func53 rfl rfl fun w0 => ?_
    unfold M_s_l24Insert at h
    refine JS.seq (JS.region (JO.regB ttOk 3 [] [7, 8] [(2, .bp 7 0), (4, .bp 8 0)] (.new 7 42 (cl42 x0 a3 c4 a7 c8 a11 c12 a15 c16 a19 c20 a23 c24) (.new 8 42 (cl42 (false, 0, ([], 0), 0, 0, 0, 0, 0, 0, 0, [], [], 0, ([], 0), [], 0, ([], 0)) none 0 none 0 none 0 none 0 none 0 none 0) .nil)) rfl ⟨⟨rfl, rfl, trivial⟩, ⟨rfl, rfl, rfl, rfl, rfl, rfl, rfl, rfl, trivial⟩⟩ (JO.done rfl (JS.seq (JS.region (JO.reg ttOk 2 [] [] [(9, .v (.agg (cl42 x0 a3 c4 a7 c8 a11 c12 a15 c16 a19 c20 a23 c24).toArray)), (10, .v (.int .i64 x1))] _ rfl ⟨⟨rfl, rfl, trivial⟩, rfl⟩ ?_))))))
    obtain ⟨⟨y27, y28⟩, hy29, h⟩ := bindO_some h
    refine JO.call rfl rfl rfl rfl (ok_s_l23Go x0 x1 a3 c4 x0.2.2.1.1.length rfl a7 c8 x0.2.2.2.2.2.2.2.2.2.2.1.length rfl a11 c12 x0.2.2.2.2.2.2.2.2.2.2.2.1.length rfl a15 c16 x0.2.2.2.2.2.2.2.2.2.2.2.2.2.1.1.length rfl a19 c20 x0.2.2.2.2.2.2.2.2.2.2.2.2.2.2.1.length rfl a23 c24 x0.2.2.2.2.2.2.2.2.2.2.2.2.2.2.2.2.1.length rfl _ hy29) rfl [0, 1, 2, 3, 4, 5] rfl rfl ?_
    rintro ⟨a30, c31, a32, c33, a34, c35, a36, c37, a38, c39, a40, c41⟩ -
    refine JO.regB ttOk 6 [] [30] [(6, .bp 30 0), (7, .v (.int .i64 y28))] (.new 8 42 (cl42 (false, 0, ([], 0), 0, 0, 0, 0, 0, 0, 0, [], [], 0, ([], 0), [], 0, ([], 0)) none 0 none 0 none 0 none 0 none 0 none 0) (.new 30 42 (cl42 y27 a30 c31 a32 c33 a34 c35 a36 c37 a38 c39 a40 c41) .nil)) rfl ⟨⟨rfl, rfl, trivial⟩, ⟨rfl, rfl, rfl, rfl, rfl, rfl, rfl, rfl, trivial⟩⟩ (JO.done rfl ?_)
    obtain ⟨j47, hj51, h⟩ := joinO_some h
    refine JS.seqJ (ι := Int × Int) ⟨fun z => j47 (z.1, z.2) = some r, fun z => [(4, .bp 8 0), (6, .bp 30 0), (7, .v (.int .i64 y28))], fun z => (.new 8 42 (cl42 (false, 0, ([], 0), 0, 0, 0, 0, 0, 0, 0, [], [], 0, ([], 0), [], 0, ([], 0)) none 0 none 0 none 0 none 0 none 0 none 0) (.new 30 42 (cl42 (y27.1, z.1, (y27.2.2.1.1, z.2), y27.2.2.2.1, y27.2.2.2.2.1, y27.2.2.2.2.2.1, y27.2.2.2.2.2.2.1, y27.2.2.2.2.2.2.2.1, y27.2.2.2.2.2.2.2.2.1, y27.2.2.2.2.2.2.2.2.2.1, y27.2.2.2.2.2.2.2.2.2.2.1, y27.2.2.2.2.2.2.2.2.2.2.2.1, y27.2.2.2.2.2.2.2.2.2.2.2.2.1, y27.2.2.2.2.2.2.2.2.2.2.2.2.2.1, y27.2.2.2.2.2.2.2.2.2.2.2.2.2.2.1, y27.2.2.2.2.2.2.2.2.2.2.2.2.2.2.2.1, y27.2.2.2.2.2.2.2.2.2.2.2.2.2.2.2.2) a30 c31 a32 c33 a34 c35 a36 c37 a38 c39 a40 c41) .nil)), fun z => [], fun z => [⟨(.int .i64), ⟨a30, y27.2.2.1.1.length, c31⟩, y27.2.2.1.1⟩, ⟨(.sl (.int .i64)), ⟨a32, y27.2.2.2.2.2.2.2.2.2.2.1.length, c33⟩, y27.2.2.2.2.2.2.2.2.2.2.1⟩, ⟨(.pair (.sl (.int .i64)) (.int .i64)), ⟨a34, y27.2.2.2.2.2.2.2.2.2.2.2.1.length, c35⟩, y27.2.2.2.2.2.2.2.2.2.2.2.1⟩, ⟨(.int .i64), ⟨a36, y27.2.2.2.2.2.2.2.2.2.2.2.2.2.1.1.length, c37⟩, y27.2.2.2.2.2.2.2.2.2.2.2.2.2.1.1⟩, ⟨(.int .i64), ⟨a38, y27.2.2.2.2.2.2.2.2.2.2.2.2.2.2.1.length, c39⟩, y27.2.2.2.2.2.2.2.2.2.2.2.2.2.2.1⟩, ⟨(.int .i64), ⟨a40, y27.2.2.2.2.2.2.2.2.2.2.2.2.2.2.2.2.1.length, c41⟩, y27.2.2.2.2.2.2.2.2.2.2.2.2.2.2.2.2.1⟩], fun z => 0⟩ ?_ ?_
    · refine JS.seq (JS.region (JO.reg ttOk 2 [] [] [(15, .v (.bool (decide (y28 = 0))))] _ rfl ⟨⟨rfl, trivial⟩, rfl⟩ (JO.done rfl ?_)))
      refine JS.cond rfl (fun ht50 => ?_) (fun ht50 => ?_)
      · have h := condT h ht50
        refine JS.seq (JS.region (JO.regB ttOk 2 [] [] [] (.new 8 42 (cl42 (false, 0, ([], 0), 0, 0, 0, 0, 0, 0, 0, [], [], 0, ([], 0), [], 0, ([], 0)) none 0 none 0 none 0 none 0 none 0 none 0) (.new 30 42 (cl42 (y27.1, 1, y27.2.2.1, y27.2.2.2.1, y27.2.2.2.2.1, y27.2.2.2.2.2.1, y27.2.2.2.2.2.2.1, y27.2.2.2.2.2.2.2.1, y27.2.2.2.2.2.2.2.2.1, y27.2.2.2.2.2.2.2.2.2.1, y27.2.2.2.2.2.2.2.2.2.2.1, y27.2.2.2.2.2.2.2.2.2.2.2.1, y27.2.2.2.2.2.2.2.2.2.2.2.2.1, y27.2.2.2.2.2.2.2.2.2.2.2.2.2.1, y27.2.2.2.2.2.2.2.2.2.2.2.2.2.2.1, y27.2.2.2.2.2.2.2.2.2.2.2.2.2.2.2.1, y27.2.2.2.2.2.2.2.2.2.2.2.2.2.2.2.2) a30 c31 a32 c33 a34 c35 a36 c37 a38 c39 a40 c41) .nil)) rfl ⟨trivial, ⟨rfl, rfl, rfl, rfl, rfl, rfl, rfl, rfl, trivial⟩⟩ (JO.done rfl (JS.region (JO.reg ttOk 5 [] [] [(17, .v (.int .i64 x1)), (21, .v (.int .i64 (y27.2.2.1.1.length : Int)))] _ rfl ⟨⟨rfl, rfl, trivial⟩, rfl⟩ ?_)))))
        obtain ⟨y42, hy43, h⟩ := bindO_some h
        refine JO.call rfl rfl rfl rfl (ok_s_l08Clamp x1 (y27.2.2.1.1.length : Int) _ hy43) rfl [] rfl rfl fun _ _ => JO.regB ttOk 3 [] [] [] (.new 8 42 (cl42 (false, 0, ([], 0), 0, 0, 0, 0, 0, 0, 0, [], [], 0, ([], 0), [], 0, ([], 0)) none 0 none 0 none 0 none 0 none 0 none 0) (.new 30 42 (cl42 (y27.1, 1, (y27.2.2.1.1, y42), y27.2.2.2.1, y27.2.2.2.2.1, y27.2.2.2.2.2.1, y27.2.2.2.2.2.2.1, y27.2.2.2.2.2.2.2.1, y27.2.2.2.2.2.2.2.2.1, y27.2.2.2.2.2.2.2.2.2.1, y27.2.2.2.2.2.2.2.2.2.2.1, y27.2.2.2.2.2.2.2.2.2.2.2.1, y27.2.2.2.2.2.2.2.2.2.2.2.2.1, y27.2.2.2.2.2.2.2.2.2.2.2.2.2.1, y27.2.2.2.2.2.2.2.2.2.2.2.2.2.2.1, y27.2.2.2.2.2.2.2.2.2.2.2.2.2.2.2.1, y27.2.2.2.2.2.2.2.2.2.2.2.2.2.2.2.2) a30 c31 a32 c33 a34 c35 a36 c37 a38 c39 a40 c41) .nil)) rfl ⟨trivial, ⟨rfl, rfl, rfl, rfl, rfl, rfl, rfl, rfl, trivial⟩⟩ (JO.done rfl (JS.endJA (1, y42) h ⟨rfl, rfl, rfl, trivial⟩ ⟨rfl, rfl, rfl, rfl, rfl, rfl, rfl, rfl, trivial⟩ [] rfl [0, 1, 2, 3, 4, 5] rfl rfl))
      have h := condF h ht50
      refine JS.skip (JS.endJA (y27.2.1, y27.2.2.1.2) h ⟨rfl, rfl, rfl, trivial⟩ ⟨rfl, rfl, rfl, rfl, rfl, rfl, rfl, rfl, trivial⟩ [] rfl [0, 1, 2, 3, 4, 5] rfl rfl)
    rintro ⟨x45, x46⟩ h
    subst hj51
    refine JS.seq (JS.region (JO.regB ttOk 4 [] [] [(5, .v (.int .i64 y28))] (.new 8 42 (cl42 (y27.1, x45, (y27.2.2.1.1, x46), y27.2.2.2.1, y27.2.2.2.2.1, y27.2.2.2.2.2.1, y27.2.2.2.2.2.2.1, y27.2.2.2.2.2.2.2.1, y27.2.2.2.2.2.2.2.2.1, y27.2.2.2.2.2.2.2.2.2.1, y27.2.2.2.2.2.2.2.2.2.2.1, y27.2.2.2.2.2.2.2.2.2.2.2.1, y27.2.2.2.2.2.2.2.2.2.2.2.2.1, y27.2.2.2.2.2.2.2.2.2.2.2.2.2.1, y27.2.2.2.2.2.2.2.2.2.2.2.2.2.2.1, y27.2.2.2.2.2.2.2.2.2.2.2.2.2.2.2.1, y27.2.2.2.2.2.2.2.2.2.2.2.2.2.2.2.2) a30 c31 a32 c33 a34 c35 a36 c37 a38 c39 a40 c41) .nil) rfl ⟨⟨rfl, trivial⟩, ⟨rfl, rfl, rfl, rfl, trivial⟩⟩ (JO.done rfl ?_)))
    cases h
    exact JS.ret ttOk (a30, c31, a32, c33, a34, c35, a36, c37, a38, c39, a40, c41) trivial rfl rfl [0, 0, 0, 0, 0, 0] rfl

def M_s_RingPut (x0 : List (List Int)) (x1 : List Int) (x2 : Int) : Option (List (List Int) × Bool) :=
  (bindO (M_s_RingOk x0) fun (y12 : Bool) =>
  (callO ((bif (bif (!y12) then true else (decide (x2 < 0))) then true else (decide (2 < x2))) = false) (M_s_l15Piece x1) false fun (y14 : Bool) =>
  (bif (bif (bif (bif (!y12) then true else (decide (x2 < 0))) then true else (decide (2 < x2))) then true else (!y14)) then
  some ([], false)
  else
  (bindO (M_s_l15Copy x0) fun (y17 : List (List Int)) =>
  (bif (decide ((x1.length : Int) = 0)) then
  some (y17, true)
  else
  (guardO (((bif (!(decide (x2 = 0))) then (decide (0 < (x0.length : Int))) else false) = true) → 0 ≤ (0 : Int) ∧ 0 < (x0.length : Int)) <|
  (bif (bif (bif (!(decide (x2 = 0))) then (decide (0 < (x0.length : Int))) else false) then (decide ((W (((at' x0 0).length : Int) + (x1.length : Int))) ≤ 400)) else false) then
  (guardO (0 ≤ (0 : Int) ∧ 0 < (x0.length : Int)) <|
  (bindO (M_s_l13Join (at' x0 0) x1 ([] : List Int)) fun (y33 : List Int) =>
  (joinO (fun (x43 : List Int) =>
  (guardO (0 ≤ (0 : Int) ∧ 0 < (y17.length : Int)) <|
  some ((List.set y17 (Int.toNat 0) x43), true))) fun j46 =>
  (bif (decide (x2 = 2)) then
  (guardO (0 ≤ (0 : Int) ∧ 0 < (x0.length : Int)) <|
  (bindO (M_s_l13Join x1 (at' x0 0) ([] : List Int)) fun (y38 : List Int) =>
  j46 y38))
  else
  j46 y33))))
  else
  (guardO (([] : List Int).length + x1.length ≤ 536870912) <|
  (guardO (([(([] : List Int) ++ x1)] : List (List Int)).length + y17.length ≤ 536870912) <|
  (joinO (fun (x64 : List (List Int)) =>
  some (x64, true)) fun j67 =>
  (bif (decide (6 < ((([(([] : List Int) ++ x1)] : List (List Int)) ++ y17).length : Int))) then
  (guardO (0 ≤ (0 : Int) ∧ (0 : Int) ≤ (6 : Int) ∧ (6 : Int) ≤ ((([(([] : List Int) ++ x1)] : List (List Int)) ++ y17).length : Int)) <|
  j67 (sub' (([(([] : List Int) ++ x1)] : List (List Int)) ++ y17) 0 (6 : Int)))
  else
  j67 (([(([] : List Int) ++ x1)] : List (List Int)) ++ y17))))))))))))

theorem ok_s_RingPut (x0 : List (List Int)) (x1 : List Int) (x2 : Int) (a4 : Option Addr) (c5 : Nat) (l6 : Nat) (hl7 : x0.length = l6) (a8 : Option Addr) (c9 : Nat) (l10 : Nat) (hl11 : x1.length = l10) (r : List (List Int) × Bool) (h : M_s_RingPut x0 x1 x2 = some r) :
    FC Tryz.prog 57 [.agg #[.slice a4 l6 c5], .slice a8 l10 c9, .int .i64 x2] [⟨(.sl (.int .i64)), ⟨a4, l6, c5⟩, x0⟩, ⟨(.int .i64), ⟨a8, l10, c9⟩, x1⟩] (fun _ : Option Addr × Nat => True) (fun q => .tuple #[.agg #[.slice q.1 r.1.length q.2], .bool r.2]) (fun q => [⟨(.sl (.int .i64)), ⟨q.1, r.1.length, q.2⟩, r.1⟩]) :=
  by
    subst hl7
    subst hl11
    refine FC.of (T := TTx) Tryz.call57 Tryz.func57 rfl rfl fun w0 => ?_
    unfold M_s_RingPut at h
    refine JS.seq (JS.region (JO.regB ttOk 3 [] [3, 4] [(3, .bp 3 0), (6, .bp 4 0)] (.new 3 37 [.slice a4 x0.length c5] (.new 4 37 [.slice none 0 0] .nil)) rfl ⟨⟨rfl, rfl, trivial⟩, ⟨rfl, rfl, rfl, rfl, rfl, rfl, rfl, rfl, trivial⟩⟩ (JO.done rfl (JS.seq (JS.seq (JS.region (JO.reg ttOk 1 [] [] [(11, .v (.agg #[.slice a4 x0.length c5]))] _ rfl ⟨⟨rfl, trivial⟩, rfl⟩ ?_)))))))
    obtain ⟨y12, hy13, h⟩ := bindO_some h
    refine JO.call rfl rfl rfl rfl (ok_s_RingOk x0 a4 c5 x0.length rfl _ hy13) rfl [0] rfl rfl fun _ _ => JO.reg ttOk 11 [] [] [(22, .v (.bool (bif (bif (!y12) then true else (decide (x2 < 0))) then true else (decide (2 < x2))))), (23, .cd [(22, false)] (.v (.slice a8 x1.length c9)))] _ rfl ⟨⟨rfl, rfl, trivial⟩, rfl⟩ ?_
    obtain ⟨y14, hy15, -, h⟩ := callO_some h
    refine JO.callg rfl rfl rfl rfl (fun q73 => ok_s_l15Piece x1 a8 c9 x1.length rfl _ (hy15 q73)) rfl [1] rfl rfl (JO.reg ttOk 2 [] [] [(26, .v (.bool (bif (bif (bif (!y12) then true else (decide (x2 < 0))) then true else (decide (2 < x2))) then true else (!y14))))] _ rfl ⟨⟨rfl, trivial⟩, rfl⟩ (JO.done rfl ?_))
    refine JS.cond rfl (fun ht86 => ?_) (fun ht86 => ?_)
    · have h := condT h ht86
      refine JS.seq (JS.region (JO.regB ttOk 3 [] [] [(7, .v (.bool false))] (.new 4 37 [.slice none 0 0] .nil) rfl ⟨⟨rfl, trivial⟩, ⟨rfl, rfl, rfl, rfl, trivial⟩⟩ (JO.done rfl ?_)))
      cases h
      refine JS.nilO (.sl (.int .i64)) Sl.nil rfl rfl (JS.ret ttOk (none, 0) trivial rfl rfl [0] rfl)
    have h := condF h ht86
    refine JS.skip (JS.seq (JS.region (JO.reg ttOk 1 [] [] [(28, .v (.agg #[.slice a4 x0.length c5]))] _ rfl ⟨⟨rfl, trivial⟩, rfl⟩ ?_)))
    obtain ⟨y17, hy18, h⟩ := bindO_some h
    refine JO.call rfl rfl rfl rfl (ok_s_l15Copy x0 a4 c5 x0.length rfl _ hy18) rfl [0] rfl rfl ?_
    rintro ⟨a19, c20⟩ -
    refine JO.regB ttOk 2 [] [14] [(8, .bp 14 0)] (.new 3 37 [.slice a4 x0.length c5] (.new 4 37 [.slice none 0 0] (.new 14 37 [.slice a19 y17.length c20] .nil))) rfl ⟨⟨rfl, trivial⟩, ⟨rfl, rfl, rfl, rfl, rfl, rfl, rfl, rfl, rfl, rfl, rfl, rfl, trivial⟩⟩ (JO.done rfl (JS.seq (JS.seq (JS.region (JO.reg ttOk 3 [] [] [(32, .v (.bool (decide ((x1.length : Int) = 0))))] _ rfl ⟨⟨rfl, trivial⟩, rfl⟩ (JO.done rfl ?_))))))
    refine JS.cond rfl (fun ht85 => ?_) (fun ht85 => ?_)
    · have h := condT h ht85
      refine JS.seq (JS.region (JO.regB ttOk 3 [] [] [(7, .v (.bool true))] (.new 4 37 [.slice a19 y17.length c20] .nil) rfl ⟨⟨rfl, trivial⟩, ⟨rfl, rfl, rfl, rfl, trivial⟩⟩ (JO.done rfl ?_)))
      cases h
      exact JS.ret ttOk (a19, c20) trivial rfl rfl [0] rfl
    have h := condF h ht85
    refine JS.skip (JS.seq (JS.seq (JS.region (JO.know 0 rfl fun hs74 => ?_))))
    obtain ⟨g22, h⟩ := guardO_some h
    refine JO.reg ttOk 13 [] [] [(42, .v (.bool (bif (!(decide (x2 = 0))) then (decide (0 < (x0.length : Int))) else false))), (46, .cd [(42, true)] (.ep ⟨a4, x0.length, c5⟩ (Int.toNat 0 * 1)))] _ rfl ⟨(fun q75 => hs74.ix (g22 q75)), (fun q76 => hs74.fa (g22 q76)), ⟨rfl, rfl, trivial⟩, rfl⟩ (JO.openR 0 rfl (Int.toNat 0) (at' x0 0) rfl fun a25 c26 ys27 hl28 hy29 => JO.loadV ttOk rfl rfl rfl rfl rfl rfl 0 rfl rfl (Int.toNat 0) 0 (Sl.v ⟨a25, (at' x0 0).length, c26⟩) (fun q77 => ⟨hy29 (ltNat (g22 q77)), rfl⟩) rfl rfl rfl (JO.reg ttOk 6 [(W (((at' x0 0).length : Int) + (x1.length : Int)))] [] [(53, .v (.bool (bif (bif (!(decide (x2 = 0))) then (decide (0 < (x0.length : Int))) else false) then (decide ((W (((at' x0 0).length : Int) + (x1.length : Int))) ≤ 400)) else false)))] _ rfl ⟨(fun q78 => ⟨trivial, rfl⟩), ⟨rfl, trivial⟩, rfl⟩ (JO.done rfl ?_)))
    refine JS.cond rfl (fun ht84 => ?_) (fun ht84 => ?_)
    · have h := condT h ht84
      refine JS.seq (JS.region ?_)
      obtain ⟨g32, h⟩ := guardO_some h
      refine JO.reg ttOk 4 [] [] [(57, .ep ⟨a4, x0.length, c5⟩ (Int.toNat 0 * 1))] _ rfl ⟨hs74.ix g32, hs74.fa g32, ⟨rfl, trivial⟩, rfl⟩ (JO.loadV ttOk rfl rfl rfl rfl rfl rfl 0 rfl rfl (Int.toNat 0) 0 (Sl.v ⟨a25, (at' x0 0).length, c26⟩) ⟨hy29 (ltNat g32), rfl⟩ rfl rfl rfl (JO.reg ttOk 1 [] [] [(59, .v (.slice a8 x1.length c9))] _ rfl ⟨⟨rfl, trivial⟩, rfl⟩ ?_))
      obtain ⟨y33, hy34, h⟩ := bindO_some h
      refine JO.nilR (.int .i64) Sl.nil rfl rfl (JO.call rfl rfl rfl rfl (ok_s_l13Join (at' x0 0) x1 ([] : List Int) a25 c26 ((at' x0 0).length) rfl a8 c9 x1.length rfl none 0 (([] : List Int).length) rfl _ hy34) rfl [2, 4, 0] rfl rfl ?_)
      rintro ⟨a35, c36⟩ -
      refine JO.reg ttOk 1 [] [] [(9, .v (.slice a35 y33.length c36))] _ rfl ⟨⟨rfl, trivial⟩, rfl⟩ (JO.done rfl ?_)
      obtain ⟨j46, hj81, h⟩ := joinO_some h
      refine JS.seqJ (ι := List Int × Option Addr × Nat) ⟨fun z => j46 z.1 = some r, fun z => [(6, .bp 4 0), (8, .bp 14 0), (9, .v (.slice z.2.1 z.1.length z.2.2))], fun z => (.new 4 37 [.slice none 0 0] (.new 14 37 [.slice a19 y17.length c20] .nil)), fun z => [], fun z => [⟨(.int .i64), ⟨z.2.1, z.1.length, z.2.2⟩, z.1⟩, ⟨(.sl (.int .i64)), ⟨a19, y17.length, c20⟩, y17⟩], fun z => 0⟩ ?_ ?_
      · refine JS.seq (JS.region (JO.reg ttOk 2 [] [] [(62, .v (.bool (decide (x2 = 2))))] _ rfl ⟨⟨rfl, trivial⟩, rfl⟩ (JO.done rfl ?_)))
        refine JS.cond rfl (fun ht79 => ?_) (fun ht79 => ?_)
        · have h := condT h ht79
          refine JS.region ?_
          obtain ⟨g37, h⟩ := guardO_some h
          refine JO.reg ttOk 5 [] [] [(63, .v (.slice a8 x1.length c9)), (67, .ep ⟨a4, x0.length, c5⟩ (Int.toNat 0 * 1))] _ rfl ⟨hs74.ix g37, hs74.fa g37, ⟨rfl, rfl, trivial⟩, rfl⟩ (JO.loadV ttOk rfl rfl rfl rfl rfl rfl 1 rfl rfl (Int.toNat 0) 0 (Sl.v ⟨a25, (at' x0 0).length, c26⟩) ⟨hy29 (ltNat g37), rfl⟩ rfl rfl rfl ?_)
          obtain ⟨y38, hy39, h⟩ := bindO_some h
          refine JO.nilR (.int .i64) Sl.nil rfl rfl (JO.call rfl rfl rfl rfl (ok_s_l13Join x1 (at' x0 0) ([] : List Int) a8 c9 x1.length rfl a25 c26 ((at' x0 0).length) rfl none 0 (([] : List Int).length) rfl _ hy39) rfl [5, 3, 0] rfl rfl ?_)
          rintro ⟨a40, c41⟩ -
          refine JO.reg ttOk 1 [] [] [(9, .v (.slice a40 y38.length c41))] _ rfl ⟨⟨rfl, trivial⟩, rfl⟩ (JO.done rfl (JS.endJ (y38, a40, c41) h ⟨rfl, rfl, rfl, trivial⟩ ⟨rfl, rfl, rfl, rfl, rfl, rfl, rfl, rfl, trivial⟩ [] rfl [0, 1] rfl))
        have h := condF h ht79
        refine JS.skip (JS.endJ (y33, a35, c36) h ⟨rfl, rfl, rfl, trivial⟩ ⟨rfl, rfl, rfl, rfl, rfl, rfl, rfl, rfl, trivial⟩ [] rfl [0, 0] rfl)
      rintro ⟨x43, a44, c45⟩ h
      subst hj81
      refine JS.seq (JS.region (JO.know 1 rfl fun hs80 => ?_))
      obtain ⟨g49, h⟩ := guardO_some h
      refine JO.reg ttOk 5 [] [] [(73, .v (.agg #[.slice a44 x43.length c45])), (74, .ep ⟨a19, y17.length, c20⟩ (Int.toNat 0 * 1))] _ rfl ⟨hs80.ix g49, ⟨rfl, rfl, trivial⟩, rfl⟩ (JO.storeE ttOk rfl rfl rfl rfl rfl rfl rfl rfl rfl [1, 0] (fs := [⟨(.int .i64), ⟨a44, x43.length, c45⟩, x43⟩]) rfl (Int.toNat 0) 0 (at' y17 0) x43 ⟨at_some g49, rfl⟩ ⟨rfl, rfl, rfl, rfl⟩ (JO.done rfl (JS.seq (JS.region (JO.regB ttOk 3 [] [] [(7, .v (.bool true))] (.new 4 37 [.slice a19 y17.length c20] .nil) rfl ⟨⟨rfl, trivial⟩, ⟨rfl, rfl, rfl, rfl, trivial⟩⟩ (JO.done rfl ?_))))))
      cases h
      exact JS.ret ttOk (a19, c20) trivial rfl (by simp only [List.length_set, List.length_replicate, pickO, getF]; rfl) [0] (by simp only [List.length_set, List.length_replicate, pickO, getF]; rfl)
    have h := condF h ht84
    refine JS.skip (JS.seq ?_)
    obtain ⟨g52, h⟩ := guardO_some h
    obtain ⟨g56, h⟩ := guardO_some h
    refine JS.regionA rfl (.new 14 37 [.slice a19 y17.length c20] .nil) [] [7, 8] ⟨rfl, rfl, rfl, rfl, trivial⟩ rfl (fun be59 => ?_)
    refine JA.regL ttOk panic_cx 7 [1, 5] rfl (by kernel_rfl) [] [(77, .v (.slice a8 x1.length c9)), (81, .bp 14 0)] rfl ⟨rfl, rfl, trivial⟩ (JA.reg ttOk panic_cx true 6 [6] rfl (by kernel_rfl) [] [(77, .v (.slice a8 x1.length c9)), (81, .bp 14 0), (82, .v (.slice a19 y17.length c20))] ⟨rfl, rfl, rfl, rfl, trivial⟩ [] rfl rfl ⟨rfl, rfl, rfl, trivial⟩ (JA.one 0 (by kernel_rfl) (JK.buildSlice ttOk rfl rfl rfl rfl rfl rfl rfl rfl rfl rfl rfl [] rfl (.int .i64) [] ⟨rfl, rfl⟩ rfl rfl fun a51 => JA.next ⟨rfl, rfl, rfl, rfl, trivial⟩ [] rfl (JA.one 2 (by kernel_rfl) (JK.appendR' ttOk rfl rfl rfl rfl ⟨rfl, rfl, rfl, rfl, trivial, rfl, rfl, rfl, rfl⟩ rfl rfl rfl [0] rfl 3 rfl g52 rfl fun a53 c54 => JA.next ⟨rfl, rfl, rfl, rfl, trivial⟩ [] rfl (JA.regL ttOk panic_cx 3 [3] rfl (by kernel_rfl) [] [(76, .v (.slice a51 ([] : List Int).length ([] : List Int).length)), (77, .v (.slice a8 x1.length c9)), (78, .v (.slice a53 (([] : List Int) ++ x1).length c54)), (79, .v (.agg #[.slice a53 (([] : List Int) ++ x1).length c54])), (81, .bp 14 0), (82, .v (.slice a19 y17.length c20))] rfl ⟨rfl, rfl, rfl, rfl, rfl, rfl, trivial⟩ (JA.one 4 (by kernel_rfl) (JK.buildSlice ttOk rfl rfl rfl rfl rfl rfl rfl rfl rfl rfl rfl [0] rfl (.sl (.int .i64)) [(([] : List Int) ++ x1)] ⟨rfl, rfl, rfl⟩ rfl rfl fun a55 => JA.next ⟨rfl, rfl, rfl, rfl, trivial⟩ [] rfl (JA.one 7 (by kernel_rfl) (JK.appendO' ttOk rfl rfl rfl rfl ⟨rfl, rfl, rfl, rfl, trivial, rfl, rfl, rfl, rfl⟩ rfl rfl [0, 0] rfl g56 rfl fun a57 c58 => JA.nextL rfl (JA.regL ttOk panic_cx 0 [8] rfl (by kernel_rfl) [] [(10, .v (.slice a57 (([(([] : List Int) ++ x1)] : List (List Int)) ++ y17).length c58)), (76, .v (.slice a51 ([] : List Int).length ([] : List Int).length)), (77, .v (.slice a8 x1.length c9)), (78, .v (.slice a53 (([] : List Int) ++ x1).length c54)), (79, .v (.agg #[.slice a53 (([] : List Int) ++ x1).length c54])), (80, .v (.slice a55 ([(([] : List Int) ++ x1)] : List (List Int)).length ([(([] : List Int) ++ x1)] : List (List Int)).length)), (81, .bp 14 0), (82, .v (.slice a19 y17.length c20)), (83, .v (.slice a57 (([(([] : List Int) ++ x1)] : List (List Int)) ++ y17).length c58))] rfl ⟨rfl, rfl, rfl, rfl, rfl, rfl, rfl, rfl, rfl, trivial⟩ (JA.done (by kernel_rfl) (JS.boxes (B' := (.new 4 37 [.slice none 0 0] .nil)) ⟨rfl, rfl, rfl, rfl, trivial⟩ ?_)))))))))))))
    obtain ⟨j67, hj83, h⟩ := joinO_some h
    refine JS.seqJ (ι := List (List Int) × Option Addr × Nat) ⟨fun z => j67 z.1 = some r, fun z => [(6, .bp 4 0), (10, .v (.slice z.2.1 z.1.length z.2.2))], fun z => (.new 4 37 [.slice none 0 0] .nil), fun z => [], fun z => [⟨(.sl (.int .i64)), ⟨z.2.1, z.1.length, z.2.2⟩, z.1⟩], fun z => 0⟩ ?_ ?_
    · refine JS.seq (JS.region (JO.reg ttOk 3 [] [] [(86, .v (.bool (decide (6 < ((([(([] : List Int) ++ x1)] : List (List Int)) ++ y17).length : Int)))))] _ rfl ⟨⟨rfl, trivial⟩, rfl⟩ (JO.done rfl ?_)))
      refine JS.cond rfl (fun ht82 => ?_) (fun ht82 => ?_)
      · have h := condT h ht82
        refine JS.region (JO.reg ttOk 1 [] [] [(87, .v (.slice a57 (([(([] : List Int) ++ x1)] : List (List Int)) ++ y17).length c58))] _ rfl ⟨⟨rfl, trivial⟩, rfl⟩ ?_)
        obtain ⟨g60, h⟩ := guardO_some h
        refine JO.sliceO' ttOk rfl rfl rfl rfl rfl rfl rfl rfl [0] rfl (0 : Int) (6 : Int) rfl rfl g60 rfl fun a61 c62 => JO.reg ttOk 1 [] [] [(10, .v (.slice a61 (sub' (([(([] : List Int) ++ x1)] : List (List Int)) ++ y17) 0 (6 : Int)).length c62))] _ rfl ⟨⟨rfl, trivial⟩, rfl⟩ (JO.done rfl (JS.endJ ((sub' (([(([] : List Int) ++ x1)] : List (List Int)) ++ y17) 0 (6 : Int)), a61, c62) h ⟨rfl, rfl, trivial⟩ ⟨rfl, rfl, rfl, rfl, trivial⟩ [] rfl [0] rfl))
      have h := condF h ht82
      refine JS.skip (JS.endJ ((([(([] : List Int) ++ x1)] : List (List Int)) ++ y17), a57, c58) h ⟨rfl, rfl, trivial⟩ ⟨rfl, rfl, rfl, rfl, trivial⟩ [] rfl [0] rfl)
    rintro ⟨x64, a65, c66⟩ h
    subst hj83
    refine JS.seq (JS.region (JO.regB ttOk 4 [] [] [(7, .v (.bool true))] (.new 4 37 [.slice a65 x64.length c66] .nil) rfl ⟨⟨rfl, trivial⟩, ⟨rfl, rfl, rfl, rfl, trivial⟩⟩ (JO.done rfl ?_)))
    cases h
    exact JS.ret ttOk (a65, c66) trivial rfl rfl [0] rfl

def M_s_Change (x0 : Bool × Int × (List Int × Int) × Int × Int × Int × Int × Int × Int × Int × List (List Int) × (List (List Int × Int)) × Int × (List Int × Int) × List Int × Int × List Int × Int) (x1 : Int) (x2 : Int) (x3 : Int) : Option ((Bool × Int × (List Int × Int) × Int × Int × Int × Int × Int × Int × Int × List (List Int) × (List (List Int × Int)) × Int × (List Int × Int) × List Int × Int × List Int × Int) × Int) :=
  (bindO (M_s_EdOk x0) fun (y29 : Bool) =>
  (callO ((bif (bif (!y29) then true else (!(decide (x0.2.1 = 2)))) then true else (bif (bif (!(decide (x1 = 100))) then (!(decide (x1 = 99))) else false) then (!(decide (x1 = 121))) else false)) = false) (M_s_l24Cut x0 x2 x3) false fun (y31 : Bool) =>
  (bif (bif (bif (bif (!y29) then true else (!(decide (x0.2.1 = 2)))) then true else (bif (bif (!(decide (x1 = 100))) then (!(decide (x1 = 99))) else false) then (!(decide (x1 = 121))) else false)) then true else (!y31)) then
  some ((false, 0, ([], 0), 0, 0, 0, 0, 0, 0, 0, [], [], 0, ([], 0), [], 0, ([], 0)), 0)
  else
  (bif (bif (decide (x2 = x3)) then (decide (x1 = 99)) else false) then
  (bindO (M_s_l24Insert x0 x2) fun (y34, y35) =>
  some (y34, y35))
  else
  (bif (decide (x2 = x3)) then
  (bindO (M_s_l23Bell x0) fun (y49, y50) =>
  some (y49, y50))
  else
  (bindO (M_s_LineCut x0.2.2.1 x2 x3) fun (y64, y65, y66) =>
  (bindO (M_s_l21Copy x0) fun (y72 : Bool × Int × (List Int × Int) × Int × Int × Int × Int × Int × Int × Int × List (List Int) × (List (List Int × Int)) × Int × (List Int × Int) × List Int × Int × List Int × Int) =>
  (bindO (M_s_RingPut x0.2.2.2.2.2.2.2.2.2.2.1 y65 0) fun (y86, y87) =>
  (bif (decide (x1 = 121)) then
  (bindO (M_s_l23Go (y72.1, y72.2.1, y72.2.2.1, y72.2.2.2.1, y72.2.2.2.2.1, y72.2.2.2.2.2.1, y72.2.2.2.2.2.2.1, y72.2.2.2.2.2.2.2.1, y72.2.2.2.2.2.2.2.2.1, y72.2.2.2.2.2.2.2.2.2.1, y86, y72.2.2.2.2.2.2.2.2.2.2.2.1, y72.2.2.2.2.2.2.2.2.2.2.2.2.1, y72.2.2.2.2.2.2.2.2.2.2.2.2.2.1, y72.2.2.2.2.2.2.2.2.2.2.2.2.2.2.1, y72.2.2.2.2.2.2.2.2.2.2.2.2.2.2.2.1, y72.2.2.2.2.2.2.2.2.2.2.2.2.2.2.2.2) x2) fun (y91, y92) =>
  some (y91, y92))
  else
  (bindO (M_s_LineGo y64 x2) fun (y106, y107) =>
  (bindO (M_s_l23Set (y72.1, y72.2.1, y72.2.2.1, y72.2.2.2.1, y72.2.2.2.2.1, y72.2.2.2.2.2.1, y72.2.2.2.2.2.2.1, y72.2.2.2.2.2.2.2.1, y72.2.2.2.2.2.2.2.2.1, y72.2.2.2.2.2.2.2.2.2.1, y86, y72.2.2.2.2.2.2.2.2.2.2.2.1, y72.2.2.2.2.2.2.2.2.2.2.2.2.1, y72.2.2.2.2.2.2.2.2.2.2.2.2.2.1, y72.2.2.2.2.2.2.2.2.2.2.2.2.2.2.1, y72.2.2.2.2.2.2.2.2.2.2.2.2.2.2.2.1, y72.2.2.2.2.2.2.2.2.2.2.2.2.2.2.2.2) y106 true 0) fun (y111, y112) =>
  (joinO (fun ((x127, x128) : Int × Int) =>
  some ((y111.1, x127, (y111.2.2.1.1, x128), y111.2.2.2.1, y111.2.2.2.2.1, y111.2.2.2.2.2.1, y111.2.2.2.2.2.2.1, y111.2.2.2.2.2.2.2.1, y111.2.2.2.2.2.2.2.2.1, y111.2.2.2.2.2.2.2.2.2.1, y111.2.2.2.2.2.2.2.2.2.2.1, y111.2.2.2.2.2.2.2.2.2.2.2.1, y111.2.2.2.2.2.2.2.2.2.2.2.2.1, y111.2.2.2.2.2.2.2.2.2.2.2.2.2.1, y111.2.2.2.2.2.2.2.2.2.2.2.2.2.2.1, y111.2.2.2.2.2.2.2.2.2.2.2.2.2.2.2.1, y111.2.2.2.2.2.2.2.2.2.2.2.2.2.2.2.2), y112)) fun j129 =>
  (bif (decide (x1 = 99)) then
  j129 (1, x2)
  else
  j129 (y111.2.1, y111.2.2.1.2))))))))))))))

theorem ok_s_Change (x0 : Bool × Int × (List Int × Int) × Int × Int × Int × Int × Int × Int × Int × List (List Int) × (List (List Int × Int)) × Int × (List Int × Int) × List Int × Int × List Int × Int) (x1 : Int) (x2 : Int) (x3 : Int) (a5 : Option Addr) (c6 : Nat) (l7 : Nat) (hl8 : x0.2.2.1.1.length = l7) (a9 : Option Addr) (c10 : Nat) (l11 : Nat) (hl12 : x0.2.2.2.2.2.2.2.2.2.2.1.length = l11) (a13 : Option Addr) (c14 : Nat) (l15 : Nat) (hl16 : x0.2.2.2.2.2.2.2.2.2.2.2.1.length = l15) (a17 : Option Addr) (c18 : Nat) (l19 : Nat) (hl20 : x0.2.2.2.2.2.2.2.2.2.2.2.2.2.1.1.length = l19) (a21 : Option Addr) (c22 : Nat) (l23 : Nat) (hl24 : x0.2.2.2.2.2.2.2.2.2.2.2.2.2.2.1.length = l23) (a25 : Option Addr) (c26 : Nat) (l27 : Nat) (hl28 : x0.2.2.2.2.2.2.2.2.2.2.2.2.2.2.2.2.1.length = l27) (r : (Bool × Int × (List Int × Int) × Int × Int × Int × Int × Int × Int × Int × List (List Int) × (List (List Int × Int)) × Int × (List Int × Int) × List Int × Int × List Int × Int) × Int) (h : M_s_Change x0 x1 x2 x3 = some r) :
    FC Tryz.prog 13 [.agg #[.bool x0.1, .int .i64 x0.2.1, .slice a5 l7 c6, .int .i64 x0.2.2.1.2, .int .i64 x0.2.2.2.1, .int .i64 x0.2.2.2.2.1, .int .i64 x0.2.2.2.2.2.1, .int .i64 x0.2.2.2.2.2.2.1, .int .i64 x0.2.2.2.2.2.2.2.1, .int .i64 x0.2.2.2.2.2.2.2.2.1, .int .i64 x0.2.2.2.2.2.2.2.2.2.1, .slice a9 l11 c10, .slice a13 l15 c14, .int .i64 x0.2.2.2.2.2.2.2.2.2.2.2.2.1, .slice a17 l19 c18, .int .i64 x0.2.2.2.2.2.2.2.2.2.2.2.2.2.1.2, .slice a21 l23 c22, .int .i64 x0.2.2.2.2.2.2.2.2.2.2.2.2.2.2.2.1, .slice a25 l27 c26, .int .i64 x0.2.2.2.2.2.2.2.2.2.2.2.2.2.2.2.2.2], .int .i64 x1, .int .i64 x2, .int .i64 x3] [⟨(.int .i64), ⟨a5, l7, c6⟩, x0.2.2.1.1⟩, ⟨(.sl (.int .i64)), ⟨a9, l11, c10⟩, x0.2.2.2.2.2.2.2.2.2.2.1⟩, ⟨(.pair (.sl (.int .i64)) (.int .i64)), ⟨a13, l15, c14⟩, x0.2.2.2.2.2.2.2.2.2.2.2.1⟩, ⟨(.int .i64), ⟨a17, l19, c18⟩, x0.2.2.2.2.2.2.2.2.2.2.2.2.2.1.1⟩, ⟨(.int .i64), ⟨a21, l23, c22⟩, x0.2.2.2.2.2.2.2.2.2.2.2.2.2.2.1⟩, ⟨(.int .i64), ⟨a25, l27, c26⟩, x0.2.2.2.2.2.2.2.2.2.2.2.2.2.2.2.2.1⟩] (fun _ : Option Addr × Nat × Option Addr × Nat × Option Addr × Nat × Option Addr × Nat × Option Addr × Nat × Option Addr × Nat => True) (fun q => .tuple #[.agg (cl42 r.1 q.1 q.2.1 q.2.2.1 q.2.2.2.1 q.2.2.2.2.1 q.2.2.2.2.2.1 q.2.2.2.2.2.2.1 q.2.2.2.2.2.2.2.1 q.2.2.2.2.2.2.2.2.1 q.2.2.2.2.2.2.2.2.2.1 q.2.2.2.2.2.2.2.2.2.2.1 q.2.2.2.2.2.2.2.2.2.2.2).toArray, .int .i64 r.2]) (fun q => [⟨(.int .i64), ⟨q.1, r.1.2.2.1.1.length, q.2.1⟩, r.1.2.2.1.1⟩, ⟨(.sl (.int .i64)), ⟨q.2.2.1, r.1.2.2.2.2.2.2.2.2.2.2.1.length, q.2.2.2.1⟩, r.1.2.2.2.2.2.2.2.2.2.2.1⟩, ⟨(.pair (.sl (.int .i64)) (.int .i64)), ⟨q.2.2.2.2.1, r.1.2.2.2.2.2.2.2.2.2.2.2.1.length, q.2.2.2.2.2.1⟩, r.1.2.2.2.2.2.2.2.2.2.2.2.1⟩, ⟨(.int .i64), ⟨q.2.2.2.2.2.2.1, r.1.2.2.2.2.2.2.2.2.2.2.2.2.2.1.1.length, q.2.2.2.2.2.2.2.1⟩, r.1.2.2.2.2.2.2.2.2.2.2.2.2.2.1.1⟩, ⟨(.int .i64), ⟨q.2.2.2.2.2.2.2.2.1, r.1.2.2.2.2.2.2.2.2.2.2.2.2.2.2.1.length, q.2.2.2.2.2.2.2.2.2.1⟩, r.1.2.2.2.2.2.2.2.2.2.2.2.2.2.2.1⟩, ⟨(.int .i64), ⟨q.2.2.2.2.2.2.2.2.2.2.1, r.1.2.2.2.2.2.2.2.2.2.2.2.2.2.2.2.2.1.length, q.2.2.2.2.2.2.2.2.2.2.2⟩, r.1.2.2.2.2.2.2.2.2.2.2.2.2.2.2.2.2.1⟩]) :=
  by
    subst hl8
    subst hl12
    subst hl16
    subst hl20
    subst hl24
    subst hl28
    refine FC.of (T := TTx) Tryz.call13 Tryz.func13 rfl rfl fun w0 => ?_
    unfold M_s_Change at h
    refine JS.seq (JS.region (JO.regB ttOk 3 [] [7, 8] [(4, .bp 7 0), (8, .bp 8 0)] (.new 7 42 (cl42 x0 a5 c6 a9 c10 a13 c14 a17 c18 a21 c22 a25 c26) (.new 8 42 (cl42 (false, 0, ([], 0), 0, 0, 0, 0, 0, 0, 0, [], [], 0, ([], 0), [], 0, ([], 0)) none 0 none 0 none 0 none 0 none 0 none 0) .nil)) rfl ⟨⟨rfl, rfl, trivial⟩, ⟨rfl, rfl, rfl, rfl, rfl, rfl, rfl, rfl, trivial⟩⟩ (JO.done rfl (JS.seq (JS.seq (JS.region (JO.reg ttOk 1 [] [] [(16, .v (.agg (cl42 x0 a5 c6 a9 c10 a13 c14 a17 c18 a21 c22 a25 c26).toArray))] _ rfl ⟨⟨rfl, trivial⟩, rfl⟩ ?_)))))))
    obtain ⟨y29, hy30, h⟩ := bindO_some h
    refine JO.call rfl rfl rfl rfl (ok_s_EdOk x0 a5 c6 x0.2.2.1.1.length rfl a9 c10 x0.2.2.2.2.2.2.2.2.2.2.1.length rfl a13 c14 x0.2.2.2.2.2.2.2.2.2.2.2.1.length rfl a17 c18 x0.2.2.2.2.2.2.2.2.2.2.2.2.2.1.1.length rfl a21 c22 x0.2.2.2.2.2.2.2.2.2.2.2.2.2.2.1.length rfl a25 c26 x0.2.2.2.2.2.2.2.2.2.2.2.2.2.2.2.2.1.length rfl _ hy30) rfl [0, 1, 2, 3, 4, 5] rfl rfl fun _ _ => JO.reg ttOk 22 [] [] [(36, .v (.bool (bif (bif (!y29) then true else (!(decide (x0.2.1 = 2)))) then true else (bif (bif (!(decide (x1 = 100))) then (!(decide (x1 = 99))) else false) then (!(decide (x1 = 121))) else false)))), (37, .cd [(36, false)] (.v (.agg (cl42 x0 a5 c6 a9 c10 a13 c14 a17 c18 a21 c22 a25 c26).toArray))), (38, .cd [(36, false)] (.v (.int .i64 x2))), (39, .cd [(36, false)] (.v (.int .i64 x3)))] _ rfl ⟨⟨rfl, rfl, rfl, rfl, trivial⟩, rfl⟩ ?_
    obtain ⟨y31, hy32, -, h⟩ := callO_some h
    refine JO.callg rfl rfl rfl rfl (fun q136 => ok_s_l24Cut x0 x2 x3 a5 c6 x0.2.2.1.1.length rfl a9 c10 x0.2.2.2.2.2.2.2.2.2.2.1.length rfl a13 c14 x0.2.2.2.2.2.2.2.2.2.2.2.1.length rfl a17 c18 x0.2.2.2.2.2.2.2.2.2.2.2.2.2.1.1.length rfl a21 c22 x0.2.2.2.2.2.2.2.2.2.2.2.2.2.2.1.length rfl a25 c26 x0.2.2.2.2.2.2.2.2.2.2.2.2.2.2.2.2.1.length rfl _ (hy32 q136)) rfl [0, 1, 2, 3, 4, 5] rfl rfl (JO.reg ttOk 2 [] [] [(42, .v (.bool (bif (bif (bif (!y29) then true else (!(decide (x0.2.1 = 2)))) then true else (bif (bif (!(decide (x1 = 100))) then (!(decide (x1 = 99))) else false) then (!(decide (x1 = 121))) else false)) then true else (!y31))))] _ rfl ⟨⟨rfl, trivial⟩, rfl⟩ (JO.done rfl ?_))
    refine JS.cond rfl (fun ht142 => ?_) (fun ht142 => ?_)
    · have h := condT h ht142
      refine JS.seq (JS.region (JO.regB ttOk 3 [] [] [(9, .v (.int .i64 0))] (.new 8 42 (cl42 (false, 0, ([], 0), 0, 0, 0, 0, 0, 0, 0, [], [], 0, ([], 0), [], 0, ([], 0)) none 0 none 0 none 0 none 0 none 0 none 0) .nil) rfl ⟨⟨rfl, trivial⟩, ⟨rfl, rfl, rfl, rfl, trivial⟩⟩ (JO.done rfl ?_)))
      cases h
      refine JS.nilO (.int .i64) Sl.nil rfl rfl (JS.nilO (.sl (.int .i64)) Sl.nil rfl rfl (JS.nilO (.pair (.sl (.int .i64)) (.int .i64)) Sl.nil rfl rfl (JS.nilO (.int .i64) Sl.nil rfl rfl (JS.nilO (.int .i64) Sl.nil rfl rfl (JS.nilO (.int .i64) Sl.nil rfl rfl (JS.ret ttOk (none, 0, none, 0, none, 0, none, 0, none, 0, none, 0) trivial rfl rfl [5, 4, 3, 2, 1, 0] rfl))))))
    have h := condF h ht142
    refine JS.skip (JS.seq (JS.seq (JS.region (JO.reg ttOk 7 [] [] [(50, .v (.bool (bif (decide (x2 = x3)) then (decide (x1 = 99)) else false)))] _ rfl ⟨⟨rfl, trivial⟩, rfl⟩ (JO.done rfl ?_)))))
    refine JS.cond rfl (fun ht141 => ?_) (fun ht141 => ?_)
    · have h := condT h ht141
      refine JS.seq (JS.region (JO.reg ttOk 2 [] [] [(51, .v (.agg (cl42 x0 a5 c6 a9 c10 a13 c14 a17 c18 a21 c22 a25 c26).toArray)), (52, .v (.int .i64 x2))] _ rfl ⟨⟨rfl, rfl, trivial⟩, rfl⟩ ?_))
      obtain ⟨⟨y34, y35⟩, hy36, h⟩ := bindO_some h
      refine JO.call rfl rfl rfl rfl (ok_s_l24Insert x0 x2 a5 c6 x0.2.2.1.1.length rfl a9 c10 x0.2.2.2.2.2.2.2.2.2.2.1.length rfl a13 c14 x0.2.2.2.2.2.2.2.2.2.2.2.1.length rfl a17 c18 x0.2.2.2.2.2.2.2.2.2.2.2.2.2.1.1.length rfl a21 c22 x0.2.2.2.2.2.2.2.2.2.2.2.2.2.2.1.length rfl a25 c26 x0.2.2.2.2.2.2.2.2.2.2.2.2.2.2.2.2.1.length rfl _ hy36) rfl [0, 1, 2, 3, 4, 5] rfl rfl ?_
      rintro ⟨a37, c38, a39, c40, a41, c42, a43, c44, a45, c46, a47, c48⟩ -
      refine JO.regB ttOk 4 [] [] [(9, .v (.int .i64 y35))] (.new 8 42 (cl42 y34 a37 c38 a39 c40 a41 c42 a43 c44 a45 c46 a47 c48) .nil) rfl ⟨⟨rfl, trivial⟩, ⟨rfl, rfl, rfl, rfl, trivial⟩⟩ (JO.done rfl ?_)
      cases h
      exact JS.ret ttOk (a37, c38, a39, c40, a41, c42, a43, c44, a45, c46, a47, c48) trivial rfl rfl [0, 0, 0, 0, 0, 0] rfl
    have h := condF h ht141
    refine JS.skip (JS.seq (JS.seq (JS.region (JO.reg ttOk 3 [] [] [(58, .v (.bool (decide (x2 = x3))))] _ rfl ⟨⟨rfl, trivial⟩, rfl⟩ (JO.done rfl ?_)))))
    refine JS.cond rfl (fun ht140 => ?_) (fun ht140 => ?_)
    · have h := condT h ht140
      refine JS.seq (JS.region (JO.reg ttOk 1 [] [] [(59, .v (.agg (cl42 x0 a5 c6 a9 c10 a13 c14 a17 c18 a21 c22 a25 c26).toArray))] _ rfl ⟨⟨rfl, trivial⟩, rfl⟩ ?_))
      obtain ⟨⟨y49, y50⟩, hy51, h⟩ := bindO_some h
      refine JO.call rfl rfl rfl rfl (ok_s_l23Bell x0 a5 c6 x0.2.2.1.1.length rfl a9 c10 x0.2.2.2.2.2.2.2.2.2.2.1.length rfl a13 c14 x0.2.2.2.2.2.2.2.2.2.2.2.1.length rfl a17 c18 x0.2.2.2.2.2.2.2.2.2.2.2.2.2.1.1.length rfl a21 c22 x0.2.2.2.2.2.2.2.2.2.2.2.2.2.2.1.length rfl a25 c26 x0.2.2.2.2.2.2.2.2.2.2.2.2.2.2.2.2.1.length rfl _ hy51) rfl [0, 1, 2, 3, 4, 5] rfl rfl ?_
      rintro ⟨a52, c53, a54, c55, a56, c57, a58, c59, a60, c61, a62, c63⟩ -
      refine JO.regB ttOk 4 [] [] [(9, .v (.int .i64 y50))] (.new 8 42 (cl42 y49 a52 c53 a54 c55 a56 c57 a58 c59 a60 c61 a62 c63) .nil) rfl ⟨⟨rfl, trivial⟩, ⟨rfl, rfl, rfl, rfl, trivial⟩⟩ (JO.done rfl ?_)
      cases h
      exact JS.ret ttOk (a52, c53, a54, c55, a56, c57, a58, c59, a60, c61, a62, c63) trivial rfl rfl [0, 0, 0, 0, 0, 0] rfl
    have h := condF h ht140
    refine JS.skip (JS.seq (JS.region (JO.reg ttOk 4 [] [] [(65, .v (.agg #[.slice a5 x0.2.2.1.1.length c6, .int .i64 x0.2.2.1.2])), (66, .v (.int .i64 x2)), (67, .v (.int .i64 x3))] _ rfl ⟨⟨rfl, rfl, rfl, trivial⟩, rfl⟩ ?_)))
    obtain ⟨⟨y64, y65, y66⟩, hy67, h⟩ := bindO_some h
    refine JO.call rfl rfl rfl rfl (ok_s_LineCut x0.2.2.1 x2 x3 a5 c6 x0.2.2.1.1.length rfl _ hy67) rfl [0] rfl rfl ?_
    rintro ⟨a68, c69, a70, c71⟩ -
    refine JO.regB ttOk 8 [] [65] [(10, .bp 65 0), (11, .v (.slice a70 y65.length c71))] (.new 7 42 (cl42 x0 a5 c6 a9 c10 a13 c14 a17 c18 a21 c22 a25 c26) (.new 8 42 (cl42 (false, 0, ([], 0), 0, 0, 0, 0, 0, 0, 0, [], [], 0, ([], 0), [], 0, ([], 0)) none 0 none 0 none 0 none 0 none 0 none 0) (.new 65 34 [.slice a68 y64.1.length c69, .int .i64 y64.2] .nil))) rfl ⟨⟨rfl, rfl, trivial⟩, ⟨rfl, rfl, rfl, rfl, rfl, rfl, rfl, rfl, rfl, rfl, rfl, rfl, trivial⟩⟩ (JO.done rfl (JS.seq (JS.region (JO.reg ttOk 1 [] [] [(72, .v (.agg (cl42 x0 a5 c6 a9 c10 a13 c14 a17 c18 a21 c22 a25 c26).toArray))] _ rfl ⟨⟨rfl, trivial⟩, rfl⟩ ?_))))
    obtain ⟨y72, hy73, h⟩ := bindO_some h
    refine JO.call rfl rfl rfl rfl (ok_s_l21Copy x0 a5 c6 x0.2.2.1.1.length rfl a9 c10 x0.2.2.2.2.2.2.2.2.2.2.1.length rfl a13 c14 x0.2.2.2.2.2.2.2.2.2.2.2.1.length rfl a17 c18 x0.2.2.2.2.2.2.2.2.2.2.2.2.2.1.1.length rfl a21 c22 x0.2.2.2.2.2.2.2.2.2.2.2.2.2.2.1.length rfl a25 c26 x0.2.2.2.2.2.2.2.2.2.2.2.2.2.2.2.2.1.length rfl _ hy73) rfl [0, 1, 2, 3, 4, 5] rfl rfl ?_
    rintro ⟨a74, c75, a76, c77, a78, c79, a80, c81, a82, c83, a84, c85⟩ -
    refine JO.regB ttOk 2 [] [86] [(13, .bp 86 0)] (.new 7 42 (cl42 x0 a5 c6 a9 c10 a13 c14 a17 c18 a21 c22 a25 c26) (.new 8 42 (cl42 (false, 0, ([], 0), 0, 0, 0, 0, 0, 0, 0, [], [], 0, ([], 0), [], 0, ([], 0)) none 0 none 0 none 0 none 0 none 0 none 0) (.new 65 34 [.slice a68 y64.1.length c69, .int .i64 y64.2] (.new 86 42 (cl42 y72 a74 c75 a76 c77 a78 c79 a80 c81 a82 c83 a84 c85) .nil)))) rfl ⟨⟨rfl, trivial⟩, ⟨rfl, rfl, rfl, rfl, rfl, rfl, rfl, rfl, rfl, rfl, rfl, rfl, rfl, rfl, rfl, rfl, trivial⟩⟩ (JO.done rfl (JS.seq (JS.region (JO.reg ttOk 3 [] [] [(76, .v (.agg #[.slice a9 x0.2.2.2.2.2.2.2.2.2.2.1.length c10])), (77, .v (.slice a70 y65.length c71))] _ rfl ⟨⟨rfl, rfl, trivial⟩, rfl⟩ ?_))))
    obtain ⟨⟨y86, y87⟩, hy88, h⟩ := bindO_some h
    refine JO.call rfl rfl rfl rfl (ok_s_RingPut x0.2.2.2.2.2.2.2.2.2.2.1 y65 0 a9 c10 x0.2.2.2.2.2.2.2.2.2.2.1.length rfl a70 c71 y65.length rfl _ hy88) rfl [1, 13] rfl rfl ?_
    rintro ⟨a89, c90⟩ -
    refine JO.regB ttOk 5 [] [] [] (.new 8 42 (cl42 (false, 0, ([], 0), 0, 0, 0, 0, 0, 0, 0, [], [], 0, ([], 0), [], 0, ([], 0)) none 0 none 0 none 0 none 0 none 0 none 0) (.new 65 34 [.slice a68 y64.1.length c69, .int .i64 y64.2] (.new 86 42 (cl42 (y72.1, y72.2.1, y72.2.2.1, y72.2.2.2.1, y72.2.2.2.2.1, y72.2.2.2.2.2.1, y72.2.2.2.2.2.2.1, y72.2.2.2.2.2.2.2.1, y72.2.2.2.2.2.2.2.2.1, y72.2.2.2.2.2.2.2.2.2.1, y86, y72.2.2.2.2.2.2.2.2.2.2.2.1, y72.2.2.2.2.2.2.2.2.2.2.2.2.1, y72.2.2.2.2.2.2.2.2.2.2.2.2.2.1, y72.2.2.2.2.2.2.2.2.2.2.2.2.2.2.1, y72.2.2.2.2.2.2.2.2.2.2.2.2.2.2.2.1, y72.2.2.2.2.2.2.2.2.2.2.2.2.2.2.2.2) a74 c75 a89 c90 a78 c79 a80 c81 a82 c83 a84 c85) .nil))) rfl ⟨trivial, ⟨rfl, rfl, rfl, rfl, rfl, rfl, rfl, rfl, rfl, rfl, rfl, rfl, trivial⟩⟩ (JO.done rfl (JS.seq (JS.seq (JS.region (JO.reg ttOk 2 [] [] [(83, .v (.bool (decide (x1 = 121))))] _ rfl ⟨⟨rfl, trivial⟩, rfl⟩ (JO.done rfl ?_))))))
    refine JS.cond rfl (fun ht139 => ?_) (fun ht139 => ?_)
    · have h := condT h ht139
      refine JS.seq (JS.region (JO.reg ttOk 2 [] [] [(84, .v (.agg (cl42 (y72.1, y72.2.1, y72.2.2.1, y72.2.2.2.1, y72.2.2.2.2.1, y72.2.2.2.2.2.1, y72.2.2.2.2.2.2.1, y72.2.2.2.2.2.2.2.1, y72.2.2.2.2.2.2.2.2.1, y72.2.2.2.2.2.2.2.2.2.1, y86, y72.2.2.2.2.2.2.2.2.2.2.2.1, y72.2.2.2.2.2.2.2.2.2.2.2.2.1, y72.2.2.2.2.2.2.2.2.2.2.2.2.2.1, y72.2.2.2.2.2.2.2.2.2.2.2.2.2.2.1, y72.2.2.2.2.2.2.2.2.2.2.2.2.2.2.2.1, y72.2.2.2.2.2.2.2.2.2.2.2.2.2.2.2.2) a74 c75 a89 c90 a78 c79 a80 c81 a82 c83 a84 c85).toArray)), (85, .v (.int .i64 x2))] _ rfl ⟨⟨rfl, rfl, trivial⟩, rfl⟩ ?_))
      obtain ⟨⟨y91, y92⟩, hy93, h⟩ := bindO_some h
      refine JO.call rfl rfl rfl rfl (ok_s_l23Go (y72.1, y72.2.1, y72.2.2.1, y72.2.2.2.1, y72.2.2.2.2.1, y72.2.2.2.2.2.1, y72.2.2.2.2.2.2.1, y72.2.2.2.2.2.2.2.1, y72.2.2.2.2.2.2.2.2.1, y72.2.2.2.2.2.2.2.2.2.1, y86, y72.2.2.2.2.2.2.2.2.2.2.2.1, y72.2.2.2.2.2.2.2.2.2.2.2.2.1, y72.2.2.2.2.2.2.2.2.2.2.2.2.2.1, y72.2.2.2.2.2.2.2.2.2.2.2.2.2.2.1, y72.2.2.2.2.2.2.2.2.2.2.2.2.2.2.2.1, y72.2.2.2.2.2.2.2.2.2.2.2.2.2.2.2.2) x2 a74 c75 y72.2.2.1.1.length rfl a89 c90 y86.length rfl a78 c79 y72.2.2.2.2.2.2.2.2.2.2.2.1.length rfl a80 c81 y72.2.2.2.2.2.2.2.2.2.2.2.2.2.1.1.length rfl a82 c83 y72.2.2.2.2.2.2.2.2.2.2.2.2.2.2.1.length rfl a84 c85 y72.2.2.2.2.2.2.2.2.2.2.2.2.2.2.2.2.1.length rfl _ hy93) rfl [7, 6, 9, 10, 11, 12] rfl rfl ?_
      rintro ⟨a94, c95, a96, c97, a98, c99, a100, c101, a102, c103, a104, c105⟩ -
      refine JO.regB ttOk 4 [] [] [(9, .v (.int .i64 y92))] (.new 8 42 (cl42 y91 a94 c95 a96 c97 a98 c99 a100 c101 a102 c103 a104 c105) .nil) rfl ⟨⟨rfl, trivial⟩, ⟨rfl, rfl, rfl, rfl, trivial⟩⟩ (JO.done rfl ?_)
      cases h
      exact JS.ret ttOk (a94, c95, a96, c97, a98, c99, a100, c101, a102, c103, a104, c105) trivial rfl rfl [0, 0, 0, 0, 0, 0] rfl
    have h := condF h ht139
    refine JS.skip (JS.seq (JS.region (JO.reg ttOk 2 [] [] [(90, .v (.agg #[.slice a68 y64.1.length c69, .int .i64 y64.2])), (91, .v (.int .i64 x2))] _ rfl ⟨⟨rfl, rfl, trivial⟩, rfl⟩ ?_)))
    obtain ⟨⟨y106, y107⟩, hy108, h⟩ := bindO_some h
    refine JO.call rfl rfl rfl rfl (ok_s_LineGo y64 x2 a68 c69 y64.1.length rfl _ hy108) rfl [13] rfl rfl ?_
    rintro ⟨a109, c110⟩ -
    refine JO.regB ttOk 4 [] [] [] (.new 8 42 (cl42 (false, 0, ([], 0), 0, 0, 0, 0, 0, 0, 0, [], [], 0, ([], 0), [], 0, ([], 0)) none 0 none 0 none 0 none 0 none 0 none 0) (.new 65 34 [.slice a109 y106.1.length c110, .int .i64 y106.2] (.new 86 42 (cl42 (y72.1, y72.2.1, y72.2.2.1, y72.2.2.2.1, y72.2.2.2.2.1, y72.2.2.2.2.2.1, y72.2.2.2.2.2.2.1, y72.2.2.2.2.2.2.2.1, y72.2.2.2.2.2.2.2.2.1, y72.2.2.2.2.2.2.2.2.2.1, y86, y72.2.2.2.2.2.2.2.2.2.2.2.1, y72.2.2.2.2.2.2.2.2.2.2.2.2.1, y72.2.2.2.2.2.2.2.2.2.2.2.2.2.1, y72.2.2.2.2.2.2.2.2.2.2.2.2.2.2.1, y72.2.2.2.2.2.2.2.2.2.2.2.2.2.2.2.1, y72.2.2.2.2.2.2.2.2.2.2.2.2.2.2.2.2) a74 c75 a89 c90 a78 c79 a80 c81 a82 c83 a84 c85) .nil))) rfl ⟨trivial, ⟨rfl, rfl, rfl, rfl, rfl, rfl, rfl, rfl, rfl, rfl, rfl, rfl, trivial⟩⟩ (JO.done rfl (JS.seq (JS.region (JO.reg ttOk 2 [] [] [(96, .v (.agg (cl42 (y72.1, y72.2.1, y72.2.2.1, y72.2.2.2.1, y72.2.2.2.2.1, y72.2.2.2.2.2.1, y72.2.2.2.2.2.2.1, y72.2.2.2.2.2.2.2.1, y72.2.2.2.2.2.2.2.2.1, y72.2.2.2.2.2.2.2.2.2.1, y86, y72.2.2.2.2.2.2.2.2.2.2.2.1, y72.2.2.2.2.2.2.2.2.2.2.2.2.1, y72.2.2.2.2.2.2.2.2.2.2.2.2.2.1, y72.2.2.2.2.2.2.2.2.2.2.2.2.2.2.1, y72.2.2.2.2.2.2.2.2.2.2.2.2.2.2.2.1, y72.2.2.2.2.2.2.2.2.2.2.2.2.2.2.2.2) a74 c75 a89 c90 a78 c79 a80 c81 a82 c83 a84 c85).toArray)), (97, .v (.agg #[.slice a109 y106.1.length c110, .int .i64 y106.2]))] _ rfl ⟨⟨rfl, rfl, trivial⟩, rfl⟩ ?_))))
    obtain ⟨⟨y111, y112⟩, hy113, h⟩ := bindO_some h
    refine JO.call rfl rfl rfl rfl (ok_s_l23Set (y72.1, y72.2.1, y72.2.2.1, y72.2.2.2.1, y72.2.2.2.2.1, y72.2.2.2.2.2.1, y72.2.2.2.2.2.2.1, y72.2.2.2.2.2.2.2.1, y72.2.2.2.2.2.2.2.2.1, y72.2.2.2.2.2.2.2.2.2.1, y86, y72.2.2.2.2.2.2.2.2.2.2.2.1, y72.2.2.2.2.2.2.2.2.2.2.2.2.1, y72.2.2.2.2.2.2.2.2.2.2.2.2.2.1, y72.2.2.2.2.2.2.2.2.2.2.2.2.2.2.1, y72.2.2.2.2.2.2.2.2.2.2.2.2.2.2.2.1, y72.2.2.2.2.2.2.2.2.2.2.2.2.2.2.2.2) y106 true 0 a74 c75 y72.2.2.1.1.length rfl a89 c90 y86.length rfl a78 c79 y72.2.2.2.2.2.2.2.2.2.2.2.1.length rfl a80 c81 y72.2.2.2.2.2.2.2.2.2.2.2.2.2.1.1.length rfl a82 c83 y72.2.2.2.2.2.2.2.2.2.2.2.2.2.2.1.length rfl a84 c85 y72.2.2.2.2.2.2.2.2.2.2.2.2.2.2.2.2.1.length rfl a109 c110 y106.1.length rfl _ hy113) rfl [8, 7, 10, 11, 12, 13, 6] rfl rfl ?_
    rintro ⟨a114, c115, a116, c117, a118, c119, a120, c121, a122, c123, a124, c125⟩ -
    refine JO.regB ttOk 6 [] [141] [(14, .bp 141 0), (15, .v (.int .i64 y112))] (.new 8 42 (cl42 (false, 0, ([], 0), 0, 0, 0, 0, 0, 0, 0, [], [], 0, ([], 0), [], 0, ([], 0)) none 0 none 0 none 0 none 0 none 0 none 0) (.new 141 42 (cl42 y111 a114 c115 a116 c117 a118 c119 a120 c121 a122 c123 a124 c125) .nil)) rfl ⟨⟨rfl, rfl, trivial⟩, ⟨rfl, rfl, rfl, rfl, rfl, rfl, rfl, rfl, trivial⟩⟩ (JO.done rfl ?_)
    obtain ⟨j129, hj138, h⟩ := joinO_some h
    refine JS.seqJ (ι := Int × Int) ⟨fun z => j129 (z.1, z.2) = some r, fun z => [(8, .bp 8 0), (14, .bp 141 0), (15, .v (.int .i64 y112))], fun z => (.new 8 42 (cl42 (false, 0, ([], 0), 0, 0, 0, 0, 0, 0, 0, [], [], 0, ([], 0), [], 0, ([], 0)) none 0 none 0 none 0 none 0 none 0 none 0) (.new 141 42 (cl42 (y111.1, z.1, (y111.2.2.1.1, z.2), y111.2.2.2.1, y111.2.2.2.2.1, y111.2.2.2.2.2.1, y111.2.2.2.2.2.2.1, y111.2.2.2.2.2.2.2.1, y111.2.2.2.2.2.2.2.2.1, y111.2.2.2.2.2.2.2.2.2.1, y111.2.2.2.2.2.2.2.2.2.2.1, y111.2.2.2.2.2.2.2.2.2.2.2.1, y111.2.2.2.2.2.2.2.2.2.2.2.2.1, y111.2.2.2.2.2.2.2.2.2.2.2.2.2.1, y111.2.2.2.2.2.2.2.2.2.2.2.2.2.2.1, y111.2.2.2.2.2.2.2.2.2.2.2.2.2.2.2.1, y111.2.2.2.2.2.2.2.2.2.2.2.2.2.2.2.2) a114 c115 a116 c117 a118 c119 a120 c121 a122 c123 a124 c125) .nil)), fun z => [], fun z => [⟨(.int .i64), ⟨a114, y111.2.2.1.1.length, c115⟩, y111.2.2.1.1⟩, ⟨(.sl (.int .i64)), ⟨a116, y111.2.2.2.2.2.2.2.2.2.2.1.length, c117⟩, y111.2.2.2.2.2.2.2.2.2.2.1⟩, ⟨(.pair (.sl (.int .i64)) (.int .i64)), ⟨a118, y111.2.2.2.2.2.2.2.2.2.2.2.1.length, c119⟩, y111.2.2.2.2.2.2.2.2.2.2.2.1⟩, ⟨(.int .i64), ⟨a120, y111.2.2.2.2.2.2.2.2.2.2.2.2.2.1.1.length, c121⟩, y111.2.2.2.2.2.2.2.2.2.2.2.2.2.1.1⟩, ⟨(.int .i64), ⟨a122, y111.2.2.2.2.2.2.2.2.2.2.2.2.2.2.1.length, c123⟩, y111.2.2.2.2.2.2.2.2.2.2.2.2.2.2.1⟩, ⟨(.int .i64), ⟨a124, y111.2.2.2.2.2.2.2.2.2.2.2.2.2.2.2.2.1.length, c125⟩, y111.2.2.2.2.2.2.2.2.2.2.2.2.2.2.2.2.1⟩], fun z => 0⟩ ?_ ?_
    · refine JS.seq (JS.norm [true, true, true, true, true, true, false, false, false, false, false, false, false, false, false, false] [⟨(.int .i64), ⟨a5, x0.2.2.1.1.length, c6⟩, x0.2.2.1.1⟩, ⟨(.sl (.int .i64)), ⟨a9, x0.2.2.2.2.2.2.2.2.2.2.1.length, c10⟩, x0.2.2.2.2.2.2.2.2.2.2.1⟩, ⟨(.pair (.sl (.int .i64)) (.int .i64)), ⟨a13, x0.2.2.2.2.2.2.2.2.2.2.2.1.length, c14⟩, x0.2.2.2.2.2.2.2.2.2.2.2.1⟩, ⟨(.int .i64), ⟨a17, x0.2.2.2.2.2.2.2.2.2.2.2.2.2.1.1.length, c18⟩, x0.2.2.2.2.2.2.2.2.2.2.2.2.2.1.1⟩, ⟨(.int .i64), ⟨a21, x0.2.2.2.2.2.2.2.2.2.2.2.2.2.2.1.length, c22⟩, x0.2.2.2.2.2.2.2.2.2.2.2.2.2.2.1⟩, ⟨(.int .i64), ⟨a25, x0.2.2.2.2.2.2.2.2.2.2.2.2.2.2.2.2.1.length, c26⟩, x0.2.2.2.2.2.2.2.2.2.2.2.2.2.2.2.2.1⟩] [⟨(.int .i64), ⟨a114, y111.2.2.1.1.length, c115⟩, y111.2.2.1.1⟩, ⟨(.sl (.int .i64)), ⟨a116, y111.2.2.2.2.2.2.2.2.2.2.1.length, c117⟩, y111.2.2.2.2.2.2.2.2.2.2.1⟩, ⟨(.pair (.sl (.int .i64)) (.int .i64)), ⟨a118, y111.2.2.2.2.2.2.2.2.2.2.2.1.length, c119⟩, y111.2.2.2.2.2.2.2.2.2.2.2.1⟩, ⟨(.int .i64), ⟨a120, y111.2.2.2.2.2.2.2.2.2.2.2.2.2.1.1.length, c121⟩, y111.2.2.2.2.2.2.2.2.2.2.2.2.2.1.1⟩, ⟨(.int .i64), ⟨a122, y111.2.2.2.2.2.2.2.2.2.2.2.2.2.2.1.length, c123⟩, y111.2.2.2.2.2.2.2.2.2.2.2.2.2.2.1⟩, ⟨(.int .i64), ⟨a124, y111.2.2.2.2.2.2.2.2.2.2.2.2.2.2.2.2.1.length, c125⟩, y111.2.2.2.2.2.2.2.2.2.2.2.2.2.2.2.2.1⟩] rfl rfl (JS.region (JO.reg ttOk 2 [] [] [(102, .v (.bool (decide (x1 = 99))))] _ rfl ⟨⟨rfl, trivial⟩, rfl⟩ (JO.done rfl ?_))))
      refine JS.cond rfl (fun ht137 => ?_) (fun ht137 => ?_)
      · have h := condT h ht137
        refine JS.seq (JS.region (JO.regB ttOk 2 [] [] [] (.new 8 42 (cl42 (false, 0, ([], 0), 0, 0, 0, 0, 0, 0, 0, [], [], 0, ([], 0), [], 0, ([], 0)) none 0 none 0 none 0 none 0 none 0 none 0) (.new 141 42 (cl42 (y111.1, 1, y111.2.2.1, y111.2.2.2.1, y111.2.2.2.2.1, y111.2.2.2.2.2.1, y111.2.2.2.2.2.2.1, y111.2.2.2.2.2.2.2.1, y111.2.2.2.2.2.2.2.2.1, y111.2.2.2.2.2.2.2.2.2.1, y111.2.2.2.2.2.2.2.2.2.2.1, y111.2.2.2.2.2.2.2.2.2.2.2.1, y111.2.2.2.2.2.2.2.2.2.2.2.2.1, y111.2.2.2.2.2.2.2.2.2.2.2.2.2.1, y111.2.2.2.2.2.2.2.2.2.2.2.2.2.2.1, y111.2.2.2.2.2.2.2.2.2.2.2.2.2.2.2.1, y111.2.2.2.2.2.2.2.2.2.2.2.2.2.2.2.2) a114 c115 a116 c117 a118 c119 a120 c121 a122 c123 a124 c125) .nil)) rfl ⟨trivial, ⟨rfl, rfl, rfl, rfl, rfl, rfl, rfl, rfl, trivial⟩⟩ (JO.done rfl (JS.region (JO.regB ttOk 4 [] [] [] (.new 8 42 (cl42 (false, 0, ([], 0), 0, 0, 0, 0, 0, 0, 0, [], [], 0, ([], 0), [], 0, ([], 0)) none 0 none 0 none 0 none 0 none 0 none 0) (.new 141 42 (cl42 (y111.1, 1, (y111.2.2.1.1, x2), y111.2.2.2.1, y111.2.2.2.2.1, y111.2.2.2.2.2.1, y111.2.2.2.2.2.2.1, y111.2.2.2.2.2.2.2.1, y111.2.2.2.2.2.2.2.2.1, y111.2.2.2.2.2.2.2.2.2.1, y111.2.2.2.2.2.2.2.2.2.2.1, y111.2.2.2.2.2.2.2.2.2.2.2.1, y111.2.2.2.2.2.2.2.2.2.2.2.2.1, y111.2.2.2.2.2.2.2.2.2.2.2.2.2.1, y111.2.2.2.2.2.2.2.2.2.2.2.2.2.2.1, y111.2.2.2.2.2.2.2.2.2.2.2.2.2.2.2.1, y111.2.2.2.2.2.2.2.2.2.2.2.2.2.2.2.2) a114 c115 a116 c117 a118 c119 a120 c121 a122 c123 a124 c125) .nil)) rfl ⟨trivial, ⟨rfl, rfl, rfl, rfl, rfl, rfl, rfl, rfl, trivial⟩⟩ (JO.done rfl (JS.endJA (1, x2) h ⟨rfl, rfl, rfl, trivial⟩ ⟨rfl, rfl, rfl, rfl, rfl, rfl, rfl, rfl, trivial⟩ [] rfl [0, 1, 2, 3, 4, 5] rfl rfl)))))))
      have h := condF h ht137
      refine JS.skip (JS.endJA (y111.2.1, y111.2.2.1.2) h ⟨rfl, rfl, rfl, trivial⟩ ⟨rfl, rfl, rfl, rfl, rfl, rfl, rfl, rfl, trivial⟩ [] rfl [0, 1, 2, 3, 4, 5] rfl rfl)
    rintro ⟨x127, x128⟩ h
    subst hj138
    refine JS.seq (JS.region (JO.regB ttOk 4 [] [] [(9, .v (.int .i64 y112))] (.new 8 42 (cl42 (y111.1, x127, (y111.2.2.1.1, x128), y111.2.2.2.1, y111.2.2.2.2.1, y111.2.2.2.2.2.1, y111.2.2.2.2.2.2.1, y111.2.2.2.2.2.2.2.1, y111.2.2.2.2.2.2.2.2.1, y111.2.2.2.2.2.2.2.2.2.1, y111.2.2.2.2.2.2.2.2.2.2.1, y111.2.2.2.2.2.2.2.2.2.2.2.1, y111.2.2.2.2.2.2.2.2.2.2.2.2.1, y111.2.2.2.2.2.2.2.2.2.2.2.2.2.1, y111.2.2.2.2.2.2.2.2.2.2.2.2.2.2.1, y111.2.2.2.2.2.2.2.2.2.2.2.2.2.2.2.1, y111.2.2.2.2.2.2.2.2.2.2.2.2.2.2.2.2) a114 c115 a116 c117 a118 c119 a120 c121 a122 c123 a124 c125) .nil) rfl ⟨⟨rfl, trivial⟩, ⟨rfl, rfl, rfl, rfl, trivial⟩⟩ (JO.done rfl ?_)))
    cases h
    exact JS.ret ttOk (a114, c115, a116, c117, a118, c119, a120, c121, a122, c123, a124, c125) trivial rfl rfl [0, 0, 0, 0, 0, 0] rfl

def M_i_in (x0 : Int) (x1 : Int) (x2 : Int) : Option Bool :=
  some (bif (decide (x1 ≤ x0)) then (decide (x0 ≤ x2)) else false)

theorem ok_i_in (x0 : Int) (x1 : Int) (x2 : Int) (r : Bool) (h : M_i_in x0 x1 x2 = some r) :
    FC Tryz.prog 121 [.int .i64 x0, .int .i64 x1, .int .i64 x2] [] (fun _ : Unit => True) (fun _ => .bool r) (fun _ => []) :=
  by
    refine FC.of (T := TTx) Tryz.call121 Tryz.func121 rfl rfl fun w0 => ?_
    unfold M_i_in at h
    refine JS.seq (JS.region (JO.reg ttOk 1 [] [] [] _ rfl ⟨trivial, rfl⟩ (JO.done rfl (JS.seq (JS.region (JO.reg ttOk 9 [] [] [(6, .v (.bool (bif (decide (x1 ≤ x0)) then (decide (x0 ≤ x2)) else false)))] _ rfl ⟨⟨rfl, trivial⟩, rfl⟩ (JO.done rfl ?_)))))))
    cases h
    exact JS.ret ttOk () trivial rfl rfl [] rfl

def M_i_RuneOk (x0 : Int) : Option Bool :=
  (bindO (M_i_in x0 0 1114111) fun (y2 : Bool) =>
  (callO (y2 = true) (M_i_in x0 55296 57343) false fun (y4 : Bool) =>
  some (bif y2 then (!y4) else false)))

theorem ok_i_RuneOk (x0 : Int) (r : Bool) (h : M_i_RuneOk x0 = some r) :
    FC Tryz.prog 178 [.int .i64 x0] [] (fun _ : Unit => True) (fun _ => .bool r) (fun _ => []) :=
  by
    refine FC.of (T := TTx) Tryz.call178 Tryz.func178 rfl rfl fun w0 => ?_
    unfold M_i_RuneOk at h
    refine JS.seq (JS.region (JO.reg ttOk 1 [] [] [] _ rfl ⟨trivial, rfl⟩ (JO.done rfl (JS.seq (JS.region (JO.reg ttOk 1 [] [] [(3, .v (.int .i64 x0))] _ rfl ⟨⟨rfl, trivial⟩, rfl⟩ ?_))))))
    obtain ⟨y2, hy3, h⟩ := bindO_some h
    refine JO.call rfl rfl rfl rfl (ok_i_in x0 0 1114111 _ hy3) rfl [] rfl rfl fun _ _ => JO.reg ttOk 2 [] [] [(5, .v (.bool y2)), (6, .cd [(5, true)] (.v (.int .i64 x0)))] _ rfl ⟨⟨rfl, rfl, trivial⟩, rfl⟩ ?_
    obtain ⟨y4, hy5, -, h⟩ := callO_some h
    refine JO.callg rfl rfl rfl rfl (fun q7 => ok_i_in x0 55296 57343 _ (hy5 q7)) rfl [] rfl rfl (JO.reg ttOk 3 [] [] [(2, .v (.bool (bif y2 then (!y4) else false)))] _ rfl ⟨⟨rfl, trivial⟩, rfl⟩ (JO.done rfl ?_))
    cases h
    exact JS.ret ttOk () trivial rfl rfl [] rfl

def M_i_Printable (x0 : Int) : Option Bool :=
  (bindO (M_i_RuneOk x0) fun (y2 : Bool) =>
  (callO ((bif y2 then (decide (32 ≤ x0)) else false) = true) (M_i_in x0 127 159) false fun (y4 : Bool) =>
  some (bif (bif y2 then (decide (32 ≤ x0)) else false) then (!y4) else false)))

theorem ok_i_Printable (x0 : Int) (r : Bool) (h : M_i_Printable x0 = some r) :
    FC Tryz.prog 95 [.int .i64 x0] [] (fun _ : Unit => True) (fun _ => .bool r) (fun _ => []) :=
  by
    refine FC.of (T := TTx) Tryz.call95 Tryz.func95 rfl rfl fun w0 => ?_
    unfold M_i_Printable at h
    refine JS.seq (JS.region (JO.reg ttOk 1 [] [] [] _ rfl ⟨trivial, rfl⟩ (JO.done rfl (JS.seq (JS.region (JO.reg ttOk 1 [] [] [(3, .v (.int .i64 x0))] _ rfl ⟨⟨rfl, trivial⟩, rfl⟩ ?_))))))
    obtain ⟨y2, hy3, h⟩ := bindO_some h
    refine JO.call rfl rfl rfl rfl (ok_i_RuneOk x0 _ hy3) rfl [] rfl rfl fun _ _ => JO.reg ttOk 6 [] [] [(9, .v (.bool (bif y2 then (decide (32 ≤ x0)) else false))), (10, .cd [(9, true)] (.v (.int .i64 x0)))] _ rfl ⟨⟨rfl, rfl, trivial⟩, rfl⟩ ?_
    obtain ⟨y4, hy5, -, h⟩ := callO_some h
    refine JO.callg rfl rfl rfl rfl (fun q7 => ok_i_in x0 127 159 _ (hy5 q7)) rfl [] rfl rfl (JO.reg ttOk 3 [] [] [(2, .v (.bool (bif (bif y2 then (decide (32 ≤ x0)) else false) then (!y4) else false)))] _ rfl ⟨⟨rfl, trivial⟩, rfl⟩ (JO.done rfl ?_))
    cases h
    exact JS.ret ttOk () trivial rfl rfl [] rfl

def M_i_admissible (x0 : Int) : Option Bool :=
  (bindO (M_i_Printable x0) fun (y2 : Bool) =>
  some (bif (bif y2 then true else (decide (x0 = 9))) then true else (decide (x0 = 10))))

theorem ok_i_admissible (x0 : Int) (r : Bool) (h : M_i_admissible x0 = some r) :
    FC Tryz.prog 260 [.int .i64 x0] [] (fun _ : Unit => True) (fun _ => .bool r) (fun _ => []) :=
  by
    refine FC.of (T := TTx) Tryz.call260 Tryz.func260 rfl rfl fun w0 => ?_
    unfold M_i_admissible at h
    refine JS.seq (JS.region (JO.reg ttOk 1 [] [] [] _ rfl ⟨trivial, rfl⟩ (JO.done rfl (JS.seq (JS.region (JO.reg ttOk 1 [] [] [(3, .v (.int .i64 x0))] _ rfl ⟨⟨rfl, trivial⟩, rfl⟩ ?_))))))
    obtain ⟨y2, hy3, h⟩ := bindO_some h
    refine JO.call rfl rfl rfl rfl (ok_i_Printable x0 _ hy3) rfl [] rfl rfl fun _ _ => JO.reg ttOk 9 [] [] [(2, .v (.bool (bif (bif y2 then true else (decide (x0 = 9))) then true else (decide (x0 = 10)))))] _ rfl ⟨⟨rfl, trivial⟩, rfl⟩ (JO.done rfl ?_)
    cases h
    exact JS.ret ttOk () trivial rfl rfl [] rfl

def M_i_areAdmissible_L1 (x0 : List Int) (j20 : Unit → Option Bool) (k14 : Int → Option Bool) : Int → Option Bool := fun x6 =>
  (bif (decide (x6 < (x0.length : Int))) then
  (guardO (0 ≤ x6 ∧ x6 < (x0.length : Int)) <|
  (callO ((decide (400 ≤ x6)) = false) (M_i_admissible (at' x0 x6)) false fun (y9 : Bool) =>
  (bif (bif (decide (400 ≤ x6)) then true else (!y9)) then
  some false
  else
  k14 (W (x6 + 1)))))
  else
  j20 ())

def M_i_areAdmissible (x0 : List Int) : Option Bool :=
  (joinO (fun (_ : Unit) =>
  some true) fun j20 =>
  (fixF (M_i_areAdmissible_L1 x0 j20) FUEL 0))

theorem ok_i_areAdmissible (x0 : List Int) (a2 : Option Addr) (c3 : Nat) (l4 : Nat) (hl5 : x0.length = l4) (r : Bool) (h : M_i_areAdmissible x0 = some r) :
    FC Tryz.prog 202 [.slice a2 l4 c3] [⟨(.int .i64), ⟨a2, l4, c3⟩, x0⟩] (fun _ : Unit => True) (fun _ => .bool r) (fun _ => []) :=
  by
    subst hl5
    refine FC.of (T := TTx) Tryz.call202 Tryz.func202 rfl rfl fun w0 => ?_
    unfold M_i_areAdmissible at h
    refine JS.seq (JS.region (JO.reg ttOk 1 [] [] [] _ rfl ⟨trivial, rfl⟩ (JO.done rfl (JS.seq (JS.seq (JS.region (JO.reg ttOk 3 [] [] [(5, .v (.slice a2 x0.length c3)), (6, .v (.int .i64 (x0.length : Int))), (7, .v (.int .i64 0))] _ rfl ⟨⟨rfl, rfl, rfl, trivial⟩, rfl⟩ (JO.done rfl ?_))))))))
    obtain ⟨j20, hj30, h⟩ := joinO_some h
    refine JS.blockJ (ι := Unit) ⟨fun _ => j20 () = some r, fun _ => [], fun _ => .nil, fun _ => [], fun _ => [], fun _ => 0⟩ ?_ ?_
    · refine JS.loop (ι := Nat × Int) ⟨fun z => fixF (M_i_areAdmissible_L1 x0 j20) z.1 z.2 = some r, fun z => [(5, .v (.slice a2 x0.length c3)), (6, .v (.int .i64 (x0.length : Int))), (7, .v (.int .i64 z.2))], fun z => .nil, fun z => [⟨(.int .i64), ⟨a2, x0.length, c3⟩, x0⟩], fun z => [], fun z => z.1⟩ (FUEL, 0) h ⟨rfl, rfl, rfl, trivial⟩ trivial [0] rfl [] rfl ?_
      rintro ⟨n15, x6⟩ h
      obtain ⟨n15, rfl, h⟩ := fixF_some h
      rw [M_i_areAdmissible_L1] at h
      refine JS.seq (JS.region (JO.reg ttOk 1 [] [] [(8, .v (.bool (decide (x6 < (x0.length : Int)))))] _ rfl ⟨⟨rfl, trivial⟩, rfl⟩ (JO.done rfl (JS.seq ?_))))
      refine JS.cond rfl (fun ht29 => ?_) (fun ht29 => ?_)
      · have h := condT h ht29
        refine JS.skip (JS.seq (JS.block (JS.seq (JS.region (JO.know 0 rfl fun hs26 => ?_)))))
        obtain ⟨g8, h⟩ := guardO_some h
        refine JO.reg ttOk 2 [] [] [(9, .v (.int .i64 x6)), (10, .ep ⟨a2, x0.length, c3⟩ (Int.toNat x6 * 1))] _ rfl ⟨hs26.ix g8, ⟨rfl, rfl, trivial⟩, rfl⟩ (JO.load ttOk rfl rfl rfl rfl rfl rfl rfl 0 rfl rfl (Int.toNat x6) 0 (at' x0 x6) ⟨at_some g8, rfl⟩ rfl rfl (JO.reg ttOk 2 [] [] [(3, .v (.int .i64 x6)), (4, .v (.int .i64 (at' x0 x6)))] _ rfl ⟨⟨rfl, rfl, trivial⟩, rfl⟩ (JO.done rfl (JS.seq (JS.region (JO.reg ttOk 4 [] [] [(14, .v (.bool (decide (400 ≤ x6)))), (15, .cd [(14, false)] (.v (.int .i64 (at' x0 x6))))] _ rfl ⟨⟨rfl, rfl, trivial⟩, rfl⟩ ?_))))))
        obtain ⟨y9, hy10, -, h⟩ := callO_some h
        refine JO.callg rfl rfl rfl rfl (fun q27 => ok_i_admissible (at' x0 x6) _ (hy10 q27)) rfl [] rfl rfl (JO.reg ttOk 2 [] [] [(18, .v (.bool (bif (decide (400 ≤ x6)) then true else (!y9))))] _ rfl ⟨⟨rfl, trivial⟩, rfl⟩ (JO.done rfl ?_))
        refine JS.cond rfl (fun ht28 => ?_) (fun ht28 => ?_)
        · have h := condT h ht28
          refine JS.seq (JS.region (JO.reg ttOk 1 [] [] [(2, .v (.bool false))] _ rfl ⟨⟨rfl, trivial⟩, rfl⟩ (JO.done rfl ?_)))
          cases h
          exact JS.ret ttOk () trivial rfl rfl [] rfl
        have h := condF h ht28
        refine JS.skip (JS.endB (JS.region (JO.reg ttOk 2 [(W (x6 + 1))] [] [(7, .v (.int .i64 (W (x6 + 1))))] _ rfl ⟨⟨trivial, rfl⟩, ⟨rfl, trivial⟩, rfl⟩ (JO.done rfl (JS.endL (n15, (W (x6 + 1))) h (Nat.lt_succ_self _) ⟨rfl, rfl, rfl, trivial⟩ trivial [0] rfl [] rfl)))))
      have h := condF h ht29
      refine JS.exit rfl (JS.endJ () h trivial trivial [] rfl [] rfl)
    rintro _ h
    subst hj30
    refine JS.seq (JS.region (JO.reg ttOk 1 [] [] [(2, .v (.bool true))] _ rfl ⟨⟨rfl, trivial⟩, rfl⟩ (JO.done rfl ?_)))
    cases h
    exact JS.ret ttOk () trivial rfl rfl [] rfl

def M_i_LineOk (x0 : List Int × Int) : Option Bool :=
  (bindO (M_i_areAdmissible x0.1) fun (y6 : Bool) =>
  (callO (y6 = true) (M_i_in x0.2 0 (x0.1.length : Int)) false fun (y8 : Bool) =>
  some (bif y6 then y8 else false)))

theorem ok_i_LineOk (x0 : List Int × Int) (a2 : Option Addr) (c3 : Nat) (l4 : Nat) (hl5 : x0.1.length = l4) (r : Bool) (h : M_i_LineOk x0 = some r) :
    FC Tryz.prog 120 [.agg #[.slice a2 l4 c3, .int .i64 x0.2]] [⟨(.int .i64), ⟨a2, l4, c3⟩, x0.1⟩] (fun _ : Unit => True) (fun _ => .bool r) (fun _ => []) :=
  by
    subst hl5
    refine FC.of (T := TTx) Tryz.call120 Tryz.func120 rfl rfl fun w0 => ?_
    unfold M_i_LineOk at h
    refine JS.seq (JS.region (JO.regB ttOk 2 [] [2] [(1, .bp 2 0)] (.new 2 34 [.slice a2 x0.1.length c3, .int .i64 x0.2] .nil) rfl ⟨⟨rfl, trivial⟩, ⟨rfl, rfl, rfl, rfl, trivial⟩⟩ (JO.done rfl (JS.seq (JS.region (JO.reg ttOk 2 [] [] [(4, .v (.slice a2 x0.1.length c3))] _ rfl ⟨⟨rfl, trivial⟩, rfl⟩ ?_))))))
    obtain ⟨y6, hy7, h⟩ := bindO_some h
    refine JO.call rfl rfl rfl rfl (ok_i_areAdmissible x0.1 a2 c3 x0.1.length rfl _ hy7) rfl [0] rfl rfl fun _ _ => JO.reg ttOk 6 [] [] [(6, .v (.bool y6)), (8, .cd [(6, true)] (.v (.int .i64 x0.2))), (11, .cd [(6, true)] (.v (.int .i64 (x0.1.length : Int))))] _ rfl ⟨⟨rfl, rfl, rfl, trivial⟩, rfl⟩ ?_
    obtain ⟨y8, hy9, -, h⟩ := callO_some h
    refine JO.callg rfl rfl rfl rfl (fun q11 => ok_i_in x0.2 0 (x0.1.length : Int) _ (hy9 q11)) rfl [] rfl rfl (JO.reg ttOk 2 [] [] [(2, .v (.bool (bif y6 then y8 else false)))] _ rfl ⟨⟨rfl, trivial⟩, rfl⟩ (JO.done rfl ?_))
    cases h
    exact JS.ret ttOk () trivial rfl rfl [] rfl

def M_i_isAtEnd (x0 : List Int × Int) : Option Bool :=
  some (bif (decide (0 < (x0.1.length : Int))) then (decide (x0.2 = (x0.1.length : Int))) else false)

theorem ok_i_isAtEnd (x0 : List Int × Int) (a2 : Option Addr) (c3 : Nat) (l4 : Nat) (hl5 : x0.1.length = l4) (r : Bool) (h : M_i_isAtEnd x0 = some r) :
    FC Tryz.prog 175 [.agg #[.slice a2 l4 c3, .int .i64 x0.2]] [⟨(.int .i64), ⟨a2, l4, c3⟩, x0.1⟩] (fun _ : Unit => True) (fun _ => .bool r) (fun _ => []) :=
  by
    subst hl5
    refine FC.of (T := TTx) Tryz.call175 Tryz.func175 rfl rfl fun w0 => ?_
    unfold M_i_isAtEnd at h
    refine JS.seq (JS.region (JO.regB ttOk 2 [] [2] [(1, .bp 2 0)] (.new 2 34 [.slice a2 x0.1.length c3, .int .i64 x0.2] .nil) rfl ⟨⟨rfl, trivial⟩, ⟨rfl, rfl, rfl, rfl, trivial⟩⟩ (JO.done rfl (JS.seq (JS.region (JO.reg ttOk 13 [] [] [(2, .v (.bool (bif (decide (0 < (x0.1.length : Int))) then (decide (x0.2 = (x0.1.length : Int))) else false)))] _ rfl ⟨⟨rfl, trivial⟩, rfl⟩ (JO.done rfl ?_)))))))
    cases h
    exact JS.ret ttOk () trivial rfl rfl [] rfl

def M_i_isAmong_L1 (x0 : Int) (x1 : List UInt8) (j11 : Unit → Option Bool) (k7 : Int → Option Bool) : Int → Option Bool := fun x3 =>
  (bif (decide (x3 < (x1.length : Int))) then
  (guardO (0 ≤ x3 ∧ x3 < (x1.length : Int)) <|
  (bif (decide (((at' x1 x3).toNat : Int) = x0)) then
  some true
  else
  k7 (W (x3 + 1))))
  else
  j11 ())

def M_i_isAmong (x0 : Int) (x1 : List UInt8) : Option Bool :=
  (joinO (fun (_ : Unit) =>
  some false) fun j11 =>
  (fixF (M_i_isAmong_L1 x0 x1 j11) FUEL 0))

theorem ok_i_isAmong (x0 : Int) (x1 : List UInt8) (r : Bool) (h : M_i_isAmong x0 x1 = some r) :
    FC Tryz.prog 64 [.int .i64 x0, .string (bs x1)] [] (fun _ : Unit => True) (fun _ => .bool r) (fun _ => []) :=
  by
    refine FC.of (T := TTx) Tryz.call64 Tryz.func64 rfl rfl fun w0 => ?_
    unfold M_i_isAmong at h
    refine JS.seq (JS.region (JO.reg ttOk 1 [] [] [] _ rfl ⟨trivial, rfl⟩ (JO.done rfl (JS.seq (JS.seq (JS.region (JO.reg ttOk 1 [] [] [(5, .v (.int .i64 0))] _ rfl ⟨⟨rfl, trivial⟩, rfl⟩ (JO.done rfl ?_))))))))
    obtain ⟨j11, hj17, h⟩ := joinO_some h
    refine JS.blockJ (ι := Unit) ⟨fun _ => j11 () = some r, fun _ => [], fun _ => .nil, fun _ => [], fun _ => [], fun _ => 0⟩ ?_ ?_
    · refine JS.loop (ι := Nat × Int) ⟨fun z => fixF (M_i_isAmong_L1 x0 x1 j11) z.1 z.2 = some r, fun z => [(0, .v (.int .i64 x0)), (1, .v (.string (bs x1))), (5, .v (.int .i64 z.2))], fun z => .nil, fun z => [], fun z => [], fun z => z.1⟩ (FUEL, 0) h ⟨rfl, rfl, rfl, trivial⟩ trivial [] rfl [] rfl ?_
      rintro ⟨n8, x3⟩ h
      obtain ⟨n8, rfl, h⟩ := fixF_some h
      rw [M_i_isAmong_L1] at h
      refine JS.seq (JS.seq (JS.region (JO.reg ttOk 4 [] [] [(9, .v (.bool (decide (x3 < (x1.length : Int)))))] _ rfl ⟨⟨rfl, trivial⟩, rfl⟩ (JO.done rfl ?_))))
      refine JS.cond rfl (fun ht16 => ?_) (fun ht16 => ?_)
      · have h := condT h ht16
        refine JS.skip (JS.seq (JS.block (JS.seq (JS.region ?_))))
        obtain ⟨g4, h⟩ := guardO_some h
        refine JO.reg ttOk 6 [((at' x1 x3).toNat : Int)] [] [(17, .v (.bool (decide (((at' x1 x3).toNat : Int) = x0))))] _ rfl ⟨g4, ⟨trivial, W_byte _⟩, ⟨rfl, trivial⟩, rfl⟩ (JO.done rfl ?_)
        refine JS.cond rfl (fun ht15 => ?_) (fun ht15 => ?_)
        · have h := condT h ht15
          refine JS.seq (JS.region (JO.reg ttOk 1 [] [] [(4, .v (.bool true))] _ rfl ⟨⟨rfl, trivial⟩, rfl⟩ (JO.done rfl ?_)))
          cases h
          exact JS.ret ttOk () trivial rfl rfl [] rfl
        have h := condF h ht15
        refine JS.skip (JS.endB (JS.region (JO.reg ttOk 3 [(W (x3 + 1))] [] [(5, .v (.int .i64 (W (x3 + 1))))] _ rfl ⟨⟨trivial, rfl⟩, ⟨rfl, trivial⟩, rfl⟩ (JO.done rfl (JS.endL (n8, (W (x3 + 1))) h (Nat.lt_succ_self _) ⟨rfl, rfl, rfl, trivial⟩ trivial [] rfl [] rfl)))))
      have h := condF h ht16
      refine JS.exit rfl (JS.endJ () h trivial trivial [] rfl [] rfl)
    rintro _ h
    subst hj17
    refine JS.seq (JS.region (JO.reg ttOk 1 [] [] [(4, .v (.bool false))] _ rfl ⟨⟨rfl, trivial⟩, rfl⟩ (JO.done rfl ?_)))
    cases h
    exact JS.ret ttOk () trivial rfl rfl [] rfl

def M_i_modeOk (x0 : Bool × Int × (List Int × Int) × Int × Int × Int × Int × Int × Int × Int × List (List Int) × (List (List Int × Int)) × Int × (List Int × Int) × List Int × Int × List Int × Int) : Option Bool :=
  (joinO (fun (_ : Unit) =>
  (callO ((decide (x0.2.1 = 2)) = true) (M_i_isAtEnd x0.2.2.1) false fun (y44 : Bool) =>
  (bif (bif (decide (x0.2.1 = 2)) then y44 else false) then
  some false
  else
  (bif (bif (bif (!(decide (x0.2.1 = 2))) then (bif (bif (!(decide (x0.2.2.2.2.1 = 0))) then true else (!(decide (x0.2.2.2.2.2.2.1 = 0)))) then true else (!(decide (x0.2.2.2.2.2.1 = 0)))) else false) then true else (bif (decide (x0.2.2.2.2.1 = 0)) then (!(decide (x0.2.2.2.2.2.1 = 0))) else false)) then
  some false
  else
  (callO ((decide (x0.2.2.2.2.1 = 0)) = false) (M_i_isAmong x0.2.2.2.2.1 ([100, 99, 121] : List UInt8)) false fun (y47 : Bool) =>
  (callO ((decide (x0.2.2.2.2.2.2.1 = 0)) = false ∧ (bif (decide (x0.2.2.2.2.1 = 0)) then true else y47) = true) (M_i_isAmong x0.2.2.2.2.2.2.1 ([102, 70, 116, 84, 114] : List UInt8)) false fun (y50 : Bool) =>
  some (bif (bif (decide (x0.2.2.2.2.1 = 0)) then true else y47) then (bif (decide (x0.2.2.2.2.2.2.1 = 0)) then true else y50) else false))))))) fun j36 =>
  (bif (decide (x0.2.1 = 0)) then
  (bif x0.1 then
  some false
  else
  j36 ())
  else
  (joinO (fun (x28 : Bool) =>
  (bif x28 then
  (bif (!x0.1) then
  some false
  else
  j36 ())
  else
  (bif (decide (x0.2.1 = 3)) then
  j36 ()
  else
  some false))) fun j29 =>
  (bif (decide (x0.2.1 = 1)) then
  j29 (decide (x0.2.1 = 1))
  else
  j29 (decide (x0.2.1 = 2))))))

theorem ok_i_modeOk (x0 : Bool × Int × (List Int × Int) × Int × Int × Int × Int × Int × Int × Int × List (List Int) × (List (List Int × Int)) × Int × (List Int × Int) × List Int × Int × List Int × Int) (a2 : Option Addr) (c3 : Nat) (l4 : Nat) (hl5 : x0.2.2.1.1.length = l4) (a6 : Option Addr) (c7 : Nat) (l8 : Nat) (hl9 : x0.2.2.2.2.2.2.2.2.2.2.1.length = l8) (a10 : Option Addr) (c11 : Nat) (l12 : Nat) (hl13 : x0.2.2.2.2.2.2.2.2.2.2.2.1.length = l12) (a14 : Option Addr) (c15 : Nat) (l16 : Nat) (hl17 : x0.2.2.2.2.2.2.2.2.2.2.2.2.2.1.1.length = l16) (a18 : Option Addr) (c19 : Nat) (l20 : Nat) (hl21 : x0.2.2.2.2.2.2.2.2.2.2.2.2.2.2.1.length = l20) (a22 : Option Addr) (c23 : Nat) (l24 : Nat) (hl25 : x0.2.2.2.2.2.2.2.2.2.2.2.2.2.2.2.2.1.length = l24) (r : Bool) (h : M_i_modeOk x0 = some r) :
    FC Tryz.prog 122 [.agg #[.bool x0.1, .int .i64 x0.2.1, .slice a2 l4 c3, .int .i64 x0.2.2.1.2, .int .i64 x0.2.2.2.1, .int .i64 x0.2.2.2.2.1, .int .i64 x0.2.2.2.2.2.1, .int .i64 x0.2.2.2.2.2.2.1, .int .i64 x0.2.2.2.2.2.2.2.1, .int .i64 x0.2.2.2.2.2.2.2.2.1, .int .i64 x0.2.2.2.2.2.2.2.2.2.1, .slice a6 l8 c7, .slice a10 l12 c11, .int .i64 x0.2.2.2.2.2.2.2.2.2.2.2.2.1, .slice a14 l16 c15, .int .i64 x0.2.2.2.2.2.2.2.2.2.2.2.2.2.1.2, .slice a18 l20 c19, .int .i64 x0.2.2.2.2.2.2.2.2.2.2.2.2.2.2.2.1, .slice a22 l24 c23, .int .i64 x0.2.2.2.2.2.2.2.2.2.2.2.2.2.2.2.2.2]] [⟨(.int .i64), ⟨a2, l4, c3⟩, x0.2.2.1.1⟩, ⟨(.sl (.int .i64)), ⟨a6, l8, c7⟩, x0.2.2.2.2.2.2.2.2.2.2.1⟩, ⟨(.pair (.sl (.int .i64)) (.int .i64)), ⟨a10, l12, c11⟩, x0.2.2.2.2.2.2.2.2.2.2.2.1⟩, ⟨(.int .i64), ⟨a14, l16, c15⟩, x0.2.2.2.2.2.2.2.2.2.2.2.2.2.1.1⟩, ⟨(.int .i64), ⟨a18, l20, c19⟩, x0.2.2.2.2.2.2.2.2.2.2.2.2.2.2.1⟩, ⟨(.int .i64), ⟨a22, l24, c23⟩, x0.2.2.2.2.2.2.2.2.2.2.2.2.2.2.2.2.1⟩] (fun _ : Unit => True) (fun _ => .bool r) (fun _ => []) :=
  by
    subst hl5
    subst hl9
    subst hl13
    subst hl17
    subst hl21
    subst hl25
    refine FC.of (T := TTx) Tryz.call122 Tryz.func122 rfl rfl fun w0 => ?_
    unfold M_i_modeOk at h
    refine JS.seq (JS.region (JO.regB ttOk 2 [] [7] [(1, .bp 7 0)] (.new 7 42 (cl42 x0 a2 c3 a6 c7 a10 c11 a14 c15 a18 c19 a22 c23) .nil) rfl ⟨⟨rfl, trivial⟩, ⟨rfl, rfl, rfl, rfl, trivial⟩⟩ (JO.done rfl (JS.seq (JS.seq (JS.region (JO.reg ttOk 2 [] [] [(4, .v (.int .i64 x0.2.1))] _ rfl ⟨⟨rfl, trivial⟩, rfl⟩ (JO.done rfl ?_))))))))
    obtain ⟨j36, hj70, h⟩ := joinO_some h
    refine JS.blockJ (ι := Unit) ⟨fun _ => j36 () = some r, fun _ => [(1, .bp 7 0)], fun _ => (.new 7 42 (cl42 x0 a2 c3 a6 c7 a10 c11 a14 c15 a18 c19 a22 c23) .nil), fun _ => [⟨(.int .i64), ⟨a2, x0.2.2.1.1.length, c3⟩, x0.2.2.1.1⟩, ⟨(.sl (.int .i64)), ⟨a6, x0.2.2.2.2.2.2.2.2.2.2.1.length, c7⟩, x0.2.2.2.2.2.2.2.2.2.2.1⟩, ⟨(.pair (.sl (.int .i64)) (.int .i64)), ⟨a10, x0.2.2.2.2.2.2.2.2.2.2.2.1.length, c11⟩, x0.2.2.2.2.2.2.2.2.2.2.2.1⟩, ⟨(.int .i64), ⟨a14, x0.2.2.2.2.2.2.2.2.2.2.2.2.2.1.1.length, c15⟩, x0.2.2.2.2.2.2.2.2.2.2.2.2.2.1.1⟩, ⟨(.int .i64), ⟨a18, x0.2.2.2.2.2.2.2.2.2.2.2.2.2.2.1.length, c19⟩, x0.2.2.2.2.2.2.2.2.2.2.2.2.2.2.1⟩, ⟨(.int .i64), ⟨a22, x0.2.2.2.2.2.2.2.2.2.2.2.2.2.2.2.2.1.length, c23⟩, x0.2.2.2.2.2.2.2.2.2.2.2.2.2.2.2.2.1⟩], fun _ => [], fun _ => 0⟩ ?_ ?_
    · refine JS.seq (JS.region (JO.reg ttOk 2 [] [] [(5, .v (.bool (decide (x0.2.1 = 0))))] _ rfl ⟨⟨rfl, trivial⟩, rfl⟩ (JO.done rfl ?_)))
      refine JS.cond rfl (fun ht63 => ?_) (fun ht63 => ?_)
      · have h := condT h ht63
        refine JS.seq (JS.region (JO.reg ttOk 2 [] [] [(8, .v (.bool x0.1))] _ rfl ⟨⟨rfl, trivial⟩, rfl⟩ (JO.done rfl ?_)))
        refine JS.cond rfl (fun ht57 => ?_) (fun ht57 => ?_)
        · have h := condT h ht57
          refine JS.seq (JS.region (JO.reg ttOk 1 [] [] [(2, .v (.bool false))] _ rfl ⟨⟨rfl, trivial⟩, rfl⟩ (JO.done rfl ?_)))
          cases h
          exact JS.ret ttOk () trivial rfl rfl [] rfl
        have h := condF h ht57
        refine JS.skip (JS.endB (JS.endJ () h ⟨rfl, trivial⟩ ⟨rfl, rfl, rfl, rfl, trivial⟩ [0, 1, 2, 3, 4, 5] rfl [] rfl))
      have h := condF h ht63
      obtain ⟨j29, hj62, h⟩ := joinO_some h
      refine JS.seqJ (ι := Bool) ⟨fun z => j29 z = some r, fun z => [(1, .bp 7 0), (4, .v (.int .i64 x0.2.1)), (9, .v (.bool z))], fun z => (.new 7 42 (cl42 x0 a2 c3 a6 c7 a10 c11 a14 c15 a18 c19 a22 c23) .nil), fun z => [⟨(.int .i64), ⟨a2, x0.2.2.1.1.length, c3⟩, x0.2.2.1.1⟩, ⟨(.sl (.int .i64)), ⟨a6, x0.2.2.2.2.2.2.2.2.2.2.1.length, c7⟩, x0.2.2.2.2.2.2.2.2.2.2.1⟩, ⟨(.pair (.sl (.int .i64)) (.int .i64)), ⟨a10, x0.2.2.2.2.2.2.2.2.2.2.2.1.length, c11⟩, x0.2.2.2.2.2.2.2.2.2.2.2.1⟩, ⟨(.int .i64), ⟨a14, x0.2.2.2.2.2.2.2.2.2.2.2.2.2.1.1.length, c15⟩, x0.2.2.2.2.2.2.2.2.2.2.2.2.2.1.1⟩, ⟨(.int .i64), ⟨a18, x0.2.2.2.2.2.2.2.2.2.2.2.2.2.2.1.length, c19⟩, x0.2.2.2.2.2.2.2.2.2.2.2.2.2.2.1⟩, ⟨(.int .i64), ⟨a22, x0.2.2.2.2.2.2.2.2.2.2.2.2.2.2.2.2.1.length, c23⟩, x0.2.2.2.2.2.2.2.2.2.2.2.2.2.2.2.2.1⟩], fun z => [], fun z => 0⟩ ?_ ?_
      · refine JS.seq (JS.region (JO.reg ttOk 2 [] [] [(9, .v (.bool (decide (x0.2.1 = 1))))] _ rfl ⟨⟨rfl, trivial⟩, rfl⟩ (JO.done rfl ?_)))
        refine JS.cond rfl (fun ht58 => ?_) (fun ht58 => ?_)
        · have h := condT h ht58
          refine JS.skip (JS.endJ (decide (x0.2.1 = 1)) h ⟨rfl, rfl, rfl, trivial⟩ ⟨rfl, rfl, rfl, rfl, trivial⟩ [0, 1, 2, 3, 4, 5] rfl [] rfl)
        have h := condF h ht58
        refine JS.region (JO.reg ttOk 2 [] [] [(9, .v (.bool (decide (x0.2.1 = 2))))] _ rfl ⟨⟨rfl, trivial⟩, rfl⟩ (JO.done rfl (JS.endJ (decide (x0.2.1 = 2)) h ⟨rfl, rfl, rfl, trivial⟩ ⟨rfl, rfl, rfl, rfl, trivial⟩ [0, 1, 2, 3, 4, 5] rfl [] rfl)))
      rintro x28 h
      subst hj62
      refine JS.cond rfl (fun ht61 => ?_) (fun ht61 => ?_)
      · have h := condT h ht61
        refine JS.seq (JS.region (JO.reg ttOk 3 [] [] [(14, .v (.bool (!x0.1)))] _ rfl ⟨⟨rfl, trivial⟩, rfl⟩ (JO.done rfl ?_)))
        refine JS.cond rfl (fun ht59 => ?_) (fun ht59 => ?_)
        · have h := condT h ht59
          refine JS.seq (JS.region (JO.reg ttOk 1 [] [] [(2, .v (.bool false))] _ rfl ⟨⟨rfl, trivial⟩, rfl⟩ (JO.done rfl ?_)))
          cases h
          exact JS.ret ttOk () trivial rfl rfl [] rfl
        have h := condF h ht59
        refine JS.skip (JS.endB (JS.endJ () h ⟨rfl, trivial⟩ ⟨rfl, rfl, rfl, rfl, trivial⟩ [0, 1, 2, 3, 4, 5] rfl [] rfl))
      have h := condF h ht61
      refine JS.seq (JS.region (JO.reg ttOk 2 [] [] [(15, .v (.bool (decide (x0.2.1 = 3))))] _ rfl ⟨⟨rfl, trivial⟩, rfl⟩ (JO.done rfl ?_)))
      refine JS.cond rfl (fun ht60 => ?_) (fun ht60 => ?_)
      · have h := condT h ht60
        refine JS.skip (JS.endB (JS.endJ () h ⟨rfl, trivial⟩ ⟨rfl, rfl, rfl, rfl, trivial⟩ [0, 1, 2, 3, 4, 5] rfl [] rfl))
      have h := condF h ht60
      refine JS.seq (JS.region (JO.reg ttOk 1 [] [] [(2, .v (.bool false))] _ rfl ⟨⟨rfl, trivial⟩, rfl⟩ (JO.done rfl ?_)))
      cases h
      exact JS.ret ttOk () trivial rfl rfl [] rfl
    rintro _ h
    subst hj70
    refine JS.seq (JS.seq (JS.region (JO.reg ttOk 6 [] [] [(20, .v (.bool (decide (x0.2.1 = 2)))), (22, .cd [(20, true)] (.v (.agg #[.slice a2 x0.2.2.1.1.length c3, .int .i64 x0.2.2.1.2])))] _ rfl ⟨⟨rfl, rfl, trivial⟩, rfl⟩ ?_)))
    obtain ⟨y44, hy45, -, h⟩ := callO_some h
    refine JO.callg rfl rfl rfl rfl (fun q64 => ok_i_isAtEnd x0.2.2.1 a2 c3 x0.2.2.1.1.length rfl _ (hy45 q64)) rfl [0] rfl rfl (JO.reg ttOk 1 [] [] [(24, .v (.bool (bif (decide (x0.2.1 = 2)) then y44 else false)))] _ rfl ⟨⟨rfl, trivial⟩, rfl⟩ (JO.done rfl ?_))
    refine JS.cond rfl (fun ht69 => ?_) (fun ht69 => ?_)
    · have h := condT h ht69
      refine JS.seq (JS.region (JO.reg ttOk 1 [] [] [(2, .v (.bool false))] _ rfl ⟨⟨rfl, trivial⟩, rfl⟩ (JO.done rfl ?_)))
      cases h
      exact JS.ret ttOk () trivial rfl rfl [] rfl
    have h := condF h ht69
    refine JS.skip (JS.seq (JS.seq (JS.region (JO.reg ttOk 28 [] [] [(52, .v (.bool (bif (bif (!(decide (x0.2.1 = 2))) then (bif (bif (!(decide (x0.2.2.2.2.1 = 0))) then true else (!(decide (x0.2.2.2.2.2.2.1 = 0)))) then true else (!(decide (x0.2.2.2.2.2.1 = 0)))) else false) then true else (bif (decide (x0.2.2.2.2.1 = 0)) then (!(decide (x0.2.2.2.2.2.1 = 0))) else false))))] _ rfl ⟨⟨rfl, trivial⟩, rfl⟩ (JO.done rfl ?_)))))
    refine JS.cond rfl (fun ht68 => ?_) (fun ht68 => ?_)
    · have h := condT h ht68
      refine JS.seq (JS.region (JO.reg ttOk 1 [] [] [(2, .v (.bool false))] _ rfl ⟨⟨rfl, trivial⟩, rfl⟩ (JO.done rfl ?_)))
      cases h
      exact JS.ret ttOk () trivial rfl rfl [] rfl
    have h := condF h ht68
    refine JS.skip (JS.seq (JS.region (JO.reg ttOk 6 [] [] [(56, .v (.bool (decide (x0.2.2.2.2.1 = 0)))), (58, .cd [(56, false)] (.v (.int .i64 x0.2.2.2.2.1)))] _ rfl ⟨⟨rfl, rfl, trivial⟩, rfl⟩ ?_)))
    obtain ⟨y47, hy48, -, h⟩ := callO_some h
    refine JO.callg rfl rfl rfl rfl (fun q65 => ok_i_isAmong x0.2.2.2.2.1 ([100, 99, 121] : List UInt8) _ (hy48 q65)) rfl [] rfl rfl (JO.reg ttOk 8 [] [] [(61, .v (.bool (bif (decide (x0.2.2.2.2.1 = 0)) then true else y47))), (65, .cd [(61, true)] (.v (.bool (decide (x0.2.2.2.2.2.2.1 = 0))))), (67, .cd [(65, false), (61, true)] (.v (.int .i64 x0.2.2.2.2.2.2.1)))] _ rfl ⟨⟨rfl, rfl, rfl, trivial⟩, rfl⟩ ?_)
    obtain ⟨y50, hy51, -, h⟩ := callO_some h
    refine JO.callg rfl rfl rfl rfl (fun q66 q67 => ok_i_isAmong x0.2.2.2.2.2.2.1 ([102, 70, 116, 84, 114] : List UInt8) _ (hy51 ⟨q66, q67⟩)) rfl [] rfl rfl (JO.reg ttOk 3 [] [] [(2, .v (.bool (bif (bif (decide (x0.2.2.2.2.1 = 0)) then true else y47) then (bif (decide (x0.2.2.2.2.2.2.1 = 0)) then true else y50) else false)))] _ rfl ⟨⟨rfl, trivial⟩, rfl⟩ (JO.done rfl ?_))
    cases h
    exact JS.ret ttOk () trivial rfl rfl [] rfl

def M_i_RingOk_L1 (x0 : List (List Int)) (j32 : Unit → Option Bool) (k26 : Int → Option Bool) : Int → Option Bool := fun x6 =>
  (bif (decide (x6 < (x0.length : Int))) then
  (guardO (0 ≤ x6 ∧ x6 < (x0.length : Int)) <|
  (callO ((decide (((at' x0 x6).length : Int) = 0)) = false) (M_i_areAdmissible (at' x0 x6)) false fun (y17 : Bool) =>
  (bif (bif (decide (((at' x0 x6).length : Int) = 0)) then true else (!y17)) then
  some false
  else
  k26 (W (x6 + 1)))))
  else
  j32 ())

def M_i_RingOk (x0 : List (List Int)) : Option Bool :=
  (joinO (fun (_ : Unit) =>
  some (decide ((x0.length : Int) ≤ 6))) fun j32 =>
  (fixF (M_i_RingOk_L1 x0 j32) FUEL 0))

theorem ok_i_RingOk (x0 : List (List Int)) (a2 : Option Addr) (c3 : Nat) (l4 : Nat) (hl5 : x0.length = l4) (r : Bool) (h : M_i_RingOk x0 = some r) :
    FC Tryz.prog 123 [.agg #[.slice a2 l4 c3]] [⟨(.sl (.int .i64)), ⟨a2, l4, c3⟩, x0⟩] (fun _ : Unit => True) (fun _ => .bool r) (fun _ => []) :=
  by
    subst hl5
    refine FC.of (T := TTx) Tryz.call123 Tryz.func123 rfl rfl fun w0 => ?_
    unfold M_i_RingOk at h
    refine JS.seq (JS.region (JO.regB ttOk 2 [] [2] [(1, .bp 2 0)] (.new 2 37 [.slice a2 x0.length c3] .nil) rfl ⟨⟨rfl, trivial⟩, ⟨rfl, rfl, rfl, rfl, trivial⟩⟩ (JO.done rfl (JS.seq (JS.seq (JS.region (JO.reg ttOk 4 [] [] [(6, .v (.slice a2 x0.length c3)), (7, .v (.int .i64 (x0.length : Int))), (8, .v (.int .i64 0))] _ rfl ⟨⟨rfl, rfl, rfl, trivial⟩, rfl⟩ (JO.done rfl ?_))))))))
    obtain ⟨j32, hj42, h⟩ := joinO_some h
    refine JS.blockJ (ι := Unit) ⟨fun _ => j32 () = some r, fun _ => [(1, .bp 2 0)], fun _ => (.new 2 37 [.slice a2 x0.length c3] .nil), fun _ => [⟨(.sl (.int .i64)), ⟨a2, x0.length, c3⟩, x0⟩], fun _ => [], fun _ => 0⟩ ?_ ?_
    · refine JS.loop (ι := Nat × Int) ⟨fun z => fixF (M_i_RingOk_L1 x0 j32) z.1 z.2 = some r, fun z => [(1, .bp 2 0), (6, .v (.slice a2 x0.length c3)), (7, .v (.int .i64 (x0.length : Int))), (8, .v (.int .i64 z.2))], fun z => (.new 2 37 [.slice a2 x0.length c3] .nil), fun z => [⟨(.sl (.int .i64)), ⟨a2, x0.length, c3⟩, x0⟩], fun z => [], fun z => z.1⟩ (FUEL, 0) h ⟨rfl, rfl, rfl, rfl, trivial⟩ ⟨rfl, rfl, rfl, rfl, trivial⟩ [0] rfl [] rfl ?_
      rintro ⟨n27, x6⟩ h
      obtain ⟨n27, rfl, h⟩ := fixF_some h
      rw [M_i_RingOk_L1] at h
      refine JS.seq (JS.region (JO.reg ttOk 1 [] [] [(9, .v (.bool (decide (x6 < (x0.length : Int)))))] _ rfl ⟨⟨rfl, trivial⟩, rfl⟩ (JO.done rfl (JS.seq ?_))))
      refine JS.cond rfl (fun ht41 => ?_) (fun ht41 => ?_)
      · have h := condT h ht41
        refine JS.skip (JS.seq (JS.block (JS.seq (JS.region (JO.know 0 rfl fun hs38 => ?_)))))
        obtain ⟨g11, h⟩ := guardO_some h
        refine JO.reg ttOk 1 [] [] [(10, .ep ⟨a2, x0.length, c3⟩ (Int.toNat x6 * 1))] _ rfl ⟨hs38.ix g11, ⟨rfl, trivial⟩, rfl⟩ (JO.openR 0 rfl (Int.toNat x6) (at' x0 x6) rfl fun a12 c13 ys14 hl15 hy16 => JO.loadV ttOk rfl rfl rfl rfl rfl rfl 0 rfl rfl (Int.toNat x6) 0 (Sl.v ⟨a12, (at' x0 x6).length, c13⟩) ⟨hy16 (ltNat g11), rfl⟩ rfl rfl rfl (JO.regB ttOk 2 [] [16] [(4, .bp 16 0)] (.new 2 37 [.slice a2 x0.length c3] (.new 16 159 [.slice a12 (at' x0 x6).length c13] .nil)) rfl ⟨⟨rfl, trivial⟩, ⟨rfl, rfl, rfl, rfl, rfl, rfl, rfl, rfl, trivial⟩⟩ (JO.done rfl (JS.seq (JS.region (JO.reg ttOk 7 [] [] [(16, .v (.bool (decide (((at' x0 x6).length : Int) = 0)))), (18, .cd [(16, false)] (.v (.slice a12 (at' x0 x6).length c13)))] _ rfl ⟨⟨rfl, rfl, trivial⟩, rfl⟩ ?_))))))
        obtain ⟨y17, hy18, -, h⟩ := callO_some h
        refine JO.callg rfl rfl rfl rfl (fun q39 => ok_i_areAdmissible (at' x0 x6) a12 c13 ((at' x0 x6).length) rfl _ (hy18 q39)) rfl [1] rfl rfl (JO.reg ttOk 2 [] [] [(21, .v (.bool (bif (decide (((at' x0 x6).length : Int) = 0)) then true else (!y17))))] _ rfl ⟨⟨rfl, trivial⟩, rfl⟩ (JO.done rfl ?_))
        refine JS.cond rfl (fun ht40 => ?_) (fun ht40 => ?_)
        · have h := condT h ht40
          refine JS.seq (JS.region (JO.reg ttOk 1 [] [] [(2, .v (.bool false))] _ rfl ⟨⟨rfl, trivial⟩, rfl⟩ (JO.done rfl ?_)))
          cases h
          exact JS.ret ttOk () trivial rfl rfl [] rfl
        have h := condF h ht40
        refine JS.skip (JS.endB (JS.region (JO.reg ttOk 2 [(W (x6 + 1))] [] [(8, .v (.int .i64 (W (x6 + 1))))] _ rfl ⟨⟨trivial, rfl⟩, ⟨rfl, trivial⟩, rfl⟩ (JO.done rfl (JS.endL (n27, (W (x6 + 1))) h (Nat.lt_succ_self _) ⟨rfl, rfl, rfl, rfl, trivial⟩ ⟨rfl, rfl, rfl, rfl, trivial⟩ [2] rfl [] rfl)))))
      have h := condF h ht41
      refine JS.exit rfl (JS.endJ () h ⟨rfl, trivial⟩ ⟨rfl, rfl, rfl, rfl, trivial⟩ [0] rfl [] rfl)
    rintro _ h
    subst hj42
    refine JS.seq (JS.region (JO.reg ttOk 5 [] [] [(2, .v (.bool (decide ((x0.length : Int) ≤ 6))))] _ rfl ⟨⟨rfl, trivial⟩, rfl⟩ (JO.done rfl ?_)))
    cases h
    exact JS.ret ttOk () trivial rfl rfl [] rfl

def M_i_UndoOk_L1 (x0 : List (List Int × Int)) (j29 : Unit → Option Bool) (k24 : Int → Option Bool) : Int → Option Bool := fun x6 =>
  (bif (decide (x6 < (x0.length : Int))) then
  (guardO (0 ≤ x6 ∧ x6 < (x0.length : Int)) <|
  (bindO (M_i_LineOk ((at' x0 x6).1, (at' x0 x6).2)) fun (y17 : Bool) =>
  (bif (!y17) then
  some false
  else
  k24 (W (x6 + 1)))))
  else
  j29 ())

def M_i_UndoOk (x0 : List (List Int × Int)) : Option Bool :=
  (joinO (fun (_ : Unit) =>
  some (decide ((x0.length : Int) ≤ 20))) fun j29 =>
  (fixF (M_i_UndoOk_L1 x0 j29) FUEL 0))

theorem ok_i_UndoOk (x0 : List (List Int × Int)) (a2 : Option Addr) (c3 : Nat) (l4 : Nat) (hl5 : x0.length = l4) (r : Bool) (h : M_i_UndoOk x0 = some r) :
    FC Tryz.prog 124 [.agg #[.slice a2 l4 c3]] [⟨(.pair (.sl (.int .i64)) (.int .i64)), ⟨a2, l4, c3⟩, x0⟩] (fun _ : Unit => True) (fun _ => .bool r) (fun _ => []) :=
  by
    subst hl5
    refine FC.of (T := TTx) Tryz.call124 Tryz.func124 rfl rfl fun w0 => ?_
    unfold M_i_UndoOk at h
    refine JS.seq (JS.region (JO.regB ttOk 2 [] [2] [(1, .bp 2 0)] (.new 2 40 [.slice a2 x0.length c3] .nil) rfl ⟨⟨rfl, trivial⟩, ⟨rfl, rfl, rfl, rfl, trivial⟩⟩ (JO.done rfl (JS.seq (JS.seq (JS.region (JO.reg ttOk 4 [] [] [(6, .v (.slice a2 x0.length c3)), (7, .v (.int .i64 (x0.length : Int))), (8, .v (.int .i64 0))] _ rfl ⟨⟨rfl, rfl, rfl, trivial⟩, rfl⟩ (JO.done rfl ?_))))))))
    obtain ⟨j29, hj37, h⟩ := joinO_some h
    refine JS.blockJ (ι := Unit) ⟨fun _ => j29 () = some r, fun _ => [(1, .bp 2 0)], fun _ => (.new 2 40 [.slice a2 x0.length c3] .nil), fun _ => [⟨(.pair (.sl (.int .i64)) (.int .i64)), ⟨a2, x0.length, c3⟩, x0⟩], fun _ => [], fun _ => 0⟩ ?_ ?_
    · refine JS.loop (ι := Nat × Int) ⟨fun z => fixF (M_i_UndoOk_L1 x0 j29) z.1 z.2 = some r, fun z => [(1, .bp 2 0), (6, .v (.slice a2 x0.length c3)), (7, .v (.int .i64 (x0.length : Int))), (8, .v (.int .i64 z.2))], fun z => (.new 2 40 [.slice a2 x0.length c3] .nil), fun z => [⟨(.pair (.sl (.int .i64)) (.int .i64)), ⟨a2, x0.length, c3⟩, x0⟩], fun z => [], fun z => z.1⟩ (FUEL, 0) h ⟨rfl, rfl, rfl, rfl, trivial⟩ ⟨rfl, rfl, rfl, rfl, trivial⟩ [0] rfl [] rfl ?_
      rintro ⟨n25, x6⟩ h
      obtain ⟨n25, rfl, h⟩ := fixF_some h
      rw [M_i_UndoOk_L1] at h
      refine JS.seq (JS.region (JO.reg ttOk 1 [] [] [(9, .v (.bool (decide (x6 < (x0.length : Int)))))] _ rfl ⟨⟨rfl, trivial⟩, rfl⟩ (JO.done rfl (JS.seq ?_))))
      refine JS.cond rfl (fun ht36 => ?_) (fun ht36 => ?_)
      · have h := condT h ht36
        refine JS.skip (JS.seq (JS.block (JS.seq (JS.region (JO.know 0 rfl fun hs34 => ?_)))))
        obtain ⟨g11, h⟩ := guardO_some h
        refine JO.reg ttOk 1 [] [] [(10, .ep ⟨a2, x0.length, c3⟩ (Int.toNat x6 * 2))] _ rfl ⟨hs34.ix g11, ⟨rfl, trivial⟩, rfl⟩ (JO.openR 0 rfl (Int.toNat x6) (at' x0 x6) rfl fun a12 c13 ys14 hl15 hy16 => JO.loadV ttOk rfl rfl rfl rfl rfl rfl 0 rfl rfl (Int.toNat x6) 0 ((Sl.v ⟨a12, ((at' x0 x6).1).length, c13⟩), (at' x0 x6).2) ⟨hy16 (ltNat g11), rfl⟩ rfl rfl rfl (JO.regB ttOk 2 [] [16] [(4, .bp 16 0)] (.new 2 40 [.slice a2 x0.length c3] (.new 16 34 [.slice a12 ((at' x0 x6).1).length c13, .int .i64 (at' x0 x6).2] .nil)) rfl ⟨⟨rfl, trivial⟩, ⟨rfl, rfl, rfl, rfl, rfl, rfl, rfl, rfl, trivial⟩⟩ (JO.done rfl (JS.seq (JS.region (JO.reg ttOk 1 [] [] [(12, .v (.agg #[.slice a12 ((at' x0 x6).1).length c13, .int .i64 (at' x0 x6).2]))] _ rfl ⟨⟨rfl, trivial⟩, rfl⟩ ?_))))))
        obtain ⟨y17, hy18, h⟩ := bindO_some h
        refine JO.call rfl rfl rfl rfl (ok_i_LineOk ((at' x0 x6).1, (at' x0 x6).2) a12 c13 (((at' x0 x6).1).length) rfl _ hy18) rfl [1] rfl rfl fun _ _ => JO.reg ttOk 1 [] [] [(14, .v (.bool (!y17)))] _ rfl ⟨⟨rfl, trivial⟩, rfl⟩ (JO.done rfl ?_)
        refine JS.cond rfl (fun ht35 => ?_) (fun ht35 => ?_)
        · have h := condT h ht35
          refine JS.seq (JS.region (JO.reg ttOk 1 [] [] [(2, .v (.bool false))] _ rfl ⟨⟨rfl, trivial⟩, rfl⟩ (JO.done rfl ?_)))
          cases h
          exact JS.ret ttOk () trivial rfl rfl [] rfl
        have h := condF h ht35
        refine JS.skip (JS.endB (JS.region (JO.reg ttOk 2 [(W (x6 + 1))] [] [(8, .v (.int .i64 (W (x6 + 1))))] _ rfl ⟨⟨trivial, rfl⟩, ⟨rfl, trivial⟩, rfl⟩ (JO.done rfl (JS.endL (n25, (W (x6 + 1))) h (Nat.lt_succ_self _) ⟨rfl, rfl, rfl, rfl, trivial⟩ ⟨rfl, rfl, rfl, rfl, trivial⟩ [2] rfl [] rfl)))))
      have h := condF h ht36
      refine JS.exit rfl (JS.endJ () h ⟨rfl, trivial⟩ ⟨rfl, rfl, rfl, rfl, trivial⟩ [0] rfl [] rfl)
    rintro _ h
    subst hj37
    refine JS.seq (JS.region (JO.reg ttOk 5 [] [] [(2, .v (.bool (decide ((x0.length : Int) ≤ 20))))] _ rfl ⟨⟨rfl, trivial⟩, rfl⟩ (JO.done rfl ?_)))
    cases h
    exact JS.ret ttOk () trivial rfl rfl [] rfl

def M_i_emptyLine (x0 : List Int × Int) : Option Bool :=
  some (bif (decide ((x0.1.length : Int) = 0)) then (decide (x0.2 = 0)) else false)

theorem ok_i_emptyLine (x0 : List Int × Int) (a2 : Option Addr) (c3 : Nat) (l4 : Nat) (hl5 : x0.1.length = l4) (r : Bool) (h : M_i_emptyLine x0 = some r) :
    FC Tryz.prog 125 [.agg #[.slice a2 l4 c3, .int .i64 x0.2]] [⟨(.int .i64), ⟨a2, l4, c3⟩, x0.1⟩] (fun _ : Unit => True) (fun _ => .bool r) (fun _ => []) :=
  by
    subst hl5
    refine FC.of (T := TTx) Tryz.call125 Tryz.func125 rfl rfl fun w0 => ?_
    unfold M_i_emptyLine at h
    refine JS.seq (JS.region (JO.regB ttOk 2 [] [2] [(1, .bp 2 0)] (.new 2 34 [.slice a2 x0.1.length c3, .int .i64 x0.2] .nil) rfl ⟨⟨rfl, trivial⟩, ⟨rfl, rfl, rfl, rfl, trivial⟩⟩ (JO.done rfl (JS.seq (JS.region (JO.reg ttOk 10 [] [] [(2, .v (.bool (bif (decide ((x0.1.length : Int) = 0)) then (decide (x0.2 = 0)) else false)))] _ rfl ⟨⟨rfl, trivial⟩, rfl⟩ (JO.done rfl ?_)))))))
    cases h
    exact JS.ret ttOk () trivial rfl rfl [] rfl

def M_i_EdOk_L1 (x0 : Bool × Int × (List Int × Int) × Int × Int × Int × Int × Int × Int × Int × List (List Int) × (List (List Int × Int)) × Int × (List Int × Int) × List Int × Int × List Int × Int) (j116 : Unit → Option Bool) (k111 : Int → Option Bool) : Int → Option Bool := fun x69 =>
  (bif (decide (x69 < (x0.2.2.2.2.2.2.2.2.2.2.2.2.2.2.1.length : Int))) then
  (guardO (0 ≤ x69 ∧ x69 < (x0.2.2.2.2.2.2.2.2.2.2.2.2.2.2.1.length : Int)) <|
  (bindO (M_i_Printable (at' x0.2.2.2.2.2.2.2.2.2.2.2.2.2.2.1 x69)) fun (y104 : Bool) =>
  (bif (!y104) then
  some false
  else
  k111 (W (x69 + 1)))))
  else
  j116 ())

def M_i_EdOk (x0 : Bool × Int × (List Int × Int) × Int × Int × Int × Int × Int × Int × Int × List (List Int) × (List (List Int × Int)) × Int × (List Int × Int) × List Int × Int × List Int × Int) : Option Bool :=
  (bindO (M_i_LineOk x0.2.2.1) fun (y26 : Bool) =>
  (callO ((!y26) = false) (M_i_LineOk x0.2.2.2.2.2.2.2.2.2.2.2.2.2.1) false fun (y28 : Bool) =>
  (callO ((bif (!y26) then true else (!y28)) = false) (M_i_LineOk x0.2.2.2.2.2.2.2.2.2.2.2.2.2.2.2.2) false fun (y31 : Bool) =>
  (callO ((bif (bif (!y26) then true else (!y28)) then true else (!y31)) = false) (M_i_in x0.2.2.2.1 0 999) false fun (y34 : Bool) =>
  (callO ((bif (bif (bif (!y26) then true else (!y28)) then true else (!y31)) then true else (!y34)) = false) (M_i_in x0.2.2.2.2.2.1 0 999) false fun (y37 : Bool) =>
  (callO ((bif (bif (bif (bif (!y26) then true else (!y28)) then true else (!y31)) then true else (!y34)) then true else (!y37)) = false) (M_i_modeOk x0) false fun (y40 : Bool) =>
  (bif (bif (bif (bif (bif (bif (!y26) then true else (!y28)) then true else (!y31)) then true else (!y34)) then true else (!y37)) then true else (!y40)) then
  some false
  else
  (callO ((!(decide (x0.2.2.2.2.2.2.2.1 = 0))) = true ∧ (bif (decide (x0.2.2.2.2.2.2.2.1 = 0)) then (!(decide (x0.2.2.2.2.2.2.2.2.1 = 0))) else false) = false) (M_i_Printable x0.2.2.2.2.2.2.2.1) false fun (y43 : Bool) =>
  (callO ((!y43) = false ∧ (!(decide (x0.2.2.2.2.2.2.2.1 = 0))) = true ∧ (bif (decide (x0.2.2.2.2.2.2.2.1 = 0)) then (!(decide (x0.2.2.2.2.2.2.2.2.1 = 0))) else false) = false) (M_i_in x0.2.2.2.2.2.2.2.2.1 0 3) false fun (y47 : Bool) =>
  (bif (bif (bif (decide (x0.2.2.2.2.2.2.2.1 = 0)) then (!(decide (x0.2.2.2.2.2.2.2.2.1 = 0))) else false) then true else (bif (!(decide (x0.2.2.2.2.2.2.2.1 = 0))) then (bif (!y43) then true else (!y47)) else false)) then
  some false
  else
  (bindO (M_i_in x0.2.2.2.2.2.2.2.2.2.1 0 3) fun (y52 : Bool) =>
  (callO ((!y52) = false) (M_i_RingOk x0.2.2.2.2.2.2.2.2.2.2.1) false fun (y54 : Bool) =>
  (callO ((bif (!y52) then true else (!y54)) = false) (M_i_UndoOk x0.2.2.2.2.2.2.2.2.2.2.2.1) false fun (y57 : Bool) =>
  (callO ((bif (bif (!y52) then true else (!y54)) then true else (!y57)) = false) (M_i_in x0.2.2.2.2.2.2.2.2.2.2.2.2.1 0 1000000060) false fun (y60 : Bool) =>
  (callO ((bif (bif (bif (!y52) then true else (!y54)) then true else (!y57)) then true else (!y60)) = false) (M_i_in x0.2.2.2.2.2.2.2.2.2.2.2.2.2.2.2.1 0 1000000060) false fun (y63 : Bool) =>
  (bif (bif (bif (bif (bif (!y52) then true else (!y54)) then true else (!y57)) then true else (!y60)) then true else (!y63)) then
  some false
  else
  (callO ((decide (x0.2.2.2.2.2.2.2.2.2.2.2.2.1 = 0)) = true) (M_i_emptyLine x0.2.2.2.2.2.2.2.2.2.2.2.2.2.1) false fun (y66 : Bool) =>
  (bif (bif (bif (decide (x0.2.2.2.2.2.2.2.2.2.2.2.2.1 = 0)) then (!y66) else false) then true else (decide (40 < (x0.2.2.2.2.2.2.2.2.2.2.2.2.2.2.1.length : Int)))) then
  some false
  else
  (joinO (fun (_ : Unit) =>
  (callO ((bif (decide ((x0.2.2.2.2.2.2.2.2.2.2.2.2.2.2.1.length : Int) = 0)) then (decide (x0.2.2.2.2.2.2.2.2.2.2.2.2.2.2.2.1 = 0)) else false) = true ∧ (decide (x0.2.1 = 3)) = false) (M_i_emptyLine x0.2.2.2.2.2.2.2.2.2.2.2.2.2.2.2.2) false fun (y120 : Bool) =>
  some (bif (decide (x0.2.1 = 3)) then true else (bif (bif (decide ((x0.2.2.2.2.2.2.2.2.2.2.2.2.2.2.1.length : Int) = 0)) then (decide (x0.2.2.2.2.2.2.2.2.2.2.2.2.2.2.2.1 = 0)) else false) then y120 else false)))) fun j116 =>
  (fixF (M_i_EdOk_L1 x0 j116) FUEL 0))))))))))))))))))))

theorem ok_i_EdOk (x0 : Bool × Int × (List Int × Int) × Int × Int × Int × Int × Int × Int × Int × List (List Int) × (List (List Int × Int)) × Int × (List Int × Int) × List Int × Int × List Int × Int) (a2 : Option Addr) (c3 : Nat) (l4 : Nat) (hl5 : x0.2.2.1.1.length = l4) (a6 : Option Addr) (c7 : Nat) (l8 : Nat) (hl9 : x0.2.2.2.2.2.2.2.2.2.2.1.length = l8) (a10 : Option Addr) (c11 : Nat) (l12 : Nat) (hl13 : x0.2.2.2.2.2.2.2.2.2.2.2.1.length = l12) (a14 : Option Addr) (c15 : Nat) (l16 : Nat) (hl17 : x0.2.2.2.2.2.2.2.2.2.2.2.2.2.1.1.length = l16) (a18 : Option Addr) (c19 : Nat) (l20 : Nat) (hl21 : x0.2.2.2.2.2.2.2.2.2.2.2.2.2.2.1.length = l20) (a22 : Option Addr) (c23 : Nat) (l24 : Nat) (hl25 : x0.2.2.2.2.2.2.2.2.2.2.2.2.2.2.2.2.1.length = l24) (r : Bool) (h : M_i_EdOk x0 = some r) :
    FC Tryz.prog 40 [.agg #[.bool x0.1, .int .i64 x0.2.1, .slice a2 l4 c3, .int .i64 x0.2.2.1.2, .int .i64 x0.2.2.2.1, .int .i64 x0.2.2.2.2.1, .int .i64 x0.2.2.2.2.2.1, .int .i64 x0.2.2.2.2.2.2.1, .int .i64 x0.2.2.2.2.2.2.2.1, .int .i64 x0.2.2.2.2.2.2.2.2.1, .int .i64 x0.2.2.2.2.2.2.2.2.2.1, .slice a6 l8 c7, .slice a10 l12 c11, .int .i64 x0.2.2.2.2.2.2.2.2.2.2.2.2.1, .slice a14 l16 c15, .int .i64 x0.2.2.2.2.2.2.2.2.2.2.2.2.2.1.2, .slice a18 l20 c19, .int .i64 x0.2.2.2.2.2.2.2.2.2.2.2.2.2.2.2.1, .slice a22 l24 c23, .int .i64 x0.2.2.2.2.2.2.2.2.2.2.2.2.2.2.2.2.2]] [⟨(.int .i64), ⟨a2, l4, c3⟩, x0.2.2.1.1⟩, ⟨(.sl (.int .i64)), ⟨a6, l8, c7⟩, x0.2.2.2.2.2.2.2.2.2.2.1⟩, ⟨(.pair (.sl (.int .i64)) (.int .i64)), ⟨a10, l12, c11⟩, x0.2.2.2.2.2.2.2.2.2.2.2.1⟩, ⟨(.int .i64), ⟨a14, l16, c15⟩, x0.2.2.2.2.2.2.2.2.2.2.2.2.2.1.1⟩, ⟨(.int .i64), ⟨a18, l20, c19⟩, x0.2.2.2.2.2.2.2.2.2.2.2.2.2.2.1⟩, ⟨(.int .i64), ⟨a22, l24, c23⟩, x0.2.2.2.2.2.2.2.2.2.2.2.2.2.2.2.2.1⟩] (fun _ : Unit => True) (fun _ => .bool r) (fun _ => []) :=
  by
    subst hl5
    subst hl9
    subst hl13
    subst hl17
    subst hl21
    subst hl25
    refine FC.of (T := TTx) Tryz.call40 Tryz.func40 rfl rfl fun w0 => ?_
    unfold M_i_EdOk at h
    refine JS.seq (JS.region (JO.regB ttOk 2 [] [7] [(1, .bp 7 0)] (.new 7 42 (cl42 x0 a2 c3 a6 c7 a10 c11 a14 c15 a18 c19 a22 c23) .nil) rfl ⟨⟨rfl, trivial⟩, ⟨rfl, rfl, rfl, rfl, trivial⟩⟩ (JO.done rfl (JS.seq (JS.seq (JS.region (JO.reg ttOk 2 [] [] [(6, .v (.agg #[.slice a2 x0.2.2.1.1.length c3, .int .i64 x0.2.2.1.2]))] _ rfl ⟨⟨rfl, trivial⟩, rfl⟩ ?_)))))))
    obtain ⟨y26, hy27, h⟩ := bindO_some h
    refine JO.call rfl rfl rfl rfl (ok_i_LineOk x0.2.2.1 a2 c3 x0.2.2.1.1.length rfl _ hy27) rfl [0] rfl rfl fun _ _ => JO.reg ttOk 4 [] [] [(9, .v (.bool (!y26))), (11, .cd [(9, false)] (.v (.agg #[.slice a14 x0.2.2.2.2.2.2.2.2.2.2.2.2.2.1.1.length c15, .int .i64 x0.2.2.2.2.2.2.2.2.2.2.2.2.2.1.2])))] _ rfl ⟨⟨rfl, rfl, trivial⟩, rfl⟩ ?_
    obtain ⟨y28, hy29, -, h⟩ := callO_some h
    refine JO.callg rfl rfl rfl rfl (fun q129 => ok_i_LineOk x0.2.2.2.2.2.2.2.2.2.2.2.2.2.1 a14 c15 x0.2.2.2.2.2.2.2.2.2.2.2.2.2.1.1.length rfl _ (hy29 q129)) rfl [3] rfl rfl (JO.reg ttOk 5 [] [] [(15, .v (.bool (bif (!y26) then true else (!y28)))), (17, .cd [(15, false)] (.v (.agg #[.slice a22 x0.2.2.2.2.2.2.2.2.2.2.2.2.2.2.2.2.1.length c23, .int .i64 x0.2.2.2.2.2.2.2.2.2.2.2.2.2.2.2.2.2])))] _ rfl ⟨⟨rfl, rfl, trivial⟩, rfl⟩ ?_)
    obtain ⟨y31, hy32, -, h⟩ := callO_some h
    refine JO.callg rfl rfl rfl rfl (fun q130 => ok_i_LineOk x0.2.2.2.2.2.2.2.2.2.2.2.2.2.2.2.2 a22 c23 x0.2.2.2.2.2.2.2.2.2.2.2.2.2.2.2.2.1.length rfl _ (hy32 q130)) rfl [5] rfl rfl (JO.reg ttOk 5 [] [] [(21, .v (.bool (bif (bif (!y26) then true else (!y28)) then true else (!y31)))), (23, .cd [(21, false)] (.v (.int .i64 x0.2.2.2.1)))] _ rfl ⟨⟨rfl, rfl, trivial⟩, rfl⟩ ?_)
    obtain ⟨y34, hy35, -, h⟩ := callO_some h
    refine JO.callg rfl rfl rfl rfl (fun q131 => ok_i_in x0.2.2.2.1 0 999 _ (hy35 q131)) rfl [] rfl rfl (JO.reg ttOk 5 [] [] [(27, .v (.bool (bif (bif (bif (!y26) then true else (!y28)) then true else (!y31)) then true else (!y34)))), (29, .cd [(27, false)] (.v (.int .i64 x0.2.2.2.2.2.1)))] _ rfl ⟨⟨rfl, rfl, trivial⟩, rfl⟩ ?_)
    obtain ⟨y37, hy38, -, h⟩ := callO_some h
    refine JO.callg rfl rfl rfl rfl (fun q132 => ok_i_in x0.2.2.2.2.2.1 0 999 _ (hy38 q132)) rfl [] rfl rfl (JO.reg ttOk 4 [] [] [(33, .v (.bool (bif (bif (bif (bif (!y26) then true else (!y28)) then true else (!y31)) then true else (!y34)) then true else (!y37)))), (34, .cd [(33, false)] (.v (.agg (cl42 x0 a2 c3 a6 c7 a10 c11 a14 c15 a18 c19 a22 c23).toArray)))] _ rfl ⟨⟨rfl, rfl, trivial⟩, rfl⟩ ?_)
    obtain ⟨y40, hy41, -, h⟩ := callO_some h
    refine JO.callg rfl rfl rfl rfl (fun q133 => ok_i_modeOk x0 a2 c3 x0.2.2.1.1.length rfl a6 c7 x0.2.2.2.2.2.2.2.2.2.2.1.length rfl a10 c11 x0.2.2.2.2.2.2.2.2.2.2.2.1.length rfl a14 c15 x0.2.2.2.2.2.2.2.2.2.2.2.2.2.1.1.length rfl a18 c19 x0.2.2.2.2.2.2.2.2.2.2.2.2.2.2.1.length rfl a22 c23 x0.2.2.2.2.2.2.2.2.2.2.2.2.2.2.2.2.1.length rfl _ (hy41 q133)) rfl [0, 1, 2, 3, 4, 5] rfl rfl (JO.reg ttOk 2 [] [] [(37, .v (.bool (bif (bif (bif (bif (bif (!y26) then true else (!y28)) then true else (!y31)) then true else (!y34)) then true else (!y37)) then true else (!y40))))] _ rfl ⟨⟨rfl, trivial⟩, rfl⟩ (JO.done rfl ?_))
    refine JS.cond rfl (fun ht153 => ?_) (fun ht153 => ?_)
    · have h := condT h ht153
      refine JS.seq (JS.region (JO.reg ttOk 1 [] [] [(2, .v (.bool false))] _ rfl ⟨⟨rfl, trivial⟩, rfl⟩ (JO.done rfl ?_)))
      cases h
      exact JS.ret ttOk () trivial rfl rfl [] rfl
    have h := condF h ht153
    refine JS.skip (JS.seq (JS.seq (JS.region (JO.reg ttOk 15 [] [] [(46, .v (.bool (bif (decide (x0.2.2.2.2.2.2.2.1 = 0)) then (!(decide (x0.2.2.2.2.2.2.2.2.1 = 0))) else false))), (50, .cd [(46, false)] (.v (.bool (!(decide (x0.2.2.2.2.2.2.2.1 = 0)))))), (52, .cd [(50, true), (46, false)] (.v (.int .i64 x0.2.2.2.2.2.2.2.1)))] _ rfl ⟨⟨rfl, rfl, rfl, trivial⟩, rfl⟩ ?_))))
    obtain ⟨y43, hy44, -, h⟩ := callO_some h
    refine JO.callg rfl rfl rfl rfl (fun q134 q135 => ok_i_Printable x0.2.2.2.2.2.2.2.1 _ (hy44 ⟨q134, q135⟩)) rfl [] rfl rfl (JO.reg ttOk 4 [] [] [(55, .cd [(50, true), (46, false)] (.v (.bool (!y43)))), (57, .cd [(55, false), (50, true), (46, false)] (.v (.int .i64 x0.2.2.2.2.2.2.2.2.1)))] _ rfl ⟨⟨rfl, rfl, trivial⟩, rfl⟩ ?_)
    obtain ⟨y47, hy48, -, h⟩ := callO_some h
    refine JO.callg rfl rfl rfl rfl (fun q136 q137 q138 => ok_i_in x0.2.2.2.2.2.2.2.2.1 0 3 _ (hy48 ⟨q136, q137, q138⟩)) rfl [] rfl rfl (JO.reg ttOk 4 [] [] [(62, .v (.bool (bif (bif (decide (x0.2.2.2.2.2.2.2.1 = 0)) then (!(decide (x0.2.2.2.2.2.2.2.2.1 = 0))) else false) then true else (bif (!(decide (x0.2.2.2.2.2.2.2.1 = 0))) then (bif (!y43) then true else (!y47)) else false))))] _ rfl ⟨⟨rfl, trivial⟩, rfl⟩ (JO.done rfl ?_))
    refine JS.cond rfl (fun ht152 => ?_) (fun ht152 => ?_)
    · have h := condT h ht152
      refine JS.seq (JS.region (JO.reg ttOk 1 [] [] [(2, .v (.bool false))] _ rfl ⟨⟨rfl, trivial⟩, rfl⟩ (JO.done rfl ?_)))
      cases h
      exact JS.ret ttOk () trivial rfl rfl [] rfl
    have h := condF h ht152
    refine JS.skip (JS.seq (JS.seq (JS.region (JO.reg ttOk 2 [] [] [(64, .v (.int .i64 x0.2.2.2.2.2.2.2.2.2.1))] _ rfl ⟨⟨rfl, trivial⟩, rfl⟩ ?_))))
    obtain ⟨y52, hy53, h⟩ := bindO_some h
    refine JO.call rfl rfl rfl rfl (ok_i_in x0.2.2.2.2.2.2.2.2.2.1 0 3 _ hy53) rfl [] rfl rfl fun _ _ => JO.reg ttOk 4 [] [] [(67, .v (.bool (!y52))), (69, .cd [(67, false)] (.v (.agg #[.slice a6 x0.2.2.2.2.2.2.2.2.2.2.1.length c7])))] _ rfl ⟨⟨rfl, rfl, trivial⟩, rfl⟩ ?_
    obtain ⟨y54, hy55, -, h⟩ := callO_some h
    refine JO.callg rfl rfl rfl rfl (fun q139 => ok_i_RingOk x0.2.2.2.2.2.2.2.2.2.2.1 a6 c7 x0.2.2.2.2.2.2.2.2.2.2.1.length rfl _ (hy55 q139)) rfl [1] rfl rfl (JO.reg ttOk 5 [] [] [(73, .v (.bool (bif (!y52) then true else (!y54)))), (75, .cd [(73, false)] (.v (.agg #[.slice a10 x0.2.2.2.2.2.2.2.2.2.2.2.1.length c11])))] _ rfl ⟨⟨rfl, rfl, trivial⟩, rfl⟩ ?_)
    obtain ⟨y57, hy58, -, h⟩ := callO_some h
    refine JO.callg rfl rfl rfl rfl (fun q140 => ok_i_UndoOk x0.2.2.2.2.2.2.2.2.2.2.2.1 a10 c11 x0.2.2.2.2.2.2.2.2.2.2.2.1.length rfl _ (hy58 q140)) rfl [2] rfl rfl (JO.reg ttOk 5 [] [] [(79, .v (.bool (bif (bif (!y52) then true else (!y54)) then true else (!y57)))), (81, .cd [(79, false)] (.v (.int .i64 x0.2.2.2.2.2.2.2.2.2.2.2.2.1)))] _ rfl ⟨⟨rfl, rfl, trivial⟩, rfl⟩ ?_)
    obtain ⟨y60, hy61, -, h⟩ := callO_some h
    refine JO.callg rfl rfl rfl rfl (fun q141 => ok_i_in x0.2.2.2.2.2.2.2.2.2.2.2.2.1 0 1000000060 _ (hy61 q141)) rfl [] rfl rfl (JO.reg ttOk 5 [] [] [(85, .v (.bool (bif (bif (bif (!y52) then true else (!y54)) then true else (!y57)) then true else (!y60)))), (87, .cd [(85, false)] (.v (.int .i64 x0.2.2.2.2.2.2.2.2.2.2.2.2.2.2.2.1)))] _ rfl ⟨⟨rfl, rfl, trivial⟩, rfl⟩ ?_)
    obtain ⟨y63, hy64, -, h⟩ := callO_some h
    refine JO.callg rfl rfl rfl rfl (fun q142 => ok_i_in x0.2.2.2.2.2.2.2.2.2.2.2.2.2.2.2.1 0 1000000060 _ (hy64 q142)) rfl [] rfl rfl (JO.reg ttOk 2 [] [] [(90, .v (.bool (bif (bif (bif (bif (!y52) then true else (!y54)) then true else (!y57)) then true else (!y60)) then true else (!y63))))] _ rfl ⟨⟨rfl, trivial⟩, rfl⟩ (JO.done rfl ?_))
    refine JS.cond rfl (fun ht151 => ?_) (fun ht151 => ?_)
    · have h := condT h ht151
      refine JS.seq (JS.region (JO.reg ttOk 1 [] [] [(2, .v (.bool false))] _ rfl ⟨⟨rfl, trivial⟩, rfl⟩ (JO.done rfl ?_)))
      cases h
      exact JS.ret ttOk () trivial rfl rfl [] rfl
    have h := condF h ht151
    refine JS.skip (JS.seq (JS.seq (JS.region (JO.reg ttOk 6 [] [] [(94, .v (.bool (decide (x0.2.2.2.2.2.2.2.2.2.2.2.2.1 = 0)))), (96, .cd [(94, true)] (.v (.agg #[.slice a14 x0.2.2.2.2.2.2.2.2.2.2.2.2.2.1.1.length c15, .int .i64 x0.2.2.2.2.2.2.2.2.2.2.2.2.2.1.2])))] _ rfl ⟨⟨rfl, rfl, trivial⟩, rfl⟩ ?_))))
    obtain ⟨y66, hy67, -, h⟩ := callO_some h
    refine JO.callg rfl rfl rfl rfl (fun q143 => ok_i_emptyLine x0.2.2.2.2.2.2.2.2.2.2.2.2.2.1 a14 c15 x0.2.2.2.2.2.2.2.2.2.2.2.2.2.1.1.length rfl _ (hy67 q143)) rfl [3] rfl rfl (JO.reg ttOk 8 [] [] [(105, .v (.bool (bif (bif (decide (x0.2.2.2.2.2.2.2.2.2.2.2.2.1 = 0)) then (!y66) else false) then true else (decide (40 < (x0.2.2.2.2.2.2.2.2.2.2.2.2.2.2.1.length : Int))))))] _ rfl ⟨⟨rfl, trivial⟩, rfl⟩ (JO.done rfl ?_))
    refine JS.cond rfl (fun ht150 => ?_) (fun ht150 => ?_)
    · have h := condT h ht150
      refine JS.seq (JS.region (JO.reg ttOk 1 [] [] [(2, .v (.bool false))] _ rfl ⟨⟨rfl, trivial⟩, rfl⟩ (JO.done rfl ?_)))
      cases h
      exact JS.ret ttOk () trivial rfl rfl [] rfl
    have h := condF h ht150
    refine JS.skip (JS.seq (JS.seq (JS.region (JO.reg ttOk 4 [] [] [(107, .v (.slice a18 x0.2.2.2.2.2.2.2.2.2.2.2.2.2.2.1.length c19)), (108, .v (.int .i64 (x0.2.2.2.2.2.2.2.2.2.2.2.2.2.2.1.length : Int))), (109, .v (.int .i64 0))] _ rfl ⟨⟨rfl, rfl, rfl, trivial⟩, rfl⟩ (JO.done rfl ?_)))))
    obtain ⟨j116, hj149, h⟩ := joinO_some h
    refine JS.blockJ (ι := Unit) ⟨fun _ => j116 () = some r, fun _ => [(1, .bp 7 0)], fun _ => (.new 7 42 (cl42 x0 a2 c3 a6 c7 a10 c11 a14 c15 a18 c19 a22 c23) .nil), fun _ => [⟨(.int .i64), ⟨a2, x0.2.2.1.1.length, c3⟩, x0.2.2.1.1⟩, ⟨(.sl (.int .i64)), ⟨a6, x0.2.2.2.2.2.2.2.2.2.2.1.length, c7⟩, x0.2.2.2.2.2.2.2.2.2.2.1⟩, ⟨(.pair (.sl (.int .i64)) (.int .i64)), ⟨a10, x0.2.2.2.2.2.2.2.2.2.2.2.1.length, c11⟩, x0.2.2.2.2.2.2.2.2.2.2.2.1⟩, ⟨(.int .i64), ⟨a14, x0.2.2.2.2.2.2.2.2.2.2.2.2.2.1.1.length, c15⟩, x0.2.2.2.2.2.2.2.2.2.2.2.2.2.1.1⟩, ⟨(.int .i64), ⟨a18, x0.2.2.2.2.2.2.2.2.2.2.2.2.2.2.1.length, c19⟩, x0.2.2.2.2.2.2.2.2.2.2.2.2.2.2.1⟩, ⟨(.int .i64), ⟨a22, x0.2.2.2.2.2.2.2.2.2.2.2.2.2.2.2.2.1.length, c23⟩, x0.2.2.2.2.2.2.2.2.2.2.2.2.2.2.2.2.1⟩], fun _ => [], fun _ => 0⟩ ?_ ?_
    · refine JS.loop (ι := Nat × Int) ⟨fun z => fixF (M_i_EdOk_L1 x0 j116) z.1 z.2 = some r, fun z => [(1, .bp 7 0), (107, .v (.slice a18 x0.2.2.2.2.2.2.2.2.2.2.2.2.2.2.1.length c19)), (108, .v (.int .i64 (x0.2.2.2.2.2.2.2.2.2.2.2.2.2.2.1.length : Int))), (109, .v (.int .i64 z.2))], fun z => (.new 7 42 (cl42 x0 a2 c3 a6 c7 a10 c11 a14 c15 a18 c19 a22 c23) .nil), fun z => [⟨(.int .i64), ⟨a18, x0.2.2.2.2.2.2.2.2.2.2.2.2.2.2.1.length, c19⟩, x0.2.2.2.2.2.2.2.2.2.2.2.2.2.2.1⟩, ⟨(.int .i64), ⟨a2, x0.2.2.1.1.length, c3⟩, x0.2.2.1.1⟩, ⟨(.sl (.int .i64)), ⟨a6, x0.2.2.2.2.2.2.2.2.2.2.1.length, c7⟩, x0.2.2.2.2.2.2.2.2.2.2.1⟩, ⟨(.pair (.sl (.int .i64)) (.int .i64)), ⟨a10, x0.2.2.2.2.2.2.2.2.2.2.2.1.length, c11⟩, x0.2.2.2.2.2.2.2.2.2.2.2.1⟩, ⟨(.int .i64), ⟨a14, x0.2.2.2.2.2.2.2.2.2.2.2.2.2.1.1.length, c15⟩, x0.2.2.2.2.2.2.2.2.2.2.2.2.2.1.1⟩, ⟨(.int .i64), ⟨a22, x0.2.2.2.2.2.2.2.2.2.2.2.2.2.2.2.2.1.length, c23⟩, x0.2.2.2.2.2.2.2.2.2.2.2.2.2.2.2.2.1⟩], fun z => [], fun z => z.1⟩ (FUEL, 0) h ⟨rfl, rfl, rfl, rfl, trivial⟩ ⟨rfl, rfl, rfl, rfl, trivial⟩ [4, 0, 1, 2, 3, 5] rfl [] rfl ?_
      rintro ⟨n112, x69⟩ h
      obtain ⟨n112, rfl, h⟩ := fixF_some h
      rw [M_i_EdOk_L1] at h
      refine JS.seq (JS.region (JO.reg ttOk 1 [] [] [(110, .v (.bool (decide (x69 < (x0.2.2.2.2.2.2.2.2.2.2.2.2.2.2.1.length : Int)))))] _ rfl ⟨⟨rfl, trivial⟩, rfl⟩ (JO.done rfl (JS.seq ?_))))
      refine JS.cond rfl (fun ht146 => ?_) (fun ht146 => ?_)
      · have h := condT h ht146
        refine JS.skip (JS.seq (JS.block (JS.seq (JS.region (JO.know 0 rfl fun hs144 => ?_)))))
        obtain ⟨g103, h⟩ := guardO_some h
        refine JO.reg ttOk 1 [] [] [(111, .ep ⟨a18, x0.2.2.2.2.2.2.2.2.2.2.2.2.2.2.1.length, c19⟩ (Int.toNat x69 * 1))] _ rfl ⟨hs144.ix g103, ⟨rfl, trivial⟩, rfl⟩ (JO.load ttOk rfl rfl rfl rfl rfl rfl rfl 0 rfl rfl (Int.toNat x69) 0 (at' x0.2.2.2.2.2.2.2.2.2.2.2.2.2.2.1 x69) ⟨at_some g103, rfl⟩ rfl rfl (JO.reg ttOk 1 [] [] [(4, .v (.int .i64 (at' x0.2.2.2.2.2.2.2.2.2.2.2.2.2.2.1 x69)))] _ rfl ⟨⟨rfl, trivial⟩, rfl⟩ (JO.done rfl (JS.seq (JS.region (JO.reg ttOk 1 [] [] [(113, .v (.int .i64 (at' x0.2.2.2.2.2.2.2.2.2.2.2.2.2.2.1 x69)))] _ rfl ⟨⟨rfl, trivial⟩, rfl⟩ ?_))))))
        obtain ⟨y104, hy105, h⟩ := bindO_some h
        refine JO.call rfl rfl rfl rfl (ok_i_Printable (at' x0.2.2.2.2.2.2.2.2.2.2.2.2.2.2.1 x69) _ hy105) rfl [] rfl rfl fun _ _ => JO.reg ttOk 1 [] [] [(115, .v (.bool (!y104)))] _ rfl ⟨⟨rfl, trivial⟩, rfl⟩ (JO.done rfl ?_)
        refine JS.cond rfl (fun ht145 => ?_) (fun ht145 => ?_)
        · have h := condT h ht145
          refine JS.seq (JS.region (JO.reg ttOk 1 [] [] [(2, .v (.bool false))] _ rfl ⟨⟨rfl, trivial⟩, rfl⟩ (JO.done rfl ?_)))
          cases h
          exact JS.ret ttOk () trivial rfl rfl [] rfl
        have h := condF h ht145
        refine JS.skip (JS.endB (JS.region (JO.reg ttOk 2 [(W (x69 + 1))] [] [(109, .v (.int .i64 (W (x69 + 1))))] _ rfl ⟨⟨trivial, rfl⟩, ⟨rfl, trivial⟩, rfl⟩ (JO.done rfl (JS.endL (n112, (W (x69 + 1))) h (Nat.lt_succ_self _) ⟨rfl, rfl, rfl, rfl, trivial⟩ ⟨rfl, rfl, rfl, rfl, trivial⟩ [0, 1, 2, 3, 4, 5] rfl [] rfl)))))
      have h := condF h ht146
      refine JS.exit rfl (JS.endJ () h ⟨rfl, trivial⟩ ⟨rfl, rfl, rfl, rfl, trivial⟩ [1, 2, 3, 4, 0, 5] rfl [] rfl)
    rintro _ h
    subst hj149
    refine JS.seq (JS.region (JO.reg ttOk 16 [] [] [(120, .v (.bool (decide (x0.2.1 = 3)))), (130, .cd [(120, false)] (.v (.bool (bif (decide ((x0.2.2.2.2.2.2.2.2.2.2.2.2.2.2.1.length : Int) = 0)) then (decide (x0.2.2.2.2.2.2.2.2.2.2.2.2.2.2.2.1 = 0)) else false)))), (132, .cd [(130, true), (120, false)] (.v (.agg #[.slice a22 x0.2.2.2.2.2.2.2.2.2.2.2.2.2.2.2.2.1.length c23, .int .i64 x0.2.2.2.2.2.2.2.2.2.2.2.2.2.2.2.2.2])))] _ rfl ⟨⟨rfl, rfl, rfl, trivial⟩, rfl⟩ ?_))
    obtain ⟨y120, hy121, -, h⟩ := callO_some h
    refine JO.callg rfl rfl rfl rfl (fun q147 q148 => ok_i_emptyLine x0.2.2.2.2.2.2.2.2.2.2.2.2.2.2.2.2 a22 c23 x0.2.2.2.2.2.2.2.2.2.2.2.2.2.2.2.2.1.length rfl _ (hy121 ⟨q147, q148⟩)) rfl [5] rfl rfl (JO.reg ttOk 3 [] [] [(2, .v (.bool (bif (decide (x0.2.1 = 3)) then true else (bif (bif (decide ((x0.2.2.2.2.2.2.2.2.2.2.2.2.2.2.1.length : Int) = 0)) then (decide (x0.2.2.2.2.2.2.2.2.2.2.2.2.2.2.2.1 = 0)) else false) then y120 else false))))] _ rfl ⟨⟨rfl, trivial⟩, rfl⟩ (JO.done rfl ?_))
    cases h
    exact JS.ret ttOk () trivial rfl rfl [] rfl

def M_i_inLine (x0 : List Int × Int) (x1 : Int) (x2 : Int) : Option Bool :=
  (bindO (M_i_LineOk x0) fun (y8 : Bool) =>
  some (bif (bif (bif y8 then (decide (0 ≤ x1)) else false) then (decide (x1 ≤ x2)) else false) then (decide (x2 ≤ (x0.1.length : Int))) else false))

theorem ok_i_inLine (x0 : List Int × Int) (x1 : Int) (x2 : Int) (a4 : Option Addr) (c5 : Nat) (l6 : Nat) (hl7 : x0.1.length = l6) (r : Bool) (h : M_i_inLine x0 x1 x2 = some r) :
    FC Tryz.prog 65 [.agg #[.slice a4 l6 c5, .int .i64 x0.2], .int .i64 x1, .int .i64 x2] [⟨(.int .i64), ⟨a4, l6, c5⟩, x0.1⟩] (fun _ : Unit => True) (fun _ => .bool r) (fun _ => []) :=
  by
    subst hl7
    refine FC.of (T := TTx) Tryz.call65 Tryz.func65 rfl rfl fun w0 => ?_
    unfold M_i_inLine at h
    refine JS.seq (JS.region (JO.regB ttOk 2 [] [2] [(3, .bp 2 0)] (.new 2 34 [.slice a4 x0.1.length c5, .int .i64 x0.2] .nil) rfl ⟨⟨rfl, trivial⟩, ⟨rfl, rfl, rfl, rfl, trivial⟩⟩ (JO.done rfl (JS.seq (JS.region (JO.reg ttOk 1 [] [] [(7, .v (.agg #[.slice a4 x0.1.length c5, .int .i64 x0.2]))] _ rfl ⟨⟨rfl, trivial⟩, rfl⟩ ?_))))))
    obtain ⟨y8, hy9, h⟩ := bindO_some h
    refine JO.call rfl rfl rfl rfl (ok_i_LineOk x0 a4 c5 x0.1.length rfl _ hy9) rfl [0] rfl rfl fun _ _ => JO.reg ttOk 17 [] [] [(6, .v (.bool (bif (bif (bif y8 then (decide (0 ≤ x1)) else false) then (decide (x1 ≤ x2)) else false) then (decide (x2 ≤ (x0.1.length : Int))) else false)))] _ rfl ⟨⟨rfl, trivial⟩, rfl⟩ (JO.done rfl ?_)
    cases h
    exact JS.ret ttOk () trivial rfl rfl [] rfl

def M_i_copyInts (x0 : List Int) : Option (List Int) :=
  (guardO (([] : List Int).length + x0.length ≤ 536870912) <|
  some (([] : List Int) ++ x0))

theorem ok_i_copyInts (x0 : List Int) (a2 : Option Addr) (c3 : Nat) (l4 : Nat) (hl5 : x0.length = l4) (r : List Int) (h : M_i_copyInts x0 = some r) :
    FC Tryz.prog 100 [.slice a2 l4 c3] [⟨(.int .i64), ⟨a2, l4, c3⟩, x0⟩] (fun _ : Option Addr × Nat => True) (fun q => .slice q.1 r.length q.2) (fun q => [⟨(.int .i64), ⟨q.1, r.length, q.2⟩, r⟩]) :=
  by
    subst hl5
    refine FC.of (T := TTx) Tryz.call100 Tryz.func100 rfl rfl fun w0 => ?_
    unfold M_i_copyInts at h
    refine JS.seq (JS.region (JO.reg ttOk 1 [] [] [] _ rfl ⟨trivial, rfl⟩ (JO.done rfl (JS.seq (JS.region (JO.reg ttOk 1 [] [] [(3, .v (.slice a2 x0.length c3))] _ rfl ⟨⟨rfl, trivial⟩, rfl⟩ ?_))))))
    obtain ⟨g6, h⟩ := guardO_some h
    refine JO.nilO (.int .i64) Sl.nil rfl rfl (JO.appendR' ttOk rfl rfl rfl rfl ⟨rfl, rfl, rfl, rfl, trivial, rfl, rfl, rfl, rfl⟩ rfl rfl rfl [0] rfl 0 rfl g6 rfl fun a7 c8 => JO.reg ttOk 1 [] [] [(2, .v (.slice a7 (([] : List Int) ++ x0).length c8))] _ rfl ⟨⟨rfl, trivial⟩, rfl⟩ (JO.done rfl ?_))
    cases h
    exact JS.ret ttOk (a7, c8) trivial rfl rfl [0] rfl

def M_i_copyLine (x0 : List Int × Int) : Option (List Int × Int) :=
  (bindO (M_i_copyInts x0.1) fun (y6 : List Int) =>
  some (y6, x0.2))

theorem ok_i_copyLine (x0 : List Int × Int) (a2 : Option Addr) (c3 : Nat) (l4 : Nat) (hl5 : x0.1.length = l4) (r : List Int × Int) (h : M_i_copyLine x0 = some r) :
    FC Tryz.prog 88 [.agg #[.slice a2 l4 c3, .int .i64 x0.2]] [⟨(.int .i64), ⟨a2, l4, c3⟩, x0.1⟩] (fun _ : Option Addr × Nat => True) (fun q => .agg #[.slice q.1 r.1.length q.2, .int .i64 r.2]) (fun q => [⟨(.int .i64), ⟨q.1, r.1.length, q.2⟩, r.1⟩]) :=
  by
    subst hl5
    refine FC.of (T := TTx) Tryz.call88 Tryz.func88 rfl rfl fun w0 => ?_
    unfold M_i_copyLine at h
    refine JS.seq (JS.region (JO.regB ttOk 2 [] [2, 3] [(1, .bp 2 0), (2, .bp 3 0)] (.new 2 34 [.slice a2 x0.1.length c3, .int .i64 x0.2] (.new 3 34 [.slice none 0 0, .int .i64 0] .nil)) rfl ⟨⟨rfl, rfl, trivial⟩, ⟨rfl, rfl, rfl, rfl, rfl, rfl, rfl, rfl, trivial⟩⟩ (JO.done rfl (JS.seq ?_))))
    obtain ⟨y6, hy7, h⟩ := bindO_some h
    refine JS.regionA rfl (.new 2 34 [.slice a2 x0.1.length c3, .int .i64 x0.2] .nil) [] [6] ⟨rfl, rfl, rfl, rfl, trivial⟩ rfl (fun be10 => ?_)
    refine JA.reg ttOk panic_cx true 3 [0, 1, 3, 4] rfl (by kernel_rfl) [] [(3, .bp 2 0), (4, .v (.slice a2 x0.1.length c3)), (6, .bp 2 1), (7, .v (.int .i64 x0.2))] ⟨rfl, rfl, rfl, rfl, trivial⟩ [] rfl rfl ⟨rfl, rfl, rfl, rfl, trivial⟩ (JA.one 2 (by kernel_rfl) (JK.call rfl rfl rfl rfl (ok_i_copyInts x0.1 a2 c3 x0.1.length rfl _ hy7) rfl [0] rfl rfl ?_))
    rintro ⟨a8, c9⟩ -
    refine JA.next ⟨rfl, rfl, rfl, rfl, trivial⟩ [] rfl (JA.reg ttOk panic_cx true 1 [5] rfl (by kernel_rfl) [] [(3, .bp 2 0), (4, .v (.slice a2 x0.1.length c3)), (5, .v (.slice a8 y6.length c9)), (6, .bp 2 1), (7, .v (.int .i64 x0.2)), (8, .v (.agg #[.slice a8 y6.length c9, .int .i64 x0.2]))] ⟨rfl, rfl, rfl, rfl, trivial⟩ [] rfl rfl ⟨rfl, rfl, rfl, rfl, rfl, rfl, trivial⟩ (JA.one 6 (by kernel_rfl) (JK.stBox ttOk rfl rfl rfl rfl rfl rfl rfl rfl (JK.boxes (B' := (.new 2 34 [.slice a2 x0.1.length c3, .int .i64 x0.2] (.new 3 34 [.slice a8 y6.length c9, .int .i64 x0.2] .nil))) ⟨rfl, rfl, rfl, rfl, rfl, rfl, rfl, rfl, trivial⟩ (JA.nextL rfl (JA.done (by kernel_rfl) (JS.boxes (B' := (.new 3 34 [.slice a8 y6.length c9, .int .i64 x0.2] .nil)) ⟨rfl, rfl, rfl, rfl, trivial⟩ ?_)))))))
    cases h
    exact JS.ret ttOk (a8, c9) trivial rfl rfl [0] rfl

def M_i_copyRing_L1 (x0 : List (List Int)) (j39 : (List (List Int)) → Option (List (List Int))) (k32 : (Int × List (List Int)) → Option (List (List Int))) : (Int × List (List Int)) → Option (List (List Int)) := fun (x6, x10) =>
  (bif (decide (x6 < (x0.length : Int))) then
  (guardO (0 ≤ x6 ∧ x6 < (x0.length : Int)) <|
  (bindO (M_i_copyInts (at' x0 x6)) fun (y20 : List Int) =>
  (guardO (x10.length + ([y20] : List (List Int)).length ≤ 536870912) <|
  k32 ((W (x6 + 1)), (x10 ++ ([y20] : List (List Int)))))))
  else
  j39 x10)

def M_i_copyRing (x0 : List (List Int)) : Option (List (List Int)) :=
  (joinO (fun (x36 : List (List Int)) =>
  some x36) fun j39 =>
  (fixF (M_i_copyRing_L1 x0 j39) FUEL (0, ([] : List (List Int)))))

theorem ok_i_copyRing (x0 : List (List Int)) (a2 : Option Addr) (c3 : Nat) (l4 : Nat) (hl5 : x0.length = l4) (r : List (List Int)) (h : M_i_copyRing x0 = some r) :
    FC Tryz.prog 182 [.agg #[.slice a2 l4 c3]] [⟨(.sl (.int .i64)), ⟨a2, l4, c3⟩, x0⟩] (fun _ : Option Addr × Nat => True) (fun q => .agg #[.slice q.1 r.length q.2]) (fun q => [⟨(.sl (.int .i64)), ⟨q.1, r.length, q.2⟩, r⟩]) :=
  by
    subst hl5
    refine FC.of (T := TTx) Tryz.call182 Tryz.func182 rfl rfl fun w0 => ?_
    unfold M_i_copyRing at h
    refine JS.seq (JS.region (JO.regB ttOk 2 [] [2, 3] [(1, .bp 2 0), (2, .bp 3 0)] (.new 2 37 [.slice a2 x0.length c3] (.new 3 37 [.slice none 0 0] .nil)) rfl ⟨⟨rfl, rfl, trivial⟩, ⟨rfl, rfl, rfl, rfl, rfl, rfl, rfl, rfl, trivial⟩⟩ (JO.done rfl (JS.seq (JS.region (JO.regB ttOk 1 [] [4] [(3, .bp 4 0)] (.new 2 37 [.slice a2 x0.length c3] (.new 3 37 [.slice none 0 0] (.new 4 37 [.slice none 0 0] .nil))) rfl ⟨⟨rfl, trivial⟩, ⟨rfl, rfl, rfl, rfl, rfl, rfl, rfl, rfl, rfl, rfl, rfl, rfl, trivial⟩⟩ (JO.done rfl (JS.seq (JS.seq (JS.region (JO.reg ttOk 4 [] [] [(7, .v (.slice a2 x0.length c3)), (8, .v (.int .i64 (x0.length : Int))), (9, .v (.int .i64 0))] _ rfl ⟨⟨rfl, rfl, rfl, trivial⟩, rfl⟩ (JO.done rfl ?_))))))))))))
    obtain ⟨j39, hj45, h⟩ := joinO_some h
    refine JS.blockJ (ι := List (List Int) × Option Addr × Nat) ⟨fun z => j39 z.1 = some r, fun z => [(2, .bp 3 0), (3, .bp 4 0)], fun z => (.new 3 37 [.slice none 0 0] (.new 4 37 [.slice z.2.1 z.1.length z.2.2] .nil)), fun z => [], fun z => [⟨(.sl (.int .i64)), ⟨z.2.1, z.1.length, z.2.2⟩, z.1⟩], fun z => 0⟩ ?_ ?_
    · refine JS.nilO (.sl (.int .i64)) Sl.nil rfl rfl (JS.loop (ι := Nat × Int × List (List Int) × Option Addr × Nat) ⟨fun z => fixF (M_i_copyRing_L1 x0 j39) z.1 (z.2.1, z.2.2.1) = some r, fun z => [(2, .bp 3 0), (3, .bp 4 0), (7, .v (.slice a2 x0.length c3)), (8, .v (.int .i64 (x0.length : Int))), (9, .v (.int .i64 z.2.1))], fun z => (.new 3 37 [.slice none 0 0] (.new 4 37 [.slice z.2.2.2.1 z.2.2.1.length z.2.2.2.2] .nil)), fun z => [⟨(.sl (.int .i64)), ⟨a2, x0.length, c3⟩, x0⟩], fun z => [⟨(.sl (.int .i64)), ⟨z.2.2.2.1, z.2.2.1.length, z.2.2.2.2⟩, z.2.2.1⟩], fun z => z.1⟩ (FUEL, 0, ([] : List (List Int)), none, 0) h ⟨rfl, rfl, rfl, rfl, rfl, trivial⟩ ⟨rfl, rfl, rfl, rfl, rfl, rfl, rfl, rfl, trivial⟩ [0] rfl [0] rfl ?_)
      rintro ⟨n33, x6, x10, a11, c12⟩ h
      obtain ⟨n33, rfl, h⟩ := fixF_some h
      rw [M_i_copyRing_L1] at h
      refine JS.seq (JS.region (JO.reg ttOk 1 [] [] [(10, .v (.bool (decide (x6 < (x0.length : Int)))))] _ rfl ⟨⟨rfl, trivial⟩, rfl⟩ (JO.done rfl (JS.seq ?_))))
      refine JS.cond rfl (fun ht44 => ?_) (fun ht44 => ?_)
      · have h := condT h ht44
        refine JS.skip (JS.seq (JS.block (JS.seq (JS.region (JO.know 0 rfl fun hs43 => ?_)))))
        obtain ⟨g14, h⟩ := guardO_some h
        refine JO.reg ttOk 1 [] [] [(11, .ep ⟨a2, x0.length, c3⟩ (Int.toNat x6 * 1))] _ rfl ⟨hs43.ix g14, ⟨rfl, trivial⟩, rfl⟩ (JO.openR 0 rfl (Int.toNat x6) (at' x0 x6) rfl fun a15 c16 ys17 hl18 hy19 => JO.loadV ttOk rfl rfl rfl rfl rfl rfl 0 rfl rfl (Int.toNat x6) 0 (Sl.v ⟨a15, (at' x0 x6).length, c16⟩) ⟨hy19 (ltNat g14), rfl⟩ rfl rfl rfl (JO.regB ttOk 2 [] [22] [(5, .bp 22 0)] (.new 3 37 [.slice none 0 0] (.new 4 37 [.slice a11 x10.length c12] (.new 22 159 [.slice a15 (at' x0 x6).length c16] .nil))) rfl ⟨⟨rfl, trivial⟩, ⟨rfl, rfl, rfl, rfl, rfl, rfl, rfl, rfl, rfl, rfl, rfl, rfl, trivial⟩⟩ (JO.done rfl ?_)))
        obtain ⟨y20, hy21, h⟩ := bindO_some h
        obtain ⟨g25, h⟩ := guardO_some h
        refine JS.regionA rfl (.new 4 37 [.slice a11 x10.length c12] (.new 22 159 [.slice a15 (at' x0 x6).length c16] .nil)) [] [8, 9] ⟨rfl, rfl, rfl, rfl, rfl, rfl, rfl, rfl, trivial⟩ rfl (fun be28 => ?_)
        refine JA.reg ttOk panic_cx true 6 [0, 1, 2, 3] rfl (by kernel_rfl) [] [(13, .bp 4 0), (14, .v (.slice a11 x10.length c12)), (15, .bp 22 0), (16, .v (.slice a15 (at' x0 x6).length c16))] ⟨rfl, rfl, rfl, rfl, rfl, rfl, rfl, rfl, trivial⟩ [] rfl rfl ⟨rfl, rfl, rfl, rfl, trivial⟩ (JA.one 4 (by kernel_rfl) (JK.call rfl rfl rfl rfl (ok_i_copyInts (at' x0 x6) a15 c16 ((at' x0 x6).length) rfl _ hy21) rfl [1] rfl rfl ?_))
        rintro ⟨a22, c23⟩ -
        refine JA.next ⟨rfl, rfl, rfl, rfl, rfl, rfl, rfl, rfl, trivial⟩ [] rfl (JA.reg ttOk panic_cx true 4 [5] rfl (by kernel_rfl) [] [(13, .bp 4 0), (14, .v (.slice a11 x10.length c12)), (15, .bp 22 0), (16, .v (.slice a15 (at' x0 x6).length c16)), (17, .v (.slice a22 y20.length c23)), (18, .v (.agg #[.slice a22 y20.length c23]))] ⟨rfl, rfl, rfl, rfl, rfl, rfl, rfl, rfl, trivial⟩ [] rfl rfl ⟨rfl, rfl, rfl, rfl, rfl, rfl, trivial⟩ (JA.one 6 (by kernel_rfl) (JK.buildSlice ttOk rfl rfl rfl rfl rfl rfl rfl rfl rfl rfl rfl [0] rfl (.sl (.int .i64)) [y20] ⟨rfl, rfl, rfl⟩ rfl rfl fun a24 => JA.next ⟨rfl, rfl, rfl, rfl, rfl, rfl, rfl, rfl, trivial⟩ [] rfl (JA.one 7 (by kernel_rfl) (JK.appendO' ttOk rfl rfl rfl rfl ⟨rfl, rfl, rfl, rfl, trivial, rfl, rfl, rfl, rfl⟩ rfl rfl [1, 0] rfl g25 rfl fun a26 c27 => JA.next ⟨rfl, rfl, rfl, rfl, rfl, rfl, rfl, rfl, trivial⟩ [] rfl (JA.regL ttOk panic_cx 1 [8] rfl (by kernel_rfl) [] [(13, .bp 4 0), (14, .v (.slice a11 x10.length c12)), (15, .bp 22 0), (16, .v (.slice a15 (at' x0 x6).length c16)), (17, .v (.slice a22 y20.length c23)), (18, .v (.agg #[.slice a22 y20.length c23])), (19, .v (.slice a24 ([y20] : List (List Int)).length ([y20] : List (List Int)).length)), (20, .v (.slice a26 (x10 ++ ([y20] : List (List Int))).length c27)), (21, .bp 4 0)] rfl ⟨rfl, rfl, rfl, rfl, rfl, rfl, rfl, rfl, rfl, trivial⟩ (JA.one 9 (by kernel_rfl) (JK.stBox ttOk rfl rfl rfl rfl rfl rfl rfl rfl (JK.boxes (B' := (.new 3 37 [.slice none 0 0] (.new 4 37 [.slice a26 (x10 ++ ([y20] : List (List Int))).length c27] (.new 22 159 [.slice a15 (at' x0 x6).length c16] .nil)))) ⟨rfl, rfl, rfl, rfl, rfl, rfl, rfl, rfl, rfl, rfl, rfl, rfl, trivial⟩ (JA.nextL rfl (JA.done (by kernel_rfl) (JS.boxes (B' := (.new 3 37 [.slice none 0 0] (.new 4 37 [.slice a26 (x10 ++ ([y20] : List (List Int))).length c27] .nil))) ⟨rfl, rfl, rfl, rfl, rfl, rfl, rfl, rfl, trivial⟩ (JS.endB (JS.region (JO.reg ttOk 2 [(W (x6 + 1))] [] [(9, .v (.int .i64 (W (x6 + 1))))] _ rfl ⟨⟨trivial, rfl⟩, ⟨rfl, trivial⟩, rfl⟩ (JO.done rfl (JS.endL (n33, (W (x6 + 1)), (x10 ++ ([y20] : List (List Int))), a26, c27) h (Nat.lt_succ_self _) ⟨rfl, rfl, rfl, rfl, rfl, trivial⟩ ⟨rfl, rfl, rfl, rfl, rfl, rfl, rfl, rfl, trivial⟩ [2] rfl [0] rfl)))))))))))))))))
      have h := condF h ht44
      refine JS.exit rfl (JS.endJ (x10, a11, c12) h ⟨rfl, rfl, trivial⟩ ⟨rfl, rfl, rfl, rfl, rfl, rfl, rfl, rfl, trivial⟩ [] rfl [0] rfl)
    rintro ⟨x36, a37, c38⟩ h
    subst hj45
    refine JS.seq (JS.region (JO.regB ttOk 2 [] [] [] (.new 3 37 [.slice a37 x36.length c38] .nil) rfl ⟨trivial, ⟨rfl, rfl, rfl, rfl, trivial⟩⟩ (JO.done rfl ?_)))
    cases h
    exact JS.ret ttOk (a37, c38) trivial rfl rfl [0] rfl

def M_i_copyUndo_L1 (x0 : List (List Int × Int)) (j39 : (List (List Int × Int)) → Option (List (List Int × Int))) (k32 : (Int × (List (List Int × Int))) → Option (List (List Int × Int))) : (Int × (List (List Int × Int))) → Option (List (List Int × Int)) := fun (x6, x10) =>
  (bif (decide (x6 < (x0.length : Int))) then
  (guardO (0 ≤ x6 ∧ x6 < (x0.length : Int)) <|
  (bindO (M_i_copyLine ((at' x0 x6).1, (at' x0 x6).2)) fun (y20 : List Int × Int) =>
  (guardO (x10.length + ([y20] : List (List Int × Int)).length ≤ 536870912) <|
  k32 ((W (x6 + 1)), (x10 ++ ([y20] : List (List Int × Int)))))))
  else
  j39 x10)

def M_i_copyUndo (x0 : List (List Int × Int)) : Option (List (List Int × Int)) :=
  (joinO (fun (x36 : List (List Int × Int)) =>
  some x36) fun j39 =>
  (fixF (M_i_copyUndo_L1 x0 j39) FUEL (0, ([] : List (List Int × Int)))))

theorem ok_i_copyUndo (x0 : List (List Int × Int)) (a2 : Option Addr) (c3 : Nat) (l4 : Nat) (hl5 : x0.length = l4) (r : List (List Int × Int)) (h : M_i_copyUndo x0 = some r) :
    FC Tryz.prog 183 [.agg #[.slice a2 l4 c3]] [⟨(.pair (.sl (.int .i64)) (.int .i64)), ⟨a2, l4, c3⟩, x0⟩] (fun _ : Option Addr × Nat => True) (fun q => .agg #[.slice q.1 r.length q.2]) (fun q => [⟨(.pair (.sl (.int .i64)) (.int .i64)), ⟨q.1, r.length, q.2⟩, r⟩]) :=
  by
    subst hl5
    refine FC.of (T := TTx) Tryz.call183 Tryz.func183 rfl rfl fun w0 => ?_
    unfold M_i_copyUndo at h
    refine JS.seq (JS.region (JO.regB ttOk 2 [] [2, 3] [(1, .bp 2 0), (2, .bp 3 0)] (.new 2 40 [.slice a2 x0.length c3] (.new 3 40 [.slice none 0 0] .nil)) rfl ⟨⟨rfl, rfl, trivial⟩, ⟨rfl, rfl, rfl, rfl, rfl, rfl, rfl, rfl, trivial⟩⟩ (JO.done rfl (JS.seq (JS.region (JO.regB ttOk 1 [] [4] [(3, .bp 4 0)] (.new 2 40 [.slice a2 x0.length c3] (.new 3 40 [.slice none 0 0] (.new 4 40 [.slice none 0 0] .nil))) rfl ⟨⟨rfl, trivial⟩, ⟨rfl, rfl, rfl, rfl, rfl, rfl, rfl, rfl, rfl, rfl, rfl, rfl, trivial⟩⟩ (JO.done rfl (JS.seq (JS.seq (JS.region (JO.reg ttOk 4 [] [] [(7, .v (.slice a2 x0.length c3)), (8, .v (.int .i64 (x0.length : Int))), (9, .v (.int .i64 0))] _ rfl ⟨⟨rfl, rfl, rfl, trivial⟩, rfl⟩ (JO.done rfl ?_))))))))))))
    obtain ⟨j39, hj45, h⟩ := joinO_some h
    refine JS.blockJ (ι := (List (List Int × Int)) × Option Addr × Nat) ⟨fun z => j39 z.1 = some r, fun z => [(2, .bp 3 0), (3, .bp 4 0)], fun z => (.new 3 40 [.slice none 0 0] (.new 4 40 [.slice z.2.1 z.1.length z.2.2] .nil)), fun z => [], fun z => [⟨(.pair (.sl (.int .i64)) (.int .i64)), ⟨z.2.1, z.1.length, z.2.2⟩, z.1⟩], fun z => 0⟩ ?_ ?_
    · refine JS.nilO (.pair (.sl (.int .i64)) (.int .i64)) Sl.nil rfl rfl (JS.loop (ι := Nat × Int × (List (List Int × Int)) × Option Addr × Nat) ⟨fun z => fixF (M_i_copyUndo_L1 x0 j39) z.1 (z.2.1, z.2.2.1) = some r, fun z => [(2, .bp 3 0), (3, .bp 4 0), (7, .v (.slice a2 x0.length c3)), (8, .v (.int .i64 (x0.length : Int))), (9, .v (.int .i64 z.2.1))], fun z => (.new 3 40 [.slice none 0 0] (.new 4 40 [.slice z.2.2.2.1 z.2.2.1.length z.2.2.2.2] .nil)), fun z => [⟨(.pair (.sl (.int .i64)) (.int .i64)), ⟨a2, x0.length, c3⟩, x0⟩], fun z => [⟨(.pair (.sl (.int .i64)) (.int .i64)), ⟨z.2.2.2.1, z.2.2.1.length, z.2.2.2.2⟩, z.2.2.1⟩], fun z => z.1⟩ (FUEL, 0, ([] : List (List Int × Int)), none, 0) h ⟨rfl, rfl, rfl, rfl, rfl, trivial⟩ ⟨rfl, rfl, rfl, rfl, rfl, rfl, rfl, rfl, trivial⟩ [0] rfl [0] rfl ?_)
      rintro ⟨n33, x6, x10, a11, c12⟩ h
      obtain ⟨n33, rfl, h⟩ := fixF_some h
      rw [M_i_copyUndo_L1] at h
      refine JS.seq (JS.region (JO.reg ttOk 1 [] [] [(10, .v (.bool (decide (x6 < (x0.length : Int)))))] _ rfl ⟨⟨rfl, trivial⟩, rfl⟩ (JO.done rfl (JS.seq ?_))))
      refine JS.cond rfl (fun ht44 => ?_) (fun ht44 => ?_)
      · have h := condT h ht44
        refine JS.skip (JS.seq (JS.block (JS.seq (JS.region (JO.know 0 rfl fun hs43 => ?_)))))
        obtain ⟨g14, h⟩ := guardO_some h
        refine JO.reg ttOk 1 [] [] [(11, .ep ⟨a2, x0.length, c3⟩ (Int.toNat x6 * 2))] _ rfl ⟨hs43.ix g14, ⟨rfl, trivial⟩, rfl⟩ (JO.openR 0 rfl (Int.toNat x6) (at' x0 x6) rfl fun a15 c16 ys17 hl18 hy19 => JO.loadV ttOk rfl rfl rfl rfl rfl rfl 0 rfl rfl (Int.toNat x6) 0 ((Sl.v ⟨a15, ((at' x0 x6).1).length, c16⟩), (at' x0 x6).2) ⟨hy19 (ltNat g14), rfl⟩ rfl rfl rfl (JO.regB ttOk 2 [] [22] [(5, .bp 22 0)] (.new 3 40 [.slice none 0 0] (.new 4 40 [.slice a11 x10.length c12] (.new 22 34 [.slice a15 ((at' x0 x6).1).length c16, .int .i64 (at' x0 x6).2] .nil))) rfl ⟨⟨rfl, trivial⟩, ⟨rfl, rfl, rfl, rfl, rfl, rfl, rfl, rfl, rfl, rfl, rfl, rfl, trivial⟩⟩ (JO.done rfl ?_)))
        obtain ⟨y20, hy21, h⟩ := bindO_some h
        obtain ⟨g25, h⟩ := guardO_some h
        refine JS.regionA rfl (.new 4 40 [.slice a11 x10.length c12] (.new 22 34 [.slice a15 ((at' x0 x6).1).length c16, .int .i64 (at' x0 x6).2] .nil)) [] [6, 7] ⟨rfl, rfl, rfl, rfl, rfl, rfl, rfl, rfl, trivial⟩ rfl (fun be28 => ?_)
        refine JA.reg ttOk panic_cx true 5 [0, 1, 2] rfl (by kernel_rfl) [] [(13, .bp 4 0), (14, .v (.slice a11 x10.length c12)), (15, .v (.agg #[.slice a15 ((at' x0 x6).1).length c16, .int .i64 (at' x0 x6).2]))] ⟨rfl, rfl, rfl, rfl, rfl, rfl, rfl, rfl, trivial⟩ [] rfl rfl ⟨rfl, rfl, rfl, trivial⟩ (JA.one 3 (by kernel_rfl) (JK.call rfl rfl rfl rfl (ok_i_copyLine ((at' x0 x6).1, (at' x0 x6).2) a15 c16 (((at' x0 x6).1).length) rfl _ hy21) rfl [1] rfl rfl ?_))
        rintro ⟨a22, c23⟩ -
        refine JA.next ⟨rfl, rfl, rfl, rfl, rfl, rfl, rfl, rfl, trivial⟩ [] rfl (JA.one 4 (by kernel_rfl) (JK.buildSlice ttOk rfl rfl rfl rfl rfl rfl rfl rfl rfl rfl rfl [0] rfl (.pair (.sl (.int .i64)) (.int .i64)) [y20] ⟨rfl, rfl, rfl⟩ rfl rfl fun a24 => JA.next ⟨rfl, rfl, rfl, rfl, rfl, rfl, rfl, rfl, trivial⟩ [] rfl (JA.one 5 (by kernel_rfl) (JK.appendO' ttOk rfl rfl rfl rfl ⟨rfl, rfl, rfl, rfl, trivial, rfl, rfl, rfl, rfl⟩ rfl rfl [1, 0] rfl g25 rfl fun a26 c27 => JA.next ⟨rfl, rfl, rfl, rfl, rfl, rfl, rfl, rfl, trivial⟩ [] rfl (JA.regL ttOk panic_cx 1 [6] rfl (by kernel_rfl) [] [(13, .bp 4 0), (14, .v (.slice a11 x10.length c12)), (15, .v (.agg #[.slice a15 ((at' x0 x6).1).length c16, .int .i64 (at' x0 x6).2])), (16, .v (.agg #[.slice a22 y20.1.length c23, .int .i64 y20.2])), (17, .v (.slice a24 ([y20] : List (List Int × Int)).length ([y20] : List (List Int × Int)).length)), (18, .v (.slice a26 (x10 ++ ([y20] : List (List Int × Int))).length c27)), (19, .bp 4 0)] rfl ⟨rfl, rfl, rfl, rfl, rfl, rfl, rfl, trivial⟩ (JA.one 7 (by kernel_rfl) (JK.stBox ttOk rfl rfl rfl rfl rfl rfl rfl rfl (JK.boxes (B' := (.new 3 40 [.slice none 0 0] (.new 4 40 [.slice a26 (x10 ++ ([y20] : List (List Int × Int))).length c27] (.new 22 34 [.slice a15 ((at' x0 x6).1).length c16, .int .i64 (at' x0 x6).2] .nil)))) ⟨rfl, rfl, rfl, rfl, rfl, rfl, rfl, rfl, rfl, rfl, rfl, rfl, trivial⟩ (JA.nextL rfl (JA.done (by kernel_rfl) (JS.boxes (B' := (.new 3 40 [.slice none 0 0] (.new 4 40 [.slice a26 (x10 ++ ([y20] : List (List Int × Int))).length c27] .nil))) ⟨rfl, rfl, rfl, rfl, rfl, rfl, rfl, rfl, trivial⟩ (JS.endB (JS.region (JO.reg ttOk 2 [(W (x6 + 1))] [] [(9, .v (.int .i64 (W (x6 + 1))))] _ rfl ⟨⟨trivial, rfl⟩, ⟨rfl, trivial⟩, rfl⟩ (JO.done rfl (JS.endL (n33, (W (x6 + 1)), (x10 ++ ([y20] : List (List Int × Int))), a26, c27) h (Nat.lt_succ_self _) ⟨rfl, rfl, rfl, rfl, rfl, trivial⟩ ⟨rfl, rfl, rfl, rfl, rfl, rfl, rfl, rfl, trivial⟩ [2] rfl [0] rfl))))))))))))))))
      have h := condF h ht44
      refine JS.exit rfl (JS.endJ (x10, a11, c12) h ⟨rfl, rfl, trivial⟩ ⟨rfl, rfl, rfl, rfl, rfl, rfl, rfl, rfl, trivial⟩ [] rfl [0] rfl)
    rintro ⟨x36, a37, c38⟩ h
    subst hj45
    refine JS.seq (JS.region (JO.regB ttOk 2 [] [] [] (.new 3 40 [.slice a37 x36.length c38] .nil) rfl ⟨trivial, ⟨rfl, rfl, rfl, rfl, trivial⟩⟩ (JO.done rfl ?_)))
    cases h
    exact JS.ret ttOk (a37, c38) trivial rfl rfl [0] rfl

def M_i_copyEd (x0 : Bool × Int × (List Int × Int) × Int × Int × Int × Int × Int × Int × Int × List (List Int) × (List (List Int × Int)) × Int × (List Int × Int) × List Int × Int × List Int × Int) : Option (Bool × Int × (List Int × Int) × Int × Int × Int × Int × Int × Int × Int × List (List Int) × (List (List Int × Int)) × Int × (List Int × Int) × List Int × Int × List Int × Int) :=
  (bindO (M_i_copyLine x0.2.2.1) fun (y26 : List Int × Int) =>
  (bindO (M_i_copyLine x0.2.2.2.2.2.2.2.2.2.2.2.2.2.1) fun (y30 : List Int × Int) =>
  (bindO (M_i_copyLine x0.2.2.2.2.2.2.2.2.2.2.2.2.2.2.2.2) fun (y34 : List Int × Int) =>
  (bindO (M_i_copyRing x0.2.2.2.2.2.2.2.2.2.2.1) fun (y39 : List (List Int)) =>
  (bindO (M_i_copyUndo x0.2.2.2.2.2.2.2.2.2.2.2.1) fun (y43 : List (List Int × Int)) =>
  (bindO (M_i_copyInts x0.2.2.2.2.2.2.2.2.2.2.2.2.2.2.1) fun (y48 : List Int) =>
  some (x0.1, x0.2.1, y26, x0.2.2.2.1, x0.2.2.2.2.1, x0.2.2.2.2.2.1, x0.2.2.2.2.2.2.1, x0.2.2.2.2.2.2.2.1, x0.2.2.2.2.2.2.2.2.1, x0.2.2.2.2.2.2.2.2.2.1, y39, y43, x0.2.2.2.2.2.2.2.2.2.2.2.2.1, y30, y48, x0.2.2.2.2.2.2.2.2.2.2.2.2.2.2.2.1, y34)))))))

theorem ok_i_copyEd (x0 : Bool × Int × (List Int × Int) × Int × Int × Int × Int × Int × Int × Int × List (List Int) × (List (List Int × Int)) × Int × (List Int × Int) × List Int × Int × List Int × Int) (a2 : Option Addr) (c3 : Nat) (l4 : Nat) (hl5 : x0.2.2.1.1.length = l4) (a6 : Option Addr) (c7 : Nat) (l8 : Nat) (hl9 : x0.2.2.2.2.2.2.2.2.2.2.1.length = l8) (a10 : Option Addr) (c11 : Nat) (l12 : Nat) (hl13 : x0.2.2.2.2.2.2.2.2.2.2.2.1.length = l12) (a14 : Option Addr) (c15 : Nat) (l16 : Nat) (hl17 : x0.2.2.2.2.2.2.2.2.2.2.2.2.2.1.1.length = l16) (a18 : Option Addr) (c19 : Nat) (l20 : Nat) (hl21 : x0.2.2.2.2.2.2.2.2.2.2.2.2.2.2.1.length = l20) (a22 : Option Addr) (c23 : Nat) (l24 : Nat) (hl25 : x0.2.2.2.2.2.2.2.2.2.2.2.2.2.2.2.2.1.length = l24) (r : Bool × Int × (List Int × Int) × Int × Int × Int × Int × Int × Int × Int × List (List Int) × (List (List Int × Int)) × Int × (List Int × Int) × List Int × Int × List Int × Int) (h : M_i_copyEd x0 = some r) :
    FC Tryz.prog 99 [.agg #[.bool x0.1, .int .i64 x0.2.1, .slice a2 l4 c3, .int .i64 x0.2.2.1.2, .int .i64 x0.2.2.2.1, .int .i64 x0.2.2.2.2.1, .int .i64 x0.2.2.2.2.2.1, .int .i64 x0.2.2.2.2.2.2.1, .int .i64 x0.2.2.2.2.2.2.2.1, .int .i64 x0.2.2.2.2.2.2.2.2.1, .int .i64 x0.2.2.2.2.2.2.2.2.2.1, .slice a6 l8 c7, .slice a10 l12 c11, .int .i64 x0.2.2.2.2.2.2.2.2.2.2.2.2.1, .slice a14 l16 c15, .int .i64 x0.2.2.2.2.2.2.2.2.2.2.2.2.2.1.2, .slice a18 l20 c19, .int .i64 x0.2.2.2.2.2.2.2.2.2.2.2.2.2.2.2.1, .slice a22 l24 c23, .int .i64 x0.2.2.2.2.2.2.2.2.2.2.2.2.2.2.2.2.2]] [⟨(.int .i64), ⟨a2, l4, c3⟩, x0.2.2.1.1⟩, ⟨(.sl (.int .i64)), ⟨a6, l8, c7⟩, x0.2.2.2.2.2.2.2.2.2.2.1⟩, ⟨(.pair (.sl (.int .i64)) (.int .i64)), ⟨a10, l12, c11⟩, x0.2.2.2.2.2.2.2.2.2.2.2.1⟩, ⟨(.int .i64), ⟨a14, l16, c15⟩, x0.2.2.2.2.2.2.2.2.2.2.2.2.2.1.1⟩, ⟨(.int .i64), ⟨a18, l20, c19⟩, x0.2.2.2.2.2.2.2.2.2.2.2.2.2.2.1⟩, ⟨(.int .i64), ⟨a22, l24, c23⟩, x0.2.2.2.2.2.2.2.2.2.2.2.2.2.2.2.2.1⟩] (fun _ : Option Addr × Nat × Option Addr × Nat × Option Addr × Nat × Option Addr × Nat × Option Addr × Nat × Option Addr × Nat => True) (fun q => .agg (cl42 r q.1 q.2.1 q.2.2.1 q.2.2.2.1 q.2.2.2.2.1 q.2.2.2.2.2.1 q.2.2.2.2.2.2.1 q.2.2.2.2.2.2.2.1 q.2.2.2.2.2.2.2.2.1 q.2.2.2.2.2.2.2.2.2.1 q.2.2.2.2.2.2.2.2.2.2.1 q.2.2.2.2.2.2.2.2.2.2.2).toArray) (fun q => [⟨(.int .i64), ⟨q.1, r.2.2.1.1.length, q.2.1⟩, r.2.2.1.1⟩, ⟨(.sl (.int .i64)), ⟨q.2.2.1, r.2.2.2.2.2.2.2.2.2.2.1.length, q.2.2.2.1⟩, r.2.2.2.2.2.2.2.2.2.2.1⟩, ⟨(.pair (.sl (.int .i64)) (.int .i64)), ⟨q.2.2.2.2.1, r.2.2.2.2.2.2.2.2.2.2.2.1.length, q.2.2.2.2.2.1⟩, r.2.2.2.2.2.2.2.2.2.2.2.1⟩, ⟨(.int .i64), ⟨q.2.2.2.2.2.2.1, r.2.2.2.2.2.2.2.2.2.2.2.2.2.1.1.length, q.2.2.2.2.2.2.2.1⟩, r.2.2.2.2.2.2.2.2.2.2.2.2.2.1.1⟩, ⟨(.int .i64), ⟨q.2.2.2.2.2.2.2.2.1, r.2.2.2.2.2.2.2.2.2.2.2.2.2.2.1.length, q.2.2.2.2.2.2.2.2.2.1⟩, r.2.2.2.2.2.2.2.2.2.2.2.2.2.2.1⟩, ⟨(.int .i64), ⟨q.2.2.2.2.2.2.2.2.2.2.1, r.2.2.2.2.2.2.2.2.2.2.2.2.2.2.2.2.1.length, q.2.2.2.2.2.2.2.2.2.2.2⟩, r.2.2.2.2.2.2.2.2.2.2.2.2.2.2.2.2.1⟩]) :=
  by
    subst hl5
    subst hl9
    subst hl13
    subst hl17
    subst hl21
    subst hl25
    refine FC.of (T := TTx) Tryz.call99 Tryz.func99 rfl rfl fun w0 => ?_
    unfold M_i_copyEd at h
    refine JS.seq (JS.region (JO.regB ttOk 2 [] [7, 8] [(1, .bp 7 0), (2, .bp 8 0)] (.new 7 42 (cl42 x0 a2 c3 a6 c7 a10 c11 a14 c15 a18 c19 a22 c23) (.new 8 42 (cl42 (false, 0, ([], 0), 0, 0, 0, 0, 0, 0, 0, [], [], 0, ([], 0), [], 0, ([], 0)) none 0 none 0 none 0 none 0 none 0 none 0) .nil)) rfl ⟨⟨rfl, rfl, trivial⟩, ⟨rfl, rfl, rfl, rfl, rfl, rfl, rfl, rfl, trivial⟩⟩ (JO.done rfl (JS.seq ?_))))
    obtain ⟨y26, hy27, h⟩ := bindO_some h
    obtain ⟨y30, hy31, h⟩ := bindO_some h
    obtain ⟨y34, hy35, h⟩ := bindO_some h
    refine JS.regionA rfl (.new 7 42 (cl42 x0 a2 c3 a6 c7 a10 c11 a14 c15 a18 c19 a22 c23) .nil) [] [9, 10, 11, 12, 13, 14] ⟨rfl, rfl, rfl, rfl, trivial⟩ rfl (fun be38 => ?_)
    refine JA.reg ttOk panic_cx true 9 [0, 1, 3, 4, 6, 7] rfl (by kernel_rfl) [] [(3, .bp 7 2), (4, .v (.agg #[.slice a2 x0.2.2.1.1.length c3, .int .i64 x0.2.2.1.2])), (6, .bp 7 14), (7, .v (.agg #[.slice a14 x0.2.2.2.2.2.2.2.2.2.2.2.2.2.1.1.length c15, .int .i64 x0.2.2.2.2.2.2.2.2.2.2.2.2.2.1.2])), (9, .bp 7 18), (10, .v (.agg #[.slice a22 x0.2.2.2.2.2.2.2.2.2.2.2.2.2.2.2.2.1.length c23, .int .i64 x0.2.2.2.2.2.2.2.2.2.2.2.2.2.2.2.2.2]))] ⟨rfl, rfl, rfl, rfl, trivial⟩ [] rfl rfl ⟨rfl, rfl, rfl, rfl, rfl, rfl, trivial⟩ (JA.one 2 (by kernel_rfl) (JK.call rfl rfl rfl rfl (ok_i_copyLine x0.2.2.1 a2 c3 x0.2.2.1.1.length rfl _ hy27) rfl [0] rfl rfl ?_))
    rintro ⟨a28, c29⟩ -
    refine JA.next ⟨rfl, rfl, rfl, rfl, trivial⟩ [] rfl (JA.regL ttOk panic_cx 7 [9] rfl (by kernel_rfl) [] [(3, .bp 7 2), (4, .v (.agg #[.slice a2 x0.2.2.1.1.length c3, .int .i64 x0.2.2.1.2])), (5, .v (.agg #[.slice a28 y26.1.length c29, .int .i64 y26.2])), (6, .bp 7 14), (7, .v (.agg #[.slice a14 x0.2.2.2.2.2.2.2.2.2.2.2.2.2.1.1.length c15, .int .i64 x0.2.2.2.2.2.2.2.2.2.2.2.2.2.1.2])), (9, .bp 7 18), (10, .v (.agg #[.slice a22 x0.2.2.2.2.2.2.2.2.2.2.2.2.2.2.2.2.1.length c23, .int .i64 x0.2.2.2.2.2.2.2.2.2.2.2.2.2.2.2.2.2])), (12, .bp 7 2)] rfl ⟨rfl, rfl, rfl, rfl, rfl, rfl, rfl, rfl, trivial⟩ (JA.one 5 (by kernel_rfl) (JK.call rfl rfl rfl rfl (ok_i_copyLine x0.2.2.2.2.2.2.2.2.2.2.2.2.2.1 a14 c15 x0.2.2.2.2.2.2.2.2.2.2.2.2.2.1.1.length rfl _ hy31) rfl [3] rfl rfl ?_)))
    rintro ⟨a32, c33⟩ -
    refine JA.next ⟨rfl, rfl, rfl, rfl, trivial⟩ [] rfl (JA.one 8 (by kernel_rfl) (JK.call rfl rfl rfl rfl (ok_i_copyLine x0.2.2.2.2.2.2.2.2.2.2.2.2.2.2.2.2 a22 c23 x0.2.2.2.2.2.2.2.2.2.2.2.2.2.2.2.2.1.length rfl _ hy35) rfl [5] rfl rfl ?_))
    rintro ⟨a36, c37⟩ -
    refine JA.next ⟨rfl, rfl, rfl, rfl, trivial⟩ [] rfl (JA.one 10 (by kernel_rfl) (JK.stBox ttOk rfl rfl rfl rfl rfl rfl rfl rfl (JK.boxes (B' := (.new 7 42 (cl42 (x0.1, x0.2.1, y26, x0.2.2.2.1, x0.2.2.2.2.1, x0.2.2.2.2.2.1, x0.2.2.2.2.2.2.1, x0.2.2.2.2.2.2.2.1, x0.2.2.2.2.2.2.2.2.1, x0.2.2.2.2.2.2.2.2.2.1, x0.2.2.2.2.2.2.2.2.2.2.1, x0.2.2.2.2.2.2.2.2.2.2.2.1, x0.2.2.2.2.2.2.2.2.2.2.2.2.1, x0.2.2.2.2.2.2.2.2.2.2.2.2.2.1, x0.2.2.2.2.2.2.2.2.2.2.2.2.2.2.1, x0.2.2.2.2.2.2.2.2.2.2.2.2.2.2.2.1, x0.2.2.2.2.2.2.2.2.2.2.2.2.2.2.2.2) a28 c29 a6 c7 a10 c11 a14 c15 a18 c19 a22 c23) (.new 8 42 (cl42 (false, 0, ([], 0), 0, 0, 0, 0, 0, 0, 0, [], [], 0, ([], 0), [], 0, ([], 0)) none 0 none 0 none 0 none 0 none 0 none 0) .nil))) ⟨rfl, rfl, rfl, rfl, rfl, rfl, rfl, rfl, trivial⟩ (JA.nextL rfl (JA.regL ttOk panic_cx 3 [11] rfl (by kernel_rfl) [] [(3, .bp 7 2), (4, .v (.agg #[.slice a2 x0.2.2.1.1.length c3, .int .i64 x0.2.2.1.2])), (5, .v (.agg #[.slice a28 y26.1.length c29, .int .i64 y26.2])), (6, .bp 7 14), (7, .v (.agg #[.slice a14 x0.2.2.2.2.2.2.2.2.2.2.2.2.2.1.1.length c15, .int .i64 x0.2.2.2.2.2.2.2.2.2.2.2.2.2.1.2])), (8, .v (.agg #[.slice a32 y30.1.length c33, .int .i64 y30.2])), (9, .bp 7 18), (10, .v (.agg #[.slice a22 x0.2.2.2.2.2.2.2.2.2.2.2.2.2.2.2.2.1.length c23, .int .i64 x0.2.2.2.2.2.2.2.2.2.2.2.2.2.2.2.2.2])), (11, .v (.agg #[.slice a36 y34.1.length c37, .int .i64 y34.2])), (12, .bp 7 2), (13, .bp 7 14)] rfl ⟨rfl, rfl, rfl, rfl, rfl, rfl, rfl, rfl, rfl, rfl, rfl, trivial⟩ (JA.one 12 (by kernel_rfl) (JK.stBox ttOk rfl rfl rfl rfl rfl rfl rfl rfl (JK.boxes (B' := (.new 7 42 (cl42 (x0.1, x0.2.1, y26, x0.2.2.2.1, x0.2.2.2.2.1, x0.2.2.2.2.2.1, x0.2.2.2.2.2.2.1, x0.2.2.2.2.2.2.2.1, x0.2.2.2.2.2.2.2.2.1, x0.2.2.2.2.2.2.2.2.2.1, x0.2.2.2.2.2.2.2.2.2.2.1, x0.2.2.2.2.2.2.2.2.2.2.2.1, x0.2.2.2.2.2.2.2.2.2.2.2.2.1, y30, x0.2.2.2.2.2.2.2.2.2.2.2.2.2.2.1, x0.2.2.2.2.2.2.2.2.2.2.2.2.2.2.2.1, x0.2.2.2.2.2.2.2.2.2.2.2.2.2.2.2.2) a28 c29 a6 c7 a10 c11 a32 c33 a18 c19 a22 c23) (.new 8 42 (cl42 (false, 0, ([], 0), 0, 0, 0, 0, 0, 0, 0, [], [], 0, ([], 0), [], 0, ([], 0)) none 0 none 0 none 0 none 0 none 0 none 0) .nil))) ⟨rfl, rfl, rfl, rfl, rfl, rfl, rfl, rfl, trivial⟩ (JA.nextL rfl (JA.regL ttOk panic_cx 1 [13] rfl (by kernel_rfl) [] [(3, .bp 7 2), (4, .v (.agg #[.slice a2 x0.2.2.1.1.length c3, .int .i64 x0.2.2.1.2])), (5, .v (.agg #[.slice a28 y26.1.length c29, .int .i64 y26.2])), (6, .bp 7 14), (7, .v (.agg #[.slice a14 x0.2.2.2.2.2.2.2.2.2.2.2.2.2.1.1.length c15, .int .i64 x0.2.2.2.2.2.2.2.2.2.2.2.2.2.1.2])), (8, .v (.agg #[.slice a32 y30.1.length c33, .int .i64 y30.2])), (9, .bp 7 18), (10, .v (.agg #[.slice a22 x0.2.2.2.2.2.2.2.2.2.2.2.2.2.2.2.2.1.length c23, .int .i64 x0.2.2.2.2.2.2.2.2.2.2.2.2.2.2.2.2.2])), (11, .v (.agg #[.slice a36 y34.1.length c37, .int .i64 y34.2])), (12, .bp 7 2), (13, .bp 7 14), (14, .bp 7 18)] rfl ⟨rfl, rfl, rfl, rfl, rfl, rfl, rfl, rfl, rfl, rfl, rfl, rfl, trivial⟩ (JA.one 14 (by kernel_rfl) (JK.stBox ttOk rfl rfl rfl rfl rfl rfl rfl rfl (JK.boxes (B' := (.new 7 42 (cl42 (x0.1, x0.2.1, y26, x0.2.2.2.1, x0.2.2.2.2.1, x0.2.2.2.2.2.1, x0.2.2.2.2.2.2.1, x0.2.2.2.2.2.2.2.1, x0.2.2.2.2.2.2.2.2.1, x0.2.2.2.2.2.2.2.2.2.1, x0.2.2.2.2.2.2.2.2.2.2.1, x0.2.2.2.2.2.2.2.2.2.2.2.1, x0.2.2.2.2.2.2.2.2.2.2.2.2.1, y30, x0.2.2.2.2.2.2.2.2.2.2.2.2.2.2.1, x0.2.2.2.2.2.2.2.2.2.2.2.2.2.2.2.1, y34) a28 c29 a6 c7 a10 c11 a32 c33 a18 c19 a36 c37) (.new 8 42 (cl42 (false, 0, ([], 0), 0, 0, 0, 0, 0, 0, 0, [], [], 0, ([], 0), [], 0, ([], 0)) none 0 none 0 none 0 none 0 none 0 none 0) .nil))) ⟨rfl, rfl, rfl, rfl, rfl, rfl, rfl, rfl, trivial⟩ (JA.nextL rfl (JA.done (by kernel_rfl) (JS.boxes (B' := (.new 7 42 (cl42 (x0.1, x0.2.1, y26, x0.2.2.2.1, x0.2.2.2.2.1, x0.2.2.2.2.2.1, x0.2.2.2.2.2.2.1, x0.2.2.2.2.2.2.2.1, x0.2.2.2.2.2.2.2.2.1, x0.2.2.2.2.2.2.2.2.2.1, x0.2.2.2.2.2.2.2.2.2.2.1, x0.2.2.2.2.2.2.2.2.2.2.2.1, x0.2.2.2.2.2.2.2.2.2.2.2.2.1, y30, x0.2.2.2.2.2.2.2.2.2.2.2.2.2.2.1, x0.2.2.2.2.2.2.2.2.2.2.2.2.2.2.2.1, y34) a28 c29 a6 c7 a10 c11 a32 c33 a18 c19 a36 c37) (.new 8 42 (cl42 (false, 0, ([], 0), 0, 0, 0, 0, 0, 0, 0, [], [], 0, ([], 0), [], 0, ([], 0)) none 0 none 0 none 0 none 0 none 0 none 0) .nil))) ⟨rfl, rfl, rfl, rfl, rfl, rfl, rfl, rfl, trivial⟩ (JS.seq ?_)))))))))))))))))
    obtain ⟨y39, hy40, h⟩ := bindO_some h
    obtain ⟨y43, hy44, h⟩ := bindO_some h
    refine JS.regionA rfl (.new 7 42 (cl42 (x0.1, x0.2.1, y26, x0.2.2.2.1, x0.2.2.2.2.1, x0.2.2.2.2.2.1, x0.2.2.2.2.2.2.1, x0.2.2.2.2.2.2.2.1, x0.2.2.2.2.2.2.2.2.1, x0.2.2.2.2.2.2.2.2.2.1, x0.2.2.2.2.2.2.2.2.2.2.1, x0.2.2.2.2.2.2.2.2.2.2.2.1, x0.2.2.2.2.2.2.2.2.2.2.2.2.1, y30, x0.2.2.2.2.2.2.2.2.2.2.2.2.2.2.1, x0.2.2.2.2.2.2.2.2.2.2.2.2.2.2.2.1, y34) a28 c29 a6 c7 a10 c11 a32 c33 a18 c19 a36 c37) .nil) [] [6, 7, 8, 9] ⟨rfl, rfl, rfl, rfl, trivial⟩ rfl (fun be47 => ?_)
    refine JA.reg ttOk panic_cx true 6 [0, 1, 3, 4] rfl (by kernel_rfl) [] [(15, .bp 7 11), (16, .v (.agg #[.slice a6 x0.2.2.2.2.2.2.2.2.2.2.1.length c7])), (18, .bp 7 12), (19, .v (.agg #[.slice a10 x0.2.2.2.2.2.2.2.2.2.2.2.1.length c11]))] ⟨rfl, rfl, rfl, rfl, trivial⟩ [] rfl rfl ⟨rfl, rfl, rfl, rfl, trivial⟩ (JA.one 2 (by kernel_rfl) (JK.call rfl rfl rfl rfl (ok_i_copyRing x0.2.2.2.2.2.2.2.2.2.2.1 a6 c7 x0.2.2.2.2.2.2.2.2.2.2.1.length rfl _ hy40) rfl [1] rfl rfl ?_))
    rintro ⟨a41, c42⟩ -
    refine JA.next ⟨rfl, rfl, rfl, rfl, trivial⟩ [] rfl (JA.regL ttOk panic_cx 4 [6] rfl (by kernel_rfl) [] [(15, .bp 7 11), (16, .v (.agg #[.slice a6 x0.2.2.2.2.2.2.2.2.2.2.1.length c7])), (17, .v (.agg #[.slice a41 y39.length c42])), (18, .bp 7 12), (19, .v (.agg #[.slice a10 x0.2.2.2.2.2.2.2.2.2.2.2.1.length c11])), (21, .bp 7 11)] rfl ⟨rfl, rfl, rfl, rfl, rfl, rfl, trivial⟩ (JA.one 5 (by kernel_rfl) (JK.call rfl rfl rfl rfl (ok_i_copyUndo x0.2.2.2.2.2.2.2.2.2.2.2.1 a10 c11 x0.2.2.2.2.2.2.2.2.2.2.2.1.length rfl _ hy44) rfl [2] rfl rfl ?_)))
    rintro ⟨a45, c46⟩ -
    refine JA.next ⟨rfl, rfl, rfl, rfl, trivial⟩ [] rfl (JA.one 7 (by kernel_rfl) (JK.stBox ttOk rfl rfl rfl rfl rfl rfl rfl rfl (JK.boxes (B' := (.new 7 42 (cl42 (x0.1, x0.2.1, y26, x0.2.2.2.1, x0.2.2.2.2.1, x0.2.2.2.2.2.1, x0.2.2.2.2.2.2.1, x0.2.2.2.2.2.2.2.1, x0.2.2.2.2.2.2.2.2.1, x0.2.2.2.2.2.2.2.2.2.1, y39, x0.2.2.2.2.2.2.2.2.2.2.2.1, x0.2.2.2.2.2.2.2.2.2.2.2.2.1, y30, x0.2.2.2.2.2.2.2.2.2.2.2.2.2.2.1, x0.2.2.2.2.2.2.2.2.2.2.2.2.2.2.2.1, y34) a28 c29 a41 c42 a10 c11 a32 c33 a18 c19 a36 c37) (.new 8 42 (cl42 (false, 0, ([], 0), 0, 0, 0, 0, 0, 0, 0, [], [], 0, ([], 0), [], 0, ([], 0)) none 0 none 0 none 0 none 0 none 0 none 0) .nil))) ⟨rfl, rfl, rfl, rfl, rfl, rfl, rfl, rfl, trivial⟩ (JA.nextL rfl (JA.regL ttOk panic_cx 1 [8] rfl (by kernel_rfl) [] [(15, .bp 7 11), (16, .v (.agg #[.slice a6 x0.2.2.2.2.2.2.2.2.2.2.1.length c7])), (17, .v (.agg #[.slice a41 y39.length c42])), (18, .bp 7 12), (19, .v (.agg #[.slice a10 x0.2.2.2.2.2.2.2.2.2.2.2.1.length c11])), (20, .v (.agg #[.slice a45 y43.length c46])), (21, .bp 7 11), (22, .bp 7 12)] rfl ⟨rfl, rfl, rfl, rfl, rfl, rfl, rfl, rfl, trivial⟩ (JA.one 9 (by kernel_rfl) (JK.stBox ttOk rfl rfl rfl rfl rfl rfl rfl rfl (JK.boxes (B' := (.new 7 42 (cl42 (x0.1, x0.2.1, y26, x0.2.2.2.1, x0.2.2.2.2.1, x0.2.2.2.2.2.1, x0.2.2.2.2.2.2.1, x0.2.2.2.2.2.2.2.1, x0.2.2.2.2.2.2.2.2.1, x0.2.2.2.2.2.2.2.2.2.1, y39, y43, x0.2.2.2.2.2.2.2.2.2.2.2.2.1, y30, x0.2.2.2.2.2.2.2.2.2.2.2.2.2.2.1, x0.2.2.2.2.2.2.2.2.2.2.2.2.2.2.2.1, y34) a28 c29 a41 c42 a45 c46 a32 c33 a18 c19 a36 c37) (.new 8 42 (cl42 (false, 0, ([], 0), 0, 0, 0, 0, 0, 0, 0, [], [], 0, ([], 0), [], 0, ([], 0)) none 0 none 0 none 0 none 0 none 0 none 0) .nil))) ⟨rfl, rfl, rfl, rfl, rfl, rfl, rfl, rfl, trivial⟩ (JA.nextL rfl (JA.done (by kernel_rfl) (JS.boxes (B' := (.new 7 42 (cl42 (x0.1, x0.2.1, y26, x0.2.2.2.1, x0.2.2.2.2.1, x0.2.2.2.2.2.1, x0.2.2.2.2.2.2.1, x0.2.2.2.2.2.2.2.1, x0.2.2.2.2.2.2.2.2.1, x0.2.2.2.2.2.2.2.2.2.1, y39, y43, x0.2.2.2.2.2.2.2.2.2.2.2.2.1, y30, x0.2.2.2.2.2.2.2.2.2.2.2.2.2.2.1, x0.2.2.2.2.2.2.2.2.2.2.2.2.2.2.2.1, y34) a28 c29 a41 c42 a45 c46 a32 c33 a18 c19 a36 c37) (.new 8 42 (cl42 (false, 0, ([], 0), 0, 0, 0, 0, 0, 0, 0, [], [], 0, ([], 0), [], 0, ([], 0)) none 0 none 0 none 0 none 0 none 0 none 0) .nil))) ⟨rfl, rfl, rfl, rfl, rfl, rfl, rfl, rfl, trivial⟩ (JS.seq (JS.region (JO.reg ttOk 2 [] [] [(24, .v (.slice a18 x0.2.2.2.2.2.2.2.2.2.2.2.2.2.2.1.length c19))] _ rfl ⟨⟨rfl, trivial⟩, rfl⟩ ?_))))))))))))))
    obtain ⟨y48, hy49, h⟩ := bindO_some h
    refine JO.call rfl rfl rfl rfl (ok_i_copyInts x0.2.2.2.2.2.2.2.2.2.2.2.2.2.2.1 a18 c19 x0.2.2.2.2.2.2.2.2.2.2.2.2.2.2.1.length rfl _ hy49) rfl [4] rfl rfl ?_
    rintro ⟨a50, c51⟩ -
    refine JO.regB ttOk 2 [] [] [] (.new 7 42 (cl42 (x0.1, x0.2.1, y26, x0.2.2.2.1, x0.2.2.2.2.1, x0.2.2.2.2.2.1, x0.2.2.2.2.2.2.1, x0.2.2.2.2.2.2.2.1, x0.2.2.2.2.2.2.2.2.1, x0.2.2.2.2.2.2.2.2.2.1, y39, y43, x0.2.2.2.2.2.2.2.2.2.2.2.2.1, y30, y48, x0.2.2.2.2.2.2.2.2.2.2.2.2.2.2.2.1, y34) a28 c29 a41 c42 a45 c46 a32 c33 a50 c51 a36 c37) (.new 8 42 (cl42 (false, 0, ([], 0), 0, 0, 0, 0, 0, 0, 0, [], [], 0, ([], 0), [], 0, ([], 0)) none 0 none 0 none 0 none 0 none 0 none 0) .nil)) rfl ⟨trivial, ⟨rfl, rfl, rfl, rfl, rfl, rfl, rfl, rfl, trivial⟩⟩ (JO.done rfl (JS.seq (JS.region (JO.regB ttOk 2 [] [] [] (.new 8 42 (cl42 (x0.1, x0.2.1, y26, x0.2.2.2.1, x0.2.2.2.2.1, x0.2.2.2.2.2.1, x0.2.2.2.2.2.2.1, x0.2.2.2.2.2.2.2.1, x0.2.2.2.2.2.2.2.2.1, x0.2.2.2.2.2.2.2.2.2.1, y39, y43, x0.2.2.2.2.2.2.2.2.2.2.2.2.1, y30, y48, x0.2.2.2.2.2.2.2.2.2.2.2.2.2.2.2.1, y34) a28 c29 a41 c42 a45 c46 a32 c33 a50 c51 a36 c37) .nil) rfl ⟨trivial, ⟨rfl, rfl, rfl, rfl, trivial⟩⟩ (JO.done rfl ?_)))))
    cases h
    exact JS.ret ttOk (a28, c29, a41, c42, a45, c46, a32, c33, a50, c51, a36, c37) trivial rfl rfl [5, 2, 1, 2, 0, 0] rfl

def M_i_settled (x0 : Bool × Int × (List Int × Int) × Int × Int × Int × Int × Int × Int × Int × List (List Int) × (List (List Int × Int)) × Int × (List Int × Int) × List Int × Int × List Int × Int) (x1 : Int) : Option (Bool × Int × (List Int × Int) × Int × Int × Int × Int × Int × Int × Int × List (List Int) × (List (List Int × Int)) × Int × (List Int × Int) × List Int × Int × List Int × Int) :=
  (bindO (M_i_copyEd x0) fun (y27 : Bool × Int × (List Int × Int) × Int × Int × Int × Int × Int × Int × Int × List (List Int) × (List (List Int × Int)) × Int × (List Int × Int) × List Int × Int × List Int × Int) =>
  some (y27.1, y27.2.1, y27.2.2.1, 0, 0, 0, 0, y27.2.2.2.2.2.2.2.1, y27.2.2.2.2.2.2.2.2.1, x1, y27.2.2.2.2.2.2.2.2.2.2.1, y27.2.2.2.2.2.2.2.2.2.2.2.1, y27.2.2.2.2.2.2.2.2.2.2.2.2.1, y27.2.2.2.2.2.2.2.2.2.2.2.2.2.1, y27.2.2.2.2.2.2.2.2.2.2.2.2.2.2.1, y27.2.2.2.2.2.2.2.2.2.2.2.2.2.2.2.1, y27.2.2.2.2.2.2.2.2.2.2.2.2.2.2.2.2))

theorem ok_i_settled (x0 : Bool × Int × (List Int × Int) × Int × Int × Int × Int × Int × Int × Int × List (List Int) × (List (List Int × Int)) × Int × (List Int × Int) × List Int × Int × List Int × Int) (x1 : Int) (a3 : Option Addr) (c4 : Nat) (l5 : Nat) (hl6 : x0.2.2.1.1.length = l5) (a7 : Option Addr) (c8 : Nat) (l9 : Nat) (hl10 : x0.2.2.2.2.2.2.2.2.2.2.1.length = l9) (a11 : Option Addr) (c12 : Nat) (l13 : Nat) (hl14 : x0.2.2.2.2.2.2.2.2.2.2.2.1.length = l13) (a15 : Option Addr) (c16 : Nat) (l17 : Nat) (hl18 : x0.2.2.2.2.2.2.2.2.2.2.2.2.2.1.1.length = l17) (a19 : Option Addr) (c20 : Nat) (l21 : Nat) (hl22 : x0.2.2.2.2.2.2.2.2.2.2.2.2.2.2.1.length = l21) (a23 : Option Addr) (c24 : Nat) (l25 : Nat) (hl26 : x0.2.2.2.2.2.2.2.2.2.2.2.2.2.2.2.2.1.length = l25) (r : Bool × Int × (List Int × Int) × Int × Int × Int × Int × Int × Int × Int × List (List Int) × (List (List Int × Int)) × Int × (List Int × Int) × List Int × Int × List Int × Int) (h : M_i_settled x0 x1 = some r) :
    FC Tryz.prog 85 [.agg #[.bool x0.1, .int .i64 x0.2.1, .slice a3 l5 c4, .int .i64 x0.2.2.1.2, .int .i64 x0.2.2.2.1, .int .i64 x0.2.2.2.2.1, .int .i64 x0.2.2.2.2.2.1, .int .i64 x0.2.2.2.2.2.2.1, .int .i64 x0.2.2.2.2.2.2.2.1, .int .i64 x0.2.2.2.2.2.2.2.2.1, .int .i64 x0.2.2.2.2.2.2.2.2.2.1, .slice a7 l9 c8, .slice a11 l13 c12, .int .i64 x0.2.2.2.2.2.2.2.2.2.2.2.2.1, .slice a15 l17 c16, .int .i64 x0.2.2.2.2.2.2.2.2.2.2.2.2.2.1.2, .slice a19 l21 c20, .int .i64 x0.2.2.2.2.2.2.2.2.2.2.2.2.2.2.2.1, .slice a23 l25 c24, .int .i64 x0.2.2.2.2.2.2.2.2.2.2.2.2.2.2.2.2.2], .int .i64 x1] [⟨(.int .i64), ⟨a3, l5, c4⟩, x0.2.2.1.1⟩, ⟨(.sl (.int .i64)), ⟨a7, l9, c8⟩, x0.2.2.2.2.2.2.2.2.2.2.1⟩, ⟨(.pair (.sl (.int .i64)) (.int .i64)), ⟨a11, l13, c12⟩, x0.2.2.2.2.2.2.2.2.2.2.2.1⟩, ⟨(.int .i64), ⟨a15, l17, c16⟩, x0.2.2.2.2.2.2.2.2.2.2.2.2.2.1.1⟩, ⟨(.int .i64), ⟨a19, l21, c20⟩, x0.2.2.2.2.2.2.2.2.2.2.2.2.2.2.1⟩, ⟨(.int .i64), ⟨a23, l25, c24⟩, x0.2.2.2.2.2.2.2.2.2.2.2.2.2.2.2.2.1⟩] (fun _ : Option Addr × Nat × Option Addr × Nat × Option Addr × Nat × Option Addr × Nat × Option Addr × Nat × Option Addr × Nat => True) (fun q => .agg (cl42 r q.1 q.2.1 q.2.2.1 q.2.2.2.1 q.2.2.2.2.1 q.2.2.2.2.2.1 q.2.2.2.2.2.2.1 q.2.2.2.2.2.2.2.1 q.2.2.2.2.2.2.2.2.1 q.2.2.2.2.2.2.2.2.2.1 q.2.2.2.2.2.2.2.2.2.2.1 q.2.2.2.2.2.2.2.2.2.2.2).toArray) (fun q => [⟨(.int .i64), ⟨q.1, r.2.2.1.1.length, q.2.1⟩, r.2.2.1.1⟩, ⟨(.sl (.int .i64)), ⟨q.2.2.1, r.2.2.2.2.2.2.2.2.2.2.1.length, q.2.2.2.1⟩, r.2.2.2.2.2.2.2.2.2.2.1⟩, ⟨(.pair (.sl (.int .i64)) (.int .i64)), ⟨q.2.2.2.2.1, r.2.2.2.2.2.2.2.2.2.2.2.1.length, q.2.2.2.2.2.1⟩, r.2.2.2.2.2.2.2.2.2.2.2.1⟩, ⟨(.int .i64), ⟨q.2.2.2.2.2.2.1, r.2.2.2.2.2.2.2.2.2.2.2.2.2.1.1.length, q.2.2.2.2.2.2.2.1⟩, r.2.2.2.2.2.2.2.2.2.2.2.2.2.1.1⟩, ⟨(.int .i64), ⟨q.2.2.2.2.2.2.2.2.1, r.2.2.2.2.2.2.2.2.2.2.2.2.2.2.1.length, q.2.2.2.2.2.2.2.2.2.1⟩, r.2.2.2.2.2.2.2.2.2.2.2.2.2.2.1⟩, ⟨(.int .i64), ⟨q.2.2.2.2.2.2.2.2.2.2.1, r.2.2.2.2.2.2.2.2.2.2.2.2.2.2.2.2.1.length, q.2.2.2.2.2.2.2.2.2.2.2⟩, r.2.2.2.2.2.2.2.2.2.2.2.2.2.2.2.2.1⟩]) :=
  by
    subst hl6
    subst hl10
    subst hl14
    subst hl18
    subst hl22
    subst hl26
    refine FC.of (T := TTx) Tryz.call85 Tryz.func85 rfl rfl fun w0 => ?_
    unfold M_i_settled at h
    refine JS.seq (JS.region (JO.regB ttOk 2 [] [7, 8] [(2, .bp 7 0), (4, .bp 8 0)] (.new 7 42 (cl42 x0 a3 c4 a7 c8 a11 c12 a15 c16 a19 c20 a23 c24) (.new 8 42 (cl42 (false, 0, ([], 0), 0, 0, 0, 0, 0, 0, 0, [], [], 0, ([], 0), [], 0, ([], 0)) none 0 none 0 none 0 none 0 none 0 none 0) .nil)) rfl ⟨⟨rfl, rfl, trivial⟩, ⟨rfl, rfl, rfl, rfl, rfl, rfl, rfl, rfl, trivial⟩⟩ (JO.done rfl (JS.seq (JS.region (JO.reg ttOk 1 [] [] [(6, .v (.agg (cl42 x0 a3 c4 a7 c8 a11 c12 a15 c16 a19 c20 a23 c24).toArray))] _ rfl ⟨⟨rfl, trivial⟩, rfl⟩ ?_))))))
    obtain ⟨y27, hy28, h⟩ := bindO_some h
    refine JO.call rfl rfl rfl rfl (ok_i_copyEd x0 a3 c4 x0.2.2.1.1.length rfl a7 c8 x0.2.2.2.2.2.2.2.2.2.2.1.length rfl a11 c12 x0.2.2.2.2.2.2.2.2.2.2.2.1.length rfl a15 c16 x0.2.2.2.2.2.2.2.2.2.2.2.2.2.1.1.length rfl a19 c20 x0.2.2.2.2.2.2.2.2.2.2.2.2.2.2.1.length rfl a23 c24 x0.2.2.2.2.2.2.2.2.2.2.2.2.2.2.2.2.1.length rfl _ hy28) rfl [0, 1, 2, 3, 4, 5] rfl rfl ?_
    rintro ⟨a29, c30, a31, c32, a33, c34, a35, c36, a37, c38, a39, c40⟩ -
    refine JO.regB ttOk 2 [] [29] [(5, .bp 29 0)] (.new 8 42 (cl42 (false, 0, ([], 0), 0, 0, 0, 0, 0, 0, 0, [], [], 0, ([], 0), [], 0, ([], 0)) none 0 none 0 none 0 none 0 none 0 none 0) (.new 29 42 (cl42 y27 a29 c30 a31 c32 a33 c34 a35 c36 a37 c38 a39 c40) .nil)) rfl ⟨⟨rfl, trivial⟩, ⟨rfl, rfl, rfl, rfl, rfl, rfl, rfl, rfl, trivial⟩⟩ (JO.done rfl (JS.seq (JS.region (JO.regB ttOk 11 [] [] [] (.new 8 42 (cl42 (false, 0, ([], 0), 0, 0, 0, 0, 0, 0, 0, [], [], 0, ([], 0), [], 0, ([], 0)) none 0 none 0 none 0 none 0 none 0 none 0) (.new 29 42 (cl42 (y27.1, y27.2.1, y27.2.2.1, 0, 0, 0, 0, y27.2.2.2.2.2.2.2.1, y27.2.2.2.2.2.2.2.2.1, x1, y27.2.2.2.2.2.2.2.2.2.2.1, y27.2.2.2.2.2.2.2.2.2.2.2.1, y27.2.2.2.2.2.2.2.2.2.2.2.2.1, y27.2.2.2.2.2.2.2.2.2.2.2.2.2.1, y27.2.2.2.2.2.2.2.2.2.2.2.2.2.2.1, y27.2.2.2.2.2.2.2.2.2.2.2.2.2.2.2.1, y27.2.2.2.2.2.2.2.2.2.2.2.2.2.2.2.2) a29 c30 a31 c32 a33 c34 a35 c36 a37 c38 a39 c40) .nil)) rfl ⟨trivial, ⟨rfl, rfl, rfl, rfl, rfl, rfl, rfl, rfl, trivial⟩⟩ (JO.done rfl (JS.seq (JS.region (JO.regB ttOk 2 [] [] [] (.new 8 42 (cl42 (y27.1, y27.2.1, y27.2.2.1, 0, 0, 0, 0, y27.2.2.2.2.2.2.2.1, y27.2.2.2.2.2.2.2.2.1, x1, y27.2.2.2.2.2.2.2.2.2.2.1, y27.2.2.2.2.2.2.2.2.2.2.2.1, y27.2.2.2.2.2.2.2.2.2.2.2.2.1, y27.2.2.2.2.2.2.2.2.2.2.2.2.2.1, y27.2.2.2.2.2.2.2.2.2.2.2.2.2.2.1, y27.2.2.2.2.2.2.2.2.2.2.2.2.2.2.2.1, y27.2.2.2.2.2.2.2.2.2.2.2.2.2.2.2.2) a29 c30 a31 c32 a33 c34 a35 c36 a37 c38 a39 c40) .nil) rfl ⟨trivial, ⟨rfl, rfl, rfl, rfl, trivial⟩⟩ (JO.done rfl ?_)))))))))
    cases h
    exact JS.ret ttOk (a29, c30, a31, c32, a33, c34, a35, c36, a37, c38, a39, c40) trivial rfl rfl [0, 0, 0, 0, 0, 0] rfl

def M_i_bell (x0 : Bool × Int × (List Int × Int) × Int × Int × Int × Int × Int × Int × Int × List (List Int) × (List (List Int × Int)) × Int × (List Int × Int) × List Int × Int × List Int × Int) : Option ((Bool × Int × (List Int × Int) × Int × Int × Int × Int × Int × Int × Int × List (List Int) × (List (List Int × Int)) × Int × (List Int × Int) × List Int × Int × List Int × Int) × Int) :=
  (bindO (M_i_settled x0 0) fun (y26 : Bool × Int × (List Int × Int) × Int × Int × Int × Int × Int × Int × Int × List (List Int) × (List (List Int × Int)) × Int × (List Int × Int) × List Int × Int × List Int × Int) =>
  some (y26, 1))

theorem ok_i_bell (x0 : Bool × Int × (List Int × Int) × Int × Int × Int × Int × Int × Int × Int × List (List Int) × (List (List Int × Int)) × Int × (List Int × Int) × List Int × Int × List Int × Int) (a2 : Option Addr) (c3 : Nat) (l4 : Nat) (hl5 : x0.2.2.1.1.length = l4) (a6 : Option Addr) (c7 : Nat) (l8 : Nat) (hl9 : x0.2.2.2.2.2.2.2.2.2.2.1.length = l8) (a10 : Option Addr) (c11 : Nat) (l12 : Nat) (hl13 : x0.2.2.2.2.2.2.2.2.2.2.2.1.length = l12) (a14 : Option Addr) (c15 : Nat) (l16 : Nat) (hl17 : x0.2.2.2.2.2.2.2.2.2.2.2.2.2.1.1.length = l16) (a18 : Option Addr) (c19 : Nat) (l20 : Nat) (hl21 : x0.2.2.2.2.2.2.2.2.2.2.2.2.2.2.1.length = l20) (a22 : Option Addr) (c23 : Nat) (l24 : Nat) (hl25 : x0.2.2.2.2.2.2.2.2.2.2.2.2.2.2.2.2.1.length = l24) (r : (Bool × Int × (List Int × Int) × Int × Int × Int × Int × Int × Int × Int × List (List Int) × (List (List Int × Int)) × Int × (List Int × Int) × List Int × Int × List Int × Int) × Int) (h : M_i_bell x0 = some r) :
    FC Tryz.prog 140 [.agg #[.bool x0.1, .int .i64 x0.2.1, .slice a2 l4 c3, .int .i64 x0.2.2.1.2, .int .i64 x0.2.2.2.1, .int .i64 x0.2.2.2.2.1, .int .i64 x0.2.2.2.2.2.1, .int .i64 x0.2.2.2.2.2.2.1, .int .i64 x0.2.2.2.2.2.2.2.1, .int .i64 x0.2.2.2.2.2.2.2.2.1, .int .i64 x0.2.2.2.2.2.2.2.2.2.1, .slice a6 l8 c7, .slice a10 l12 c11, .int .i64 x0.2.2.2.2.2.2.2.2.2.2.2.2.1, .slice a14 l16 c15, .int .i64 x0.2.2.2.2.2.2.2.2.2.2.2.2.2.1.2, .slice a18 l20 c19, .int .i64 x0.2.2.2.2.2.2.2.2.2.2.2.2.2.2.2.1, .slice a22 l24 c23, .int .i64 x0.2.2.2.2.2.2.2.2.2.2.2.2.2.2.2.2.2]] [⟨(.int .i64), ⟨a2, l4, c3⟩, x0.2.2.1.1⟩, ⟨(.sl (.int .i64)), ⟨a6, l8, c7⟩, x0.2.2.2.2.2.2.2.2.2.2.1⟩, ⟨(.pair (.sl (.int .i64)) (.int .i64)), ⟨a10, l12, c11⟩, x0.2.2.2.2.2.2.2.2.2.2.2.1⟩, ⟨(.int .i64), ⟨a14, l16, c15⟩, x0.2.2.2.2.2.2.2.2.2.2.2.2.2.1.1⟩, ⟨(.int .i64), ⟨a18, l20, c19⟩, x0.2.2.2.2.2.2.2.2.2.2.2.2.2.2.1⟩, ⟨(.int .i64), ⟨a22, l24, c23⟩, x0.2.2.2.2.2.2.2.2.2.2.2.2.2.2.2.2.1⟩] (fun _ : Option Addr × Nat × Option Addr × Nat × Option Addr × Nat × Option Addr × Nat × Option Addr × Nat × Option Addr × Nat => True) (fun q => .tuple #[.agg (cl42 r.1 q.1 q.2.1 q.2.2.1 q.2.2.2.1 q.2.2.2.2.1 q.2.2.2.2.2.1 q.2.2.2.2.2.2.1 q.2.2.2.2.2.2.2.1 q.2.2.2.2.2.2.2.2.1 q.2.2.2.2.2.2.2.2.2.1 q.2.2.2.2.2.2.2.2.2.2.1 q.2.2.2.2.2.2.2.2.2.2.2).toArray, .int .i64 r.2]) (fun q => [⟨(.int .i64), ⟨q.1, r.1.2.2.1.1.length, q.2.1⟩, r.1.2.2.1.1⟩, ⟨(.sl (.int .i64)), ⟨q.2.2.1, r.1.2.2.2.2.2.2.2.2.2.2.1.length, q.2.2.2.1⟩, r.1.2.2.2.2.2.2.2.2.2.2.1⟩, ⟨(.pair (.sl (.int .i64)) (.int .i64)), ⟨q.2.2.2.2.1, r.1.2.2.2.2.2.2.2.2.2.2.2.1.length, q.2.2.2.2.2.1⟩, r.1.2.2.2.2.2.2.2.2.2.2.2.1⟩, ⟨(.int .i64), ⟨q.2.2.2.2.2.2.1, r.1.2.2.2.2.2.2.2.2.2.2.2.2.2.1.1.length, q.2.2.2.2.2.2.2.1⟩, r.1.2.2.2.2.2.2.2.2.2.2.2.2.2.1.1⟩, ⟨(.int .i64), ⟨q.2.2.2.2.2.2.2.2.1, r.1.2.2.2.2.2.2.2.2.2.2.2.2.2.2.1.length, q.2.2.2.2.2.2.2.2.2.1⟩, r.1.2.2.2.2.2.2.2.2.2.2.2.2.2.2.1⟩, ⟨(.int .i64), ⟨q.2.2.2.2.2.2.2.2.2.2.1, r.1.2.2.2.2.2.2.2.2.2.2.2.2.2.2.2.2.1.length, q.2.2.2.2.2.2.2.2.2.2.2⟩, r.1.2.2.2.2.2.2.2.2.2.2.2.2.2.2.2.2.1⟩]) :=
  by
    subst hl5
    subst hl9
    subst hl13
    subst hl17
    subst hl21
    subst hl25
    refine FC.of (T := TTx) Tryz.call140 Tryz.func140 rfl rfl fun w0 => ?_
    unfold M_i_bell at h
    refine JS.seq (JS.region (JO.regB ttOk 3 [] [7, 8] [(1, .bp 7 0), (2, .bp 8 0)] (.new 7 42 (cl42 x0 a2 c3 a6 c7 a10 c11 a14 c15 a18 c19 a22 c23) (.new 8 42 (cl42 (false, 0, ([], 0), 0, 0, 0, 0, 0, 0, 0, [], [], 0, ([], 0), [], 0, ([], 0)) none 0 none 0 none 0 none 0 none 0 none 0) .nil)) rfl ⟨⟨rfl, rfl, trivial⟩, ⟨rfl, rfl, rfl, rfl, rfl, rfl, rfl, rfl, trivial⟩⟩ (JO.done rfl (JS.seq (JS.region (JO.reg ttOk 1 [] [] [(4, .v (.agg (cl42 x0 a2 c3 a6 c7 a10 c11 a14 c15 a18 c19 a22 c23).toArray))] _ rfl ⟨⟨rfl, trivial⟩, rfl⟩ ?_))))))
    obtain ⟨y26, hy27, h⟩ := bindO_some h
    refine JO.call rfl rfl rfl rfl (ok_i_settled x0 0 a2 c3 x0.2.2.1.1.length rfl a6 c7 x0.2.2.2.2.2.2.2.2.2.2.1.length rfl a10 c11 x0.2.2.2.2.2.2.2.2.2.2.2.1.length rfl a14 c15 x0.2.2.2.2.2.2.2.2.2.2.2.2.2.1.1.length rfl a18 c19 x0.2.2.2.2.2.2.2.2.2.2.2.2.2.2.1.length rfl a22 c23 x0.2.2.2.2.2.2.2.2.2.2.2.2.2.2.2.2.1.length rfl _ hy27) rfl [0, 1, 2, 3, 4, 5] rfl rfl ?_
    rintro ⟨a28, c29, a30, c31, a32, c33, a34, c35, a36, c37, a38, c39⟩ -
    refine JO.regB ttOk 2 [] [] [(3, .v (.int .i64 1))] (.new 8 42 (cl42 y26 a28 c29 a30 c31 a32 c33 a34 c35 a36 c37 a38 c39) .nil) rfl ⟨⟨rfl, trivial⟩, ⟨rfl, rfl, rfl, rfl, trivial⟩⟩ (JO.done rfl ?_)
    cases h
    exact JS.ret ttOk (a28, c29, a30, c31, a32, c33, a34, c35, a36, c37, a38, c39) trivial rfl rfl [0, 0, 0, 0, 0, 0] rfl

def M_i_goTo (x0 : List Int × Int) (x1 : Int) : Option (List Int × Int) :=
  (bindO (M_i_copyInts x0.1) fun (y7 : List Int) =>
  some (y7, (max (0 : Int) (min x1 (x0.1.length : Int)))))

theorem ok_i_goTo (x0 : List Int × Int) (x1 : Int) (a3 : Option Addr) (c4 : Nat) (l5 : Nat) (hl6 : x0.1.length = l5) (r : List Int × Int) (h : M_i_goTo x0 x1 = some r) :
    FC Tryz.prog 164 [.agg #[.slice a3 l5 c4, .int .i64 x0.2], .int .i64 x1] [⟨(.int .i64), ⟨a3, l5, c4⟩, x0.1⟩] (fun _ : Option Addr × Nat => True) (fun q => .agg #[.slice q.1 r.1.length q.2, .int .i64 r.2]) (fun q => [⟨(.int .i64), ⟨q.1, r.1.length, q.2⟩, r.1⟩]) :=
  by
    subst hl6
    refine FC.of (T := TTx) Tryz.call164 Tryz.func164 rfl rfl fun w0 => ?_
    unfold M_i_goTo at h
    refine JS.seq (JS.region (JO.regB ttOk 2 [] [2, 3] [(2, .bp 2 0), (4, .bp 3 0)] (.new 2 34 [.slice a3 x0.1.length c4, .int .i64 x0.2] (.new 3 34 [.slice none 0 0, .int .i64 0] .nil)) rfl ⟨⟨rfl, rfl, trivial⟩, ⟨rfl, rfl, rfl, rfl, rfl, rfl, rfl, rfl, trivial⟩⟩ (JO.done rfl (JS.seq ?_))))
    obtain ⟨y7, hy8, h⟩ := bindO_some h
    refine JS.regionA rfl (.new 2 34 [.slice a3 x0.1.length c4, .int .i64 x0.2] .nil) [] [10] ⟨rfl, rfl, rfl, rfl, trivial⟩ rfl (fun be11 => ?_)
    refine JA.reg ttOk panic_cx true 3 [0, 1, 3, 4, 5, 6, 7, 8] rfl (by kernel_rfl) [] [(5, .bp 2 0), (6, .v (.slice a3 x0.1.length c4)), (8, .v (.int .i64 x1)), (9, .bp 2 0), (10, .v (.slice a3 x0.1.length c4)), (11, .v (.int .i64 (x0.1.length : Int))), (12, .v (.int .i64 (min x1 (x0.1.length : Int)))), (13, .v (.int .i64 (max (0 : Int) (min x1 (x0.1.length : Int)))))] ⟨rfl, rfl, rfl, rfl, trivial⟩ [] rfl rfl ⟨rfl, rfl, rfl, rfl, rfl, rfl, rfl, rfl, trivial⟩ (JA.one 2 (by kernel_rfl) (JK.call rfl rfl rfl rfl (ok_i_copyInts x0.1 a3 c4 x0.1.length rfl _ hy8) rfl [0] rfl rfl ?_))
    rintro ⟨a9, c10⟩ -
    refine JA.next ⟨rfl, rfl, rfl, rfl, trivial⟩ [] rfl (JA.reg ttOk panic_cx true 1 [9] rfl (by kernel_rfl) [] [(5, .bp 2 0), (6, .v (.slice a3 x0.1.length c4)), (7, .v (.slice a9 y7.length c10)), (8, .v (.int .i64 x1)), (9, .bp 2 0), (10, .v (.slice a3 x0.1.length c4)), (11, .v (.int .i64 (x0.1.length : Int))), (12, .v (.int .i64 (min x1 (x0.1.length : Int)))), (13, .v (.int .i64 (max (0 : Int) (min x1 (x0.1.length : Int))))), (14, .v (.agg #[.slice a9 y7.length c10, .int .i64 (max (0 : Int) (min x1 (x0.1.length : Int)))]))] ⟨rfl, rfl, rfl, rfl, trivial⟩ [] rfl rfl ⟨rfl, rfl, rfl, rfl, rfl, rfl, rfl, rfl, rfl, rfl, trivial⟩ (JA.one 10 (by kernel_rfl) (JK.stBox ttOk rfl rfl rfl rfl rfl rfl rfl rfl (JK.boxes (B' := (.new 2 34 [.slice a3 x0.1.length c4, .int .i64 x0.2] (.new 3 34 [.slice a9 y7.length c10, .int .i64 (max (0 : Int) (min x1 (x0.1.length : Int)))] .nil))) ⟨rfl, rfl, rfl, rfl, rfl, rfl, rfl, rfl, trivial⟩ (JA.nextL rfl (JA.done (by kernel_rfl) (JS.boxes (B' := (.new 3 34 [.slice a9 y7.length c10, .int .i64 (max (0 : Int) (min x1 (x0.1.length : Int)))] .nil)) ⟨rfl, rfl, rfl, rfl, trivial⟩ ?_)))))))
    cases h
    exact JS.ret ttOk (a9, c10) trivial rfl rfl [0] rfl

def M_i_sameInts_L1 (x0 : List Int) (x1 : List Int) (j28 : Unit → Option Bool) (k20 : Int → Option Bool) : Int → Option Bool := fun x11 =>
  (bif (decide (x11 < (x0.length : Int))) then
  (guardO (0 ≤ x11 ∧ x11 < (x0.length : Int)) <|
  (guardO (0 ≤ x11 ∧ x11 < (x1.length : Int)) <|
  (bif (!(decide ((at' x0 x11) = (at' x1 x11)))) then
  some false
  else
  k20 (W (x11 + 1)))))
  else
  j28 ())

def M_i_sameInts (x0 : List Int) (x1 : List Int) : Option Bool :=
  (bif (!(decide ((x0.length : Int) = (x1.length : Int)))) then
  some false
  else
  (joinO (fun (_ : Unit) =>
  some true) fun j28 =>
  (fixF (M_i_sameInts_L1 x0 x1 j28) FUEL 0)))

theorem ok_i_sameInts (x0 : List Int) (x1 : List Int) (a3 : Option Addr) (c4 : Nat) (l5 : Nat) (hl6 : x0.length = l5) (a7 : Option Addr) (c8 : Nat) (l9 : Nat) (hl10 : x1.length = l9) (r : Bool) (h : M_i_sameInts x0 x1 = some r) :
    FC Tryz.prog 245 [.slice a3 l5 c4, .slice a7 l9 c8] [⟨(.int .i64), ⟨a3, l5, c4⟩, x0⟩, ⟨(.int .i64), ⟨a7, l9, c8⟩, x1⟩] (fun _ : Unit => True) (fun _ => .bool r) (fun _ => []) :=
  by
    subst hl6
    subst hl10
    refine FC.of (T := TTx) Tryz.call245 Tryz.func245 rfl rfl fun w0 => ?_
    unfold M_i_sameInts at h
    refine JS.seq (JS.region (JO.reg ttOk 1 [] [] [] _ rfl ⟨trivial, rfl⟩ (JO.done rfl (JS.seq (JS.seq (JS.region (JO.reg ttOk 5 [] [] [(10, .v (.bool (!(decide ((x0.length : Int) = (x1.length : Int))))))] _ rfl ⟨⟨rfl, trivial⟩, rfl⟩ (JO.done rfl ?_))))))))
    refine JS.cond rfl (fun ht44 => ?_) (fun ht44 => ?_)
    · have h := condT h ht44
      refine JS.seq (JS.region (JO.reg ttOk 1 [] [] [(4, .v (.bool false))] _ rfl ⟨⟨rfl, trivial⟩, rfl⟩ (JO.done rfl ?_)))
      cases h
      exact JS.ret ttOk () trivial rfl rfl [] rfl
    have h := condF h ht44
    refine JS.skip (JS.seq (JS.seq (JS.region (JO.reg ttOk 3 [] [] [(12, .v (.int .i64 (x0.length : Int))), (13, .v (.int .i64 0))] _ rfl ⟨⟨rfl, rfl, trivial⟩, rfl⟩ (JO.done rfl ?_)))))
    obtain ⟨j28, hj43, h⟩ := joinO_some h
    refine JS.blockJ (ι := Unit) ⟨fun _ => j28 () = some r, fun _ => [], fun _ => .nil, fun _ => [], fun _ => [], fun _ => 0⟩ ?_ ?_
    · refine JS.loop (ι := Nat × Int) ⟨fun z => fixF (M_i_sameInts_L1 x0 x1 j28) z.1 z.2 = some r, fun z => [(0, .v (.slice a3 x0.length c4)), (1, .v (.slice a7 x1.length c8)), (12, .v (.int .i64 (x0.length : Int))), (13, .v (.int .i64 z.2))], fun z => .nil, fun z => [⟨(.int .i64), ⟨a3, x0.length, c4⟩, x0⟩, ⟨(.int .i64), ⟨a7, x1.length, c8⟩, x1⟩], fun z => [], fun z => z.1⟩ (FUEL, 0) h ⟨rfl, rfl, rfl, rfl, trivial⟩ trivial [0, 1] rfl [] rfl ?_
      rintro ⟨n21, x11⟩ h
      obtain ⟨n21, rfl, h⟩ := fixF_some h
      rw [M_i_sameInts_L1] at h
      refine JS.seq (JS.region (JO.reg ttOk 1 [] [] [(14, .v (.bool (decide (x11 < (x0.length : Int)))))] _ rfl ⟨⟨rfl, trivial⟩, rfl⟩ (JO.done rfl (JS.seq ?_))))
      refine JS.cond rfl (fun ht42 => ?_) (fun ht42 => ?_)
      · have h := condT h ht42
        refine JS.skip (JS.seq (JS.block (JS.seq (JS.region (JO.reg ttOk 2 [] [] [(5, .v (.int .i64 x11))] _ rfl ⟨⟨rfl, trivial⟩, rfl⟩ (JO.done rfl (JS.seq ?_)))))))
        obtain ⟨g13, h⟩ := guardO_some h
        obtain ⟨g15, h⟩ := guardO_some h
        refine JS.know 0 rfl fun hs39 => JS.know 1 rfl fun hs40 => JS.regionQ rfl (by kernel_rfl) (JQ.reg ttOk 3 [] [(18, .ep ⟨a3, x0.length, c4⟩ (Int.toNat x11 * 1))] rfl ⟨hs39.ix g13, ⟨rfl, trivial⟩⟩ (JQ.load ttOk rfl rfl rfl rfl rfl rfl rfl 0 rfl rfl (Int.toNat x11) 0 (at' x0 x11) ⟨at_some g13, rfl⟩ rfl rfl (JQ.reg ttOk 3 [] [(22, .ep ⟨a7, x1.length, c8⟩ (Int.toNat x11 * 1))] rfl ⟨hs40.ix g15, ⟨rfl, trivial⟩⟩ (JQ.load ttOk rfl rfl rfl rfl rfl rfl rfl 1 rfl rfl (Int.toNat x11) 0 (at' x1 x11) ⟨at_some g15, rfl⟩ rfl rfl (JQ.reg ttOk 1 [] [(24, .v (.bool (!(decide ((at' x0 x11) = (at' x1 x11))))))] rfl ⟨rfl, trivial⟩ (JQ.done rfl ?_))))))
        refine JS.cond rfl (fun ht41 => ?_) (fun ht41 => ?_)
        · have h := condT h ht41
          refine JS.seq (JS.region (JO.reg ttOk 1 [] [] [(4, .v (.bool false))] _ rfl ⟨⟨rfl, trivial⟩, rfl⟩ (JO.done rfl ?_)))
          cases h
          exact JS.ret ttOk () trivial rfl rfl [] rfl
        have h := condF h ht41
        refine JS.skip (JS.endB (JS.region (JO.reg ttOk 2 [(W (x11 + 1))] [] [(13, .v (.int .i64 (W (x11 + 1))))] _ rfl ⟨⟨trivial, rfl⟩, ⟨rfl, trivial⟩, rfl⟩ (JO.done rfl (JS.endL (n21, (W (x11 + 1))) h (Nat.lt_succ_self _) ⟨rfl, rfl, rfl, rfl, trivial⟩ trivial [0, 1] rfl [] rfl)))))
      have h := condF h ht42
      refine JS.exit rfl (JS.endJ () h trivial trivial [] rfl [] rfl)
    rintro _ h
    subst hj43
    refine JS.seq (JS.region (JO.reg ttOk 1 [] [] [(4, .v (.bool true))] _ rfl ⟨⟨rfl, trivial⟩, rfl⟩ (JO.done rfl ?_)))
    cases h
    exact JS.ret ttOk () trivial rfl rfl [] rfl

def M_i_UndoPut (x0 : List (List Int × Int)) (x1 : List Int × Int) : Option ((List (List Int × Int)) × Bool) :=
  (bindO (M_i_UndoOk x0) fun (y11 : Bool) =>
  (callO ((!y11) = false) (M_i_LineOk x1) false fun (y13 : Bool) =>
  (bif (bif (!y11) then true else (!y13)) then
  some ([], false)
  else
  (bindO (M_i_copyUndo x0) fun (y16 : List (List Int × Int)) =>
  (guardO (((decide (0 < (y16.length : Int))) = true) → 0 ≤ (W ((y16.length : Int) - 1)) ∧ (W ((y16.length : Int) - 1)) < (y16.length : Int)) <|
  (callO ((decide (0 < (y16.length : Int))) = true) (M_i_sameInts ((at' y16 (W ((y16.length : Int) - 1))).1) x1.1) false fun (y30 : Bool) =>
  (bif (bif (decide (0 < (y16.length : Int))) then y30 else false) then
  some (y16, true)
  else
  (bindO (M_i_copyLine x1) fun (y45 : List Int × Int) =>
  (guardO (y16.length + ([y45] : List (List Int × Int)).length ≤ 536870912) <|
  (joinO (fun (x58 : List (List Int × Int)) =>
  some (x58, true)) fun j61 =>
  (bif (decide (20 < ((y16 ++ ([y45] : List (List Int × Int))).length : Int))) then
  (guardO (0 ≤ (1 : Int) ∧ (1 : Int) ≤ ((y16 ++ ([y45] : List (List Int × Int))).length : Int) ∧ ((y16 ++ ([y45] : List (List Int × Int))).length : Int) ≤ ((y16 ++ ([y45] : List (List Int × Int))).length : Int)) <|
  j61 (sub' (y16 ++ ([y45] : List (List Int × Int))) 1 ((y16 ++ ([y45] : List (List Int × Int))).length : Int)))
  else
  j61 (y16 ++ ([y45] : List (List Int × Int))))))))))))))

theorem ok_i_UndoPut (x0 : List (List Int × Int)) (x1 : List Int × Int) (a3 : Option Addr) (c4 : Nat) (l5 : Nat) (hl6 : x0.length = l5) (a7 : Option Addr) (c8 : Nat) (l9 : Nat) (hl10 : x1.1.length = l9) (r : (List (List Int × Int)) × Bool) (h : M_i_UndoPut x0 x1 = some r) :
    FC Tryz.prog 246 [.agg #[.slice a3 l5 c4], .agg #[.slice a7 l9 c8, .int .i64 x1.2]] [⟨(.pair (.sl (.int .i64)) (.int .i64)), ⟨a3, l5, c4⟩, x0⟩, ⟨(.int .i64), ⟨a7, l9, c8⟩, x1.1⟩] (fun _ : Option Addr × Nat => True) (fun q => .tuple #[.agg #[.slice q.1 r.1.length q.2], .bool r.2]) (fun q => [⟨(.pair (.sl (.int .i64)) (.int .i64)), ⟨q.1, r.1.length, q.2⟩, r.1⟩]) :=
  by
    subst hl6
    subst hl10
    refine FC.of (T := TTx) Tryz.call246 Tryz.func246 rfl rfl fun w0 => ?_
    unfold M_i_UndoPut at h
    refine JS.seq (JS.region (JO.regB ttOk 4 [] [3, 4, 5] [(2, .bp 3 0), (3, .bp 4 0), (4, .bp 5 0)] (.new 3 40 [.slice a3 x0.length c4] (.new 4 34 [.slice a7 x1.1.length c8, .int .i64 x1.2] (.new 5 40 [.slice none 0 0] .nil))) rfl ⟨⟨rfl, rfl, rfl, trivial⟩, ⟨rfl, rfl, rfl, rfl, rfl, rfl, rfl, rfl, rfl, rfl, rfl, rfl, trivial⟩⟩ (JO.done rfl (JS.seq (JS.seq (JS.region (JO.reg ttOk 1 [] [] [(8, .v (.agg #[.slice a3 x0.length c4]))] _ rfl ⟨⟨rfl, trivial⟩, rfl⟩ ?_)))))))
    obtain ⟨y11, hy12, h⟩ := bindO_some h
    refine JO.call rfl rfl rfl rfl (ok_i_UndoOk x0 a3 c4 x0.length rfl _ hy12) rfl [0] rfl rfl fun _ _ => JO.reg ttOk 3 [] [] [(11, .v (.bool (!y11))), (12, .cd [(11, false)] (.v (.agg #[.slice a7 x1.1.length c8, .int .i64 x1.2])))] _ rfl ⟨⟨rfl, rfl, trivial⟩, rfl⟩ ?_
    obtain ⟨y13, hy14, -, h⟩ := callO_some h
    refine JO.callg rfl rfl rfl rfl (fun q66 => ok_i_LineOk x1 a7 c8 x1.1.length rfl _ (hy14 q66)) rfl [1] rfl rfl (JO.reg ttOk 2 [] [] [(15, .v (.bool (bif (!y11) then true else (!y13))))] _ rfl ⟨⟨rfl, trivial⟩, rfl⟩ (JO.done rfl ?_))
    refine JS.cond rfl (fun ht88 => ?_) (fun ht88 => ?_)
    · have h := condT h ht88
      refine JS.seq (JS.region (JO.regB ttOk 3 [] [] [(5, .v (.bool false))] (.new 5 40 [.slice none 0 0] .nil) rfl ⟨⟨rfl, trivial⟩, ⟨rfl, rfl, rfl, rfl, trivial⟩⟩ (JO.done rfl ?_)))
      cases h
      refine JS.nilO (.pair (.sl (.int .i64)) (.int .i64)) Sl.nil rfl rfl (JS.ret ttOk (none, 0) trivial rfl rfl [0] rfl)
    have h := condF h ht88
    refine JS.skip (JS.seq (JS.region (JO.reg ttOk 1 [] [] [(17, .v (.agg #[.slice a3 x0.length c4]))] _ rfl ⟨⟨rfl, trivial⟩, rfl⟩ ?_)))
    obtain ⟨y16, hy17, h⟩ := bindO_some h
    refine JO.call rfl rfl rfl rfl (ok_i_copyUndo x0 a3 c4 x0.length rfl _ hy17) rfl [0] rfl rfl ?_
    rintro ⟨a18, c19⟩ -
    refine JO.regB ttOk 2 [] [15] [(6, .bp 15 0)] (.new 4 34 [.slice a7 x1.1.length c8, .int .i64 x1.2] (.new 5 40 [.slice none 0 0] (.new 15 40 [.slice a18 y16.length c19] .nil))) rfl ⟨⟨rfl, trivial⟩, ⟨rfl, rfl, rfl, rfl, rfl, rfl, rfl, rfl, rfl, rfl, rfl, rfl, trivial⟩⟩ (JO.done rfl (JS.seq (JS.seq (JS.region (JO.reg ttOk 4 [] [] [(7, .v (.int .i64 (y16.length : Int)))] _ rfl ⟨⟨rfl, trivial⟩, rfl⟩ (JO.done rfl (JS.seq ?_)))))))
    obtain ⟨g22, h⟩ := guardO_some h
    obtain ⟨y30, hy31, -, h⟩ := callO_some h
    refine JS.ofO (id := 0) (JO.lend [0] rfl (Int.toNat (W ((y16.length : Int) - 1))) (at' y16 (W ((y16.length : Int) - 1))) rfl ?_)
    intro a25 c26 l27 hl28
    obtain rfl : ([.slice a25 ((at' y16 (W ((y16.length : Int) - 1))).1).length c26, .int .i64 (at' y16 (W ((y16.length : Int) - 1))).2] : List Value) = l27 := Option.some.inj hl28
    refine JO.ofS (JS.know 2 rfl fun hs80 => JS.regionQ rfl (by kernel_rfl) (JQ.reg ttOk 9 [(W ((y16.length : Int) - 1))] [(24, .v (.bool (decide (0 < (y16.length : Int))))), (30, .cd [(24, true)] (.ep ⟨a18, y16.length, c19⟩ (Int.toNat (W ((y16.length : Int) - 1)) * 2)))] rfl ⟨(fun q79 => ⟨trivial, rfl⟩), (fun q81 => (hs80.cast (lentL_len _ _ _)).ix (g22 q81)), (fun q82 => (hs80.cast (lentL_len _ _ _)).fa (g22 q82)), ⟨rfl, rfl, trivial⟩⟩ (JQ.loadV ttOk rfl rfl rfl rfl rfl rfl 2 rfl rfl (Int.toNat (W ((y16.length : Int) - 1))) 0 (Sum.inr [.slice a25 ((at' y16 (W ((y16.length : Int) - 1))).1).length c26, .int .i64 (at' y16 (W ((y16.length : Int) - 1))).2]) (fun q83 => ⟨lentL_at (at_some (g22 q83)), rfl⟩) rfl rfl rfl (JQ.reg ttOk 2 [] [(33, .cd [(24, true)] (.v (.slice a7 x1.1.length c8)))] rfl ⟨rfl, trivial⟩ (JQ.call rfl rfl rfl rfl (fun q84 => ok_i_sameInts ((at' y16 (W ((y16.length : Int) - 1))).1) x1.1 a25 c26 (((at' y16 (W ((y16.length : Int) - 1))).1).length) rfl a7 c8 x1.1.length rfl _ (hy31 q84)) rfl [3, 1] rfl rfl (JQ.reg ttOk 1 [] [(35, .v (.bool (bif (decide (0 < (y16.length : Int))) then y30 else false)))] rfl ⟨rfl, trivial⟩ (JQ.done rfl ?_)))))))
    refine JS.ofO (id := 0) (JO.unlend0 [0, 0] rfl (at' y16 (W ((y16.length : Int) - 1))) rfl ⟨rfl, rfl, rfl⟩ (JO.ofS ?_))
    refine JS.cond rfl (fun ht87 => ?_) (fun ht87 => ?_)
    · have h := condT h ht87
      refine JS.seq (JS.region (JO.regB ttOk 3 [] [] [(5, .v (.bool true))] (.new 5 40 [.slice a18 y16.length c19] .nil) rfl ⟨⟨rfl, trivial⟩, ⟨rfl, rfl, rfl, rfl, trivial⟩⟩ (JO.done rfl ?_)))
      cases h
      exact JS.ret ttOk (a18, c19) trivial rfl rfl [0] rfl
    have h := condF h ht87
    refine JS.skip (JS.seq ?_)
    obtain ⟨y45, hy46, h⟩ := bindO_some h
    obtain ⟨g50, h⟩ := guardO_some h
    refine JS.regionA rfl (.new 4 34 [.slice a7 x1.1.length c8, .int .i64 x1.2] (.new 15 40 [.slice a18 y16.length c19] .nil)) [] [6, 7] ⟨rfl, rfl, rfl, rfl, rfl, rfl, rfl, rfl, trivial⟩ rfl (fun be53 => ?_)
    refine JA.reg ttOk panic_cx true 5 [0, 1, 2] rfl (by kernel_rfl) [] [(37, .bp 15 0), (38, .v (.slice a18 y16.length c19)), (39, .v (.agg #[.slice a7 x1.1.length c8, .int .i64 x1.2]))] ⟨rfl, rfl, rfl, rfl, rfl, rfl, rfl, rfl, trivial⟩ [] rfl rfl ⟨rfl, rfl, rfl, trivial⟩ (JA.one 3 (by kernel_rfl) (JK.call rfl rfl rfl rfl (ok_i_copyLine x1 a7 c8 x1.1.length rfl _ hy46) rfl [1] rfl rfl ?_))
    rintro ⟨a47, c48⟩ -
    refine JA.next ⟨rfl, rfl, rfl, rfl, rfl, rfl, rfl, rfl, trivial⟩ [] rfl (JA.one 4 (by kernel_rfl) (JK.buildSlice ttOk rfl rfl rfl rfl rfl rfl rfl rfl rfl rfl rfl [0] rfl (.pair (.sl (.int .i64)) (.int .i64)) [y45] ⟨rfl, rfl, rfl⟩ rfl rfl fun a49 => JA.next ⟨rfl, rfl, rfl, rfl, rfl, rfl, rfl, rfl, trivial⟩ [] rfl (JA.one 5 (by kernel_rfl) (JK.appendO' ttOk rfl rfl rfl rfl ⟨rfl, rfl, rfl, rfl, trivial, rfl, rfl, rfl, rfl⟩ rfl rfl [1, 0] rfl g50 rfl fun a51 c52 => JA.next ⟨rfl, rfl, rfl, rfl, rfl, rfl, rfl, rfl, trivial⟩ [] rfl (JA.regL ttOk panic_cx 1 [6] rfl (by kernel_rfl) [] [(37, .bp 15 0), (38, .v (.slice a18 y16.length c19)), (39, .v (.agg #[.slice a7 x1.1.length c8, .int .i64 x1.2])), (40, .v (.agg #[.slice a47 y45.1.length c48, .int .i64 y45.2])), (41, .v (.slice a49 ([y45] : List (List Int × Int)).length ([y45] : List (List Int × Int)).length)), (42, .v (.slice a51 (y16 ++ ([y45] : List (List Int × Int))).length c52)), (43, .bp 15 0)] rfl ⟨rfl, rfl, rfl, rfl, rfl, rfl, rfl, trivial⟩ (JA.one 7 (by kernel_rfl) (JK.stBox ttOk rfl rfl rfl rfl rfl rfl rfl rfl (JK.boxes (B' := (.new 4 34 [.slice a7 x1.1.length c8, .int .i64 x1.2] (.new 5 40 [.slice none 0 0] (.new 15 40 [.slice a51 (y16 ++ ([y45] : List (List Int × Int))).length c52] .nil)))) ⟨rfl, rfl, rfl, rfl, rfl, rfl, rfl, rfl, rfl, rfl, rfl, rfl, trivial⟩ (JA.nextL rfl (JA.done (by kernel_rfl) (JS.boxes (B' := (.new 5 40 [.slice none 0 0] (.new 15 40 [.slice a51 (y16 ++ ([y45] : List (List Int × Int))).length c52] .nil))) ⟨rfl, rfl, rfl, rfl, rfl, rfl, rfl, rfl, trivial⟩ ?_)))))))))))
    obtain ⟨j61, hj86, h⟩ := joinO_some h
    refine JS.seqJ (ι := (List (List Int × Int)) × Option Addr × Nat) ⟨fun z => j61 z.1 = some r, fun z => [(4, .bp 5 0), (6, .bp 15 0)], fun z => (.new 5 40 [.slice none 0 0] (.new 15 40 [.slice z.2.1 z.1.length z.2.2] .nil)), fun z => [], fun z => [⟨(.pair (.sl (.int .i64)) (.int .i64)), ⟨z.2.1, z.1.length, z.2.2⟩, z.1⟩], fun z => 0⟩ ?_ ?_
    · refine JS.seq (JS.region (JO.reg ttOk 4 [] [] [(47, .v (.bool (decide (20 < ((y16 ++ ([y45] : List (List Int × Int))).length : Int)))))] _ rfl ⟨⟨rfl, trivial⟩, rfl⟩ (JO.done rfl ?_)))
      refine JS.cond rfl (fun ht85 => ?_) (fun ht85 => ?_)
      · have h := condT h ht85
        refine JS.region (JO.reg ttOk 2 [] [] [(49, .v (.slice a51 (y16 ++ ([y45] : List (List Int × Int))).length c52))] _ rfl ⟨⟨rfl, trivial⟩, rfl⟩ ?_)
        obtain ⟨g54, h⟩ := guardO_some h
        refine JO.sliceO' ttOk rfl rfl rfl rfl rfl rfl rfl rfl [0] rfl (1 : Int) ((y16 ++ ([y45] : List (List Int × Int))).length : Int) rfl rfl g54 rfl fun a55 c56 => JO.regB ttOk 2 [] [] [] (.new 5 40 [.slice none 0 0] (.new 15 40 [.slice a55 (sub' (y16 ++ ([y45] : List (List Int × Int))) 1 ((y16 ++ ([y45] : List (List Int × Int))).length : Int)).length c56] .nil)) rfl ⟨trivial, ⟨rfl, rfl, rfl, rfl, rfl, rfl, rfl, rfl, trivial⟩⟩ (JO.done rfl (JS.endJ ((sub' (y16 ++ ([y45] : List (List Int × Int))) 1 ((y16 ++ ([y45] : List (List Int × Int))).length : Int)), a55, c56) h ⟨rfl, rfl, trivial⟩ ⟨rfl, rfl, rfl, rfl, rfl, rfl, rfl, rfl, trivial⟩ [] rfl [0] rfl))
      have h := condF h ht85
      refine JS.skip (JS.endJ ((y16 ++ ([y45] : List (List Int × Int))), a51, c52) h ⟨rfl, rfl, trivial⟩ ⟨rfl, rfl, rfl, rfl, rfl, rfl, rfl, rfl, trivial⟩ [] rfl [0] rfl)
    rintro ⟨x58, a59, c60⟩ h
    subst hj86
    refine JS.seq (JS.region (JO.regB ttOk 3 [] [] [(5, .v (.bool true))] (.new 5 40 [.slice a59 x58.length c60] .nil) rfl ⟨⟨rfl, trivial⟩, ⟨rfl, rfl, rfl, rfl, trivial⟩⟩ (JO.done rfl ?_)))
    cases h
    exact JS.ret ttOk (a59, c60) trivial rfl rfl [0] rfl

def M_i_inCommand (x0 : List Int × Int) (x1 : Int) : Option (List Int × Int) :=
  (joinO (fun (x11 : Int) =>
  some (x0.1, x11)) fun j12 =>
  (callO ((decide (x1 = 2)) = true) (M_i_isAtEnd x0) false fun (y7 : Bool) =>
  (bif (bif (decide (x1 = 2)) then y7 else false) then
  j12 (W (x0.2 - 1))
  else
  j12 x0.2)))

theorem ok_i_inCommand (x0 : List Int × Int) (x1 : Int) (a3 : Option Addr) (c4 : Nat) (l5 : Nat) (hl6 : x0.1.length = l5) (r : List Int × Int) (h : M_i_inCommand x0 x1 = some r) :
    FC Tryz.prog 87 [.agg #[.slice a3 l5 c4, .int .i64 x0.2], .int .i64 x1] [⟨(.int .i64), ⟨a3, l5, c4⟩, x0.1⟩] (fun _ : Unit => True) (fun _ => .agg #[.slice a3 l5 c4, .int .i64 r.2]) (fun _ => []) :=
  by
    subst hl6
    refine FC.of (T := TTx) Tryz.call87 Tryz.func87 rfl rfl fun w0 => ?_
    unfold M_i_inCommand at h
    refine JS.seq (JS.region (JO.regB ttOk 2 [] [2, 3] [(2, .bp 2 0), (4, .bp 3 0)] (.new 2 34 [.slice a3 x0.1.length c4, .int .i64 x0.2] (.new 3 34 [.slice none 0 0, .int .i64 0] .nil)) rfl ⟨⟨rfl, rfl, trivial⟩, ⟨rfl, rfl, rfl, rfl, rfl, rfl, rfl, rfl, trivial⟩⟩ (JO.done rfl ?_)))
    obtain ⟨j12, hj18, h⟩ := joinO_some h
    refine JS.seqJ (ι := Int) ⟨fun z => j12 z = some r, fun z => [(2, .bp 2 0), (4, .bp 3 0)], fun z => (.new 2 34 [.slice a3 x0.1.length c4, .int .i64 z] (.new 3 34 [.slice none 0 0, .int .i64 0] .nil)), fun z => [⟨(.int .i64), ⟨a3, x0.1.length, c4⟩, x0.1⟩], fun z => [], fun z => 0⟩ ?_ ?_
    · refine JS.seq (JS.region (JO.reg ttOk 4 [] [] [(7, .v (.bool (decide (x1 = 2)))), (8, .cd [(7, true)] (.v (.agg #[.slice a3 x0.1.length c4, .int .i64 x0.2])))] _ rfl ⟨⟨rfl, rfl, trivial⟩, rfl⟩ ?_))
      obtain ⟨y7, hy8, -, h⟩ := callO_some h
      refine JO.callg rfl rfl rfl rfl (fun q16 => ok_i_isAtEnd x0 a3 c4 x0.1.length rfl _ (hy8 q16)) rfl [0] rfl rfl (JO.reg ttOk 1 [] [] [(10, .v (.bool (bif (decide (x1 = 2)) then y7 else false)))] _ rfl ⟨⟨rfl, trivial⟩, rfl⟩ (JO.done rfl ?_))
      refine JS.cond rfl (fun ht17 => ?_) (fun ht17 => ?_)
      · have h := condT h ht17
        refine JS.region (JO.regB ttOk 5 [(W (x0.2 - 1))] [] [] (.new 2 34 [.slice a3 x0.1.length c4, .int .i64 (W (x0.2 - 1))] (.new 3 34 [.slice none 0 0, .int .i64 0] .nil)) rfl ⟨⟨trivial, rfl⟩, trivial, ⟨rfl, rfl, rfl, rfl, rfl, rfl, rfl, rfl, trivial⟩⟩ (JO.done rfl (JS.endJ (W (x0.2 - 1)) h ⟨rfl, rfl, trivial⟩ ⟨rfl, rfl, rfl, rfl, rfl, rfl, rfl, rfl, trivial⟩ [0] rfl [] rfl)))
      have h := condF h ht17
      refine JS.skip (JS.endJ x0.2 h ⟨rfl, rfl, trivial⟩ ⟨rfl, rfl, rfl, rfl, rfl, rfl, rfl, rfl, trivial⟩ [0] rfl [] rfl)
    rintro x11 h
    subst hj18
    refine JS.seq (JS.region (JO.regB ttOk 2 [] [] [] (.new 3 34 [.slice a3 x0.1.length c4, .int .i64 x11] .nil) rfl ⟨trivial, ⟨rfl, rfl, rfl, rfl, trivial⟩⟩ (JO.done rfl ?_)))
    cases h
    exact JS.ret ttOk () trivial rfl rfl [] rfl

def M_i_set (x0 : Bool × Int × (List Int × Int) × Int × Int × Int × Int × Int × Int × Int × List (List Int) × (List (List Int × Int)) × Int × (List Int × Int) × List Int × Int × List Int × Int) (x1 : List Int × Int) (x2 : Int) : Option (Bool × Int × (List Int × Int) × Int × Int × Int × Int × Int × Int × Int × List (List Int) × (List (List Int × Int)) × Int × (List Int × Int) × List Int × Int × List Int × Int) :=
  (bindO (M_i_settled x0 x2) fun (y32 : Bool × Int × (List Int × Int) × Int × Int × Int × Int × Int × Int × Int × List (List Int) × (List (List Int × Int)) × Int × (List Int × Int) × List Int × Int × List Int × Int) =>
  (joinO (fun (x54 : List (List Int × Int)) =>
  (bindO (M_i_copyLine x1) fun (y59 : List Int × Int) =>
  (bindO (M_i_inCommand y59 x0.2.1) fun (y63 : List Int × Int) =>
  some (y32.1, y32.2.1, (y59.1, y63.2), y32.2.2.2.1, y32.2.2.2.2.1, y32.2.2.2.2.2.1, y32.2.2.2.2.2.2.1, y32.2.2.2.2.2.2.2.1, y32.2.2.2.2.2.2.2.2.1, y32.2.2.2.2.2.2.2.2.2.1, y32.2.2.2.2.2.2.2.2.2.2.1, x54, y32.2.2.2.2.2.2.2.2.2.2.2.2.1, y32.2.2.2.2.2.2.2.2.2.2.2.2.2.1, y32.2.2.2.2.2.2.2.2.2.2.2.2.2.2.1, y32.2.2.2.2.2.2.2.2.2.2.2.2.2.2.2.1, y32.2.2.2.2.2.2.2.2.2.2.2.2.2.2.2.2)))) fun j57 =>
  (bindO (M_i_sameInts x1.1 x0.2.2.1.1) fun (y46 : Bool) =>
  (bif (bif (!y46) then (!(bif (decide (x2 = 1)) then (decide (x0.2.2.2.2.2.2.2.2.2.1 = 1)) else false)) else false) then
  (bindO (M_i_UndoPut x0.2.2.2.2.2.2.2.2.2.2.2.1 x0.2.2.1) fun (y48, y49) =>
  j57 y48)
  else
  j57 y32.2.2.2.2.2.2.2.2.2.2.2.1))))

theorem ok_i_set (x0 : Bool × Int × (List Int × Int) × Int × Int × Int × Int × Int × Int × Int × List (List Int) × (List (List Int × Int)) × Int × (List Int × Int) × List Int × Int × List Int × Int) (x1 : List Int × Int) (x2 : Int) (a4 : Option Addr) (c5 : Nat) (l6 : Nat) (hl7 : x0.2.2.1.1.length = l6) (a8 : Option Addr) (c9 : Nat) (l10 : Nat) (hl11 : x0.2.2.2.2.2.2.2.2.2.2.1.length = l10) (a12 : Option Addr) (c13 : Nat) (l14 : Nat) (hl15 : x0.2.2.2.2.2.2.2.2.2.2.2.1.length = l14) (a16 : Option Addr) (c17 : Nat) (l18 : Nat) (hl19 : x0.2.2.2.2.2.2.2.2.2.2.2.2.2.1.1.length = l18) (a20 : Option Addr) (c21 : Nat) (l22 : Nat) (hl23 : x0.2.2.2.2.2.2.2.2.2.2.2.2.2.2.1.length = l22) (a24 : Option Addr) (c25 : Nat) (l26 : Nat) (hl27 : x0.2.2.2.2.2.2.2.2.2.2.2.2.2.2.2.2.1.length = l26) (a28 : Option Addr) (c29 : Nat) (l30 : Nat) (hl31 : x1.1.length = l30) (r : Bool × Int × (List Int × Int) × Int × Int × Int × Int × Int × Int × Int × List (List Int) × (List (List Int × Int)) × Int × (List Int × Int) × List Int × Int × List Int × Int) (h : M_i_set x0 x1 x2 = some r) :
    FC Tryz.prog 163 [.agg #[.bool x0.1, .int .i64 x0.2.1, .slice a4 l6 c5, .int .i64 x0.2.2.1.2, .int .i64 x0.2.2.2.1, .int .i64 x0.2.2.2.2.1, .int .i64 x0.2.2.2.2.2.1, .int .i64 x0.2.2.2.2.2.2.1, .int .i64 x0.2.2.2.2.2.2.2.1, .int .i64 x0.2.2.2.2.2.2.2.2.1, .int .i64 x0.2.2.2.2.2.2.2.2.2.1, .slice a8 l10 c9, .slice a12 l14 c13, .int .i64 x0.2.2.2.2.2.2.2.2.2.2.2.2.1, .slice a16 l18 c17, .int .i64 x0.2.2.2.2.2.2.2.2.2.2.2.2.2.1.2, .slice a20 l22 c21, .int .i64 x0.2.2.2.2.2.2.2.2.2.2.2.2.2.2.2.1, .slice a24 l26 c25, .int .i64 x0.2.2.2.2.2.2.2.2.2.2.2.2.2.2.2.2.2], .agg #[.slice a28 l30 c29, .int .i64 x1.2], .int .i64 x2] [⟨(.int .i64), ⟨a4, l6, c5⟩, x0.2.2.1.1⟩, ⟨(.sl (.int .i64)), ⟨a8, l10, c9⟩, x0.2.2.2.2.2.2.2.2.2.2.1⟩, ⟨(.pair (.sl (.int .i64)) (.int .i64)), ⟨a12, l14, c13⟩, x0.2.2.2.2.2.2.2.2.2.2.2.1⟩, ⟨(.int .i64), ⟨a16, l18, c17⟩, x0.2.2.2.2.2.2.2.2.2.2.2.2.2.1.1⟩, ⟨(.int .i64), ⟨a20, l22, c21⟩, x0.2.2.2.2.2.2.2.2.2.2.2.2.2.2.1⟩, ⟨(.int .i64), ⟨a24, l26, c25⟩, x0.2.2.2.2.2.2.2.2.2.2.2.2.2.2.2.2.1⟩, ⟨(.int .i64), ⟨a28, l30, c29⟩, x1.1⟩] (fun _ : Option Addr × Nat × Option Addr × Nat × Option Addr × Nat × Option Addr × Nat × Option Addr × Nat × Option Addr × Nat => True) (fun q => .agg (cl42 r q.1 q.2.1 q.2.2.1 q.2.2.2.1 q.2.2.2.2.1 q.2.2.2.2.2.1 q.2.2.2.2.2.2.1 q.2.2.2.2.2.2.2.1 q.2.2.2.2.2.2.2.2.1 q.2.2.2.2.2.2.2.2.2.1 q.2.2.2.2.2.2.2.2.2.2.1 q.2.2.2.2.2.2.2.2.2.2.2).toArray) (fun q => [⟨(.int .i64), ⟨q.1, r.2.2.1.1.length, q.2.1⟩, r.2.2.1.1⟩, ⟨(.sl (.int .i64)), ⟨q.2.2.1, r.2.2.2.2.2.2.2.2.2.2.1.length, q.2.2.2.1⟩, r.2.2.2.2.2.2.2.2.2.2.1⟩, ⟨(.pair (.sl (.int .i64)) (.int .i64)), ⟨q.2.2.2.2.1, r.2.2.2.2.2.2.2.2.2.2.2.1.length, q.2.2.2.2.2.1⟩, r.2.2.2.2.2.2.2.2.2.2.2.1⟩, ⟨(.int .i64), ⟨q.2.2.2.2.2.2.1, r.2.2.2.2.2.2.2.2.2.2.2.2.2.1.1.length, q.2.2.2.2.2.2.2.1⟩, r.2.2.2.2.2.2.2.2.2.2.2.2.2.1.1⟩, ⟨(.int .i64), ⟨q.2.2.2.2.2.2.2.2.1, r.2.2.2.2.2.2.2.2.2.2.2.2.2.2.1.length, q.2.2.2.2.2.2.2.2.2.1⟩, r.2.2.2.2.2.2.2.2.2.2.2.2.2.2.1⟩, ⟨(.int .i64), ⟨q.2.2.2.2.2.2.2.2.2.2.1, r.2.2.2.2.2.2.2.2.2.2.2.2.2.2.2.2.1.length, q.2.2.2.2.2.2.2.2.2.2.2⟩, r.2.2.2.2.2.2.2.2.2.2.2.2.2.2.2.2.1⟩]) :=
  by
    subst hl7
    subst hl11
    subst hl15
    subst hl19
    subst hl23
    subst hl27
    subst hl31
    refine FC.of (T := TTx) Tryz.call163 Tryz.func163 rfl rfl fun w0 => ?_
    unfold M_i_set at h
    refine JS.seq (JS.region (JO.regB ttOk 3 [] [8, 9, 10] [(3, .bp 8 0), (4, .bp 9 0), (6, .bp 10 0)] (.new 8 42 (cl42 x0 a4 c5 a8 c9 a12 c13 a16 c17 a20 c21 a24 c25) (.new 9 34 [.slice a28 x1.1.length c29, .int .i64 x1.2] (.new 10 42 (cl42 (false, 0, ([], 0), 0, 0, 0, 0, 0, 0, 0, [], [], 0, ([], 0), [], 0, ([], 0)) none 0 none 0 none 0 none 0 none 0 none 0) .nil))) rfl ⟨⟨rfl, rfl, rfl, trivial⟩, ⟨rfl, rfl, rfl, rfl, rfl, rfl, rfl, rfl, rfl, rfl, rfl, rfl, trivial⟩⟩ (JO.done rfl (JS.seq (JS.region (JO.reg ttOk 2 [] [] [(8, .v (.agg (cl42 x0 a4 c5 a8 c9 a12 c13 a16 c17 a20 c21 a24 c25).toArray)), (9, .v (.int .i64 x2))] _ rfl ⟨⟨rfl, rfl, trivial⟩, rfl⟩ ?_))))))
    obtain ⟨y32, hy33, h⟩ := bindO_some h
    refine JO.call rfl rfl rfl rfl (ok_i_settled x0 x2 a4 c5 x0.2.2.1.1.length rfl a8 c9 x0.2.2.2.2.2.2.2.2.2.2.1.length rfl a12 c13 x0.2.2.2.2.2.2.2.2.2.2.2.1.length rfl a16 c17 x0.2.2.2.2.2.2.2.2.2.2.2.2.2.1.1.length rfl a20 c21 x0.2.2.2.2.2.2.2.2.2.2.2.2.2.2.1.length rfl a24 c25 x0.2.2.2.2.2.2.2.2.2.2.2.2.2.2.2.2.1.length rfl _ hy33) rfl [0, 1, 2, 3, 4, 5] rfl rfl ?_
    rintro ⟨a34, c35, a36, c37, a38, c39, a40, c41, a42, c43, a44, c45⟩ -
    refine JO.regB ttOk 2 [] [31] [(7, .bp 31 0)] (.new 8 42 (cl42 x0 a4 c5 a8 c9 a12 c13 a16 c17 a20 c21 a24 c25) (.new 9 34 [.slice a28 x1.1.length c29, .int .i64 x1.2] (.new 10 42 (cl42 (false, 0, ([], 0), 0, 0, 0, 0, 0, 0, 0, [], [], 0, ([], 0), [], 0, ([], 0)) none 0 none 0 none 0 none 0 none 0 none 0) (.new 31 42 (cl42 y32 a34 c35 a36 c37 a38 c39 a40 c41 a42 c43 a44 c45) .nil)))) rfl ⟨⟨rfl, trivial⟩, ⟨rfl, rfl, rfl, rfl, rfl, rfl, rfl, rfl, rfl, rfl, rfl, rfl, rfl, rfl, rfl, rfl, trivial⟩⟩ (JO.done rfl ?_)
    obtain ⟨j57, hj68, h⟩ := joinO_some h
    refine JS.seqJ (ι := (List (List Int × Int)) × Option Addr × Nat) ⟨fun z => j57 z.1 = some r, fun z => [(3, .bp 8 0), (4, .bp 9 0), (6, .bp 10 0), (7, .bp 31 0)], fun z => (.new 8 42 (cl42 x0 a4 c5 a8 c9 a12 c13 a16 c17 a20 c21 a24 c25) (.new 9 34 [.slice a28 x1.1.length c29, .int .i64 x1.2] (.new 10 42 (cl42 (false, 0, ([], 0), 0, 0, 0, 0, 0, 0, 0, [], [], 0, ([], 0), [], 0, ([], 0)) none 0 none 0 none 0 none 0 none 0 none 0) (.new 31 42 (cl42 (y32.1, y32.2.1, y32.2.2.1, y32.2.2.2.1, y32.2.2.2.2.1, y32.2.2.2.2.2.1, y32.2.2.2.2.2.2.1, y32.2.2.2.2.2.2.2.1, y32.2.2.2.2.2.2.2.2.1, y32.2.2.2.2.2.2.2.2.2.1, y32.2.2.2.2.2.2.2.2.2.2.1, z.1, y32.2.2.2.2.2.2.2.2.2.2.2.2.1, y32.2.2.2.2.2.2.2.2.2.2.2.2.2.1, y32.2.2.2.2.2.2.2.2.2.2.2.2.2.2.1, y32.2.2.2.2.2.2.2.2.2.2.2.2.2.2.2.1, y32.2.2.2.2.2.2.2.2.2.2.2.2.2.2.2.2) a34 c35 a36 c37 z.2.1 z.2.2 a40 c41 a42 c43 a44 c45) .nil)))), fun z => [⟨(.int .i64), ⟨a4, x0.2.2.1.1.length, c5⟩, x0.2.2.1.1⟩, ⟨(.sl (.int .i64)), ⟨a8, x0.2.2.2.2.2.2.2.2.2.2.1.length, c9⟩, x0.2.2.2.2.2.2.2.2.2.2.1⟩, ⟨(.pair (.sl (.int .i64)) (.int .i64)), ⟨a12, x0.2.2.2.2.2.2.2.2.2.2.2.1.length, c13⟩, x0.2.2.2.2.2.2.2.2.2.2.2.1⟩, ⟨(.int .i64), ⟨a16, x0.2.2.2.2.2.2.2.2.2.2.2.2.2.1.1.length, c17⟩, x0.2.2.2.2.2.2.2.2.2.2.2.2.2.1.1⟩, ⟨(.int .i64), ⟨a20, x0.2.2.2.2.2.2.2.2.2.2.2.2.2.2.1.length, c21⟩, x0.2.2.2.2.2.2.2.2.2.2.2.2.2.2.1⟩, ⟨(.int .i64), ⟨a24, x0.2.2.2.2.2.2.2.2.2.2.2.2.2.2.2.2.1.length, c25⟩, x0.2.2.2.2.2.2.2.2.2.2.2.2.2.2.2.2.1⟩, ⟨(.int .i64), ⟨a28, x1.1.length, c29⟩, x1.1⟩], fun z => [⟨(.pair (.sl (.int .i64)) (.int .i64)), ⟨z.2.1, z.1.length, z.2.2⟩, z.1⟩, ⟨(.int .i64), ⟨a34, y32.2.2.1.1.length, c35⟩, y32.2.2.1.1⟩, ⟨(.sl (.int .i64)), ⟨a36, y32.2.2.2.2.2.2.2.2.2.2.1.length, c37⟩, y32.2.2.2.2.2.2.2.2.2.2.1⟩, ⟨(.int .i64), ⟨a40, y32.2.2.2.2.2.2.2.2.2.2.2.2.2.1.1.length, c41⟩, y32.2.2.2.2.2.2.2.2.2.2.2.2.2.1.1⟩, ⟨(.int .i64), ⟨a42, y32.2.2.2.2.2.2.2.2.2.2.2.2.2.2.1.length, c43⟩, y32.2.2.2.2.2.2.2.2.2.2.2.2.2.2.1⟩, ⟨(.int .i64), ⟨a44, y32.2.2.2.2.2.2.2.2.2.2.2.2.2.2.2.2.1.length, c45⟩, y32.2.2.2.2.2.2.2.2.2.2.2.2.2.2.2.2.1⟩], fun z => 0⟩ ?_ ?_
    · refine JS.seq (JS.region (JO.reg ttOk 5 [] [] [(12, .v (.slice a28 x1.1.length c29)), (15, .v (.slice a4 x0.2.2.1.1.length c5))] _ rfl ⟨⟨rfl, rfl, trivial⟩, rfl⟩ ?_))
      obtain ⟨y46, hy47, h⟩ := bindO_some h
      refine JO.call rfl rfl rfl rfl (ok_i_sameInts x1.1 x0.2.2.1.1 a28 c29 x1.1.length rfl a4 c5 x0.2.2.1.1.length rfl _ hy47) rfl [6, 0] rfl rfl fun _ _ => JO.reg ttOk 11 [] [] [(27, .v (.bool (bif (!y46) then (!(bif (decide (x2 = 1)) then (decide (x0.2.2.2.2.2.2.2.2.2.1 = 1)) else false)) else false)))] _ rfl ⟨⟨rfl, trivial⟩, rfl⟩ (JO.done rfl ?_)
      refine JS.cond rfl (fun ht67 => ?_) (fun ht67 => ?_)
      · have h := condT h ht67
        refine JS.region (JO.reg ttOk 4 [] [] [(30, .v (.agg #[.slice a12 x0.2.2.2.2.2.2.2.2.2.2.2.1.length c13])), (32, .v (.agg #[.slice a4 x0.2.2.1.1.length c5, .int .i64 x0.2.2.1.2]))] _ rfl ⟨⟨rfl, rfl, trivial⟩, rfl⟩ ?_)
        obtain ⟨⟨y48, y49⟩, hy50, h⟩ := bindO_some h
        refine JO.call rfl rfl rfl rfl (ok_i_UndoPut x0.2.2.2.2.2.2.2.2.2.2.2.1 x0.2.2.1 a12 c13 x0.2.2.2.2.2.2.2.2.2.2.2.1.length rfl a4 c5 x0.2.2.1.1.length rfl _ hy50) rfl [2, 0] rfl rfl ?_
        rintro ⟨a51, c52⟩ -
        refine JO.regB ttOk 5 [] [] [] (.new 8 42 (cl42 x0 a4 c5 a8 c9 a12 c13 a16 c17 a20 c21 a24 c25) (.new 9 34 [.slice a28 x1.1.length c29, .int .i64 x1.2] (.new 10 42 (cl42 (false, 0, ([], 0), 0, 0, 0, 0, 0, 0, 0, [], [], 0, ([], 0), [], 0, ([], 0)) none 0 none 0 none 0 none 0 none 0 none 0) (.new 31 42 (cl42 (y32.1, y32.2.1, y32.2.2.1, y32.2.2.2.1, y32.2.2.2.2.1, y32.2.2.2.2.2.1, y32.2.2.2.2.2.2.1, y32.2.2.2.2.2.2.2.1, y32.2.2.2.2.2.2.2.2.1, y32.2.2.2.2.2.2.2.2.2.1, y32.2.2.2.2.2.2.2.2.2.2.1, y48, y32.2.2.2.2.2.2.2.2.2.2.2.2.1, y32.2.2.2.2.2.2.2.2.2.2.2.2.2.1, y32.2.2.2.2.2.2.2.2.2.2.2.2.2.2.1, y32.2.2.2.2.2.2.2.2.2.2.2.2.2.2.2.1, y32.2.2.2.2.2.2.2.2.2.2.2.2.2.2.2.2) a34 c35 a36 c37 a51 c52 a40 c41 a42 c43 a44 c45) .nil)))) rfl ⟨trivial, ⟨rfl, rfl, rfl, rfl, rfl, rfl, rfl, rfl, rfl, rfl, rfl, rfl, rfl, rfl, rfl, rfl, trivial⟩⟩ (JO.done rfl (JS.endJA (y48, a51, c52) h ⟨rfl, rfl, rfl, rfl, trivial⟩ ⟨rfl, rfl, rfl, rfl, rfl, rfl, rfl, rfl, rfl, rfl, rfl, rfl, rfl, rfl, rfl, rfl, trivial⟩ [0, 1, 2, 3, 4, 5, 6] rfl [0, 1, 2, 4, 5, 6] rfl rfl))
      have h := condF h ht67
      refine JS.skip (JS.endJA (y32.2.2.2.2.2.2.2.2.2.2.2.1, a38, c39) h ⟨rfl, rfl, rfl, rfl, trivial⟩ ⟨rfl, rfl, rfl, rfl, rfl, rfl, rfl, rfl, rfl, rfl, rfl, rfl, rfl, rfl, rfl, rfl, trivial⟩ [0, 1, 2, 3, 4, 5, 6] rfl [2, 0, 1, 3, 4, 5] rfl rfl)
    rintro ⟨x54, a55, c56⟩ h
    subst hj68
    refine JS.seq ?_
    obtain ⟨y59, hy60, h⟩ := bindO_some h
    obtain ⟨y63, hy64, h⟩ := bindO_some h
    refine JS.regionA rfl (.new 8 42 (cl42 x0 a4 c5 a8 c9 a12 c13 a16 c17 a20 c21 a24 c25) (.new 9 34 [.slice a28 x1.1.length c29, .int .i64 x1.2] .nil)) [] [5, 6] ⟨rfl, rfl, rfl, rfl, rfl, rfl, rfl, rfl, trivial⟩ rfl (fun be65 => ?_)
    refine JA.reg ttOk panic_cx true 4 [0, 2, 3] rfl (by kernel_rfl) [] [(37, .v (.agg #[.slice a28 x1.1.length c29, .int .i64 x1.2])), (39, .bp 8 1), (40, .v (.int .i64 x0.2.1))] ⟨rfl, rfl, rfl, rfl, rfl, rfl, rfl, rfl, trivial⟩ [] rfl rfl ⟨rfl, rfl, rfl, trivial⟩ (JA.one 1 (by kernel_rfl) (JK.call rfl rfl rfl rfl (ok_i_copyLine x1 a28 c29 x1.1.length rfl _ hy60) rfl [6] rfl rfl ?_))
    rintro ⟨a61, c62⟩ -
    refine JA.next ⟨rfl, rfl, rfl, rfl, rfl, rfl, rfl, rfl, trivial⟩ [] rfl (JA.one 4 (by kernel_rfl) (JK.call rfl rfl rfl rfl (ok_i_inCommand y59 x0.2.1 a61 c62 y59.1.length rfl _ hy64) rfl [7] rfl rfl fun _ _ => JA.next ⟨rfl, rfl, rfl, rfl, rfl, rfl, rfl, rfl, trivial⟩ [] rfl (JA.regL ttOk panic_cx 1 [5] rfl (by kernel_rfl) [] [(37, .v (.agg #[.slice a28 x1.1.length c29, .int .i64 x1.2])), (38, .v (.agg #[.slice a61 y59.1.length c62, .int .i64 y59.2])), (39, .bp 8 1), (40, .v (.int .i64 x0.2.1)), (41, .v (.agg #[.slice a61 y59.1.length c62, .int .i64 y63.2])), (42, .bp 31 2)] rfl ⟨rfl, rfl, rfl, rfl, rfl, rfl, trivial⟩ (JA.one 6 (by kernel_rfl) (JK.stBox ttOk rfl rfl rfl rfl rfl rfl rfl rfl (JK.boxes (B' := (.new 8 42 (cl42 x0 a4 c5 a8 c9 a12 c13 a16 c17 a20 c21 a24 c25) (.new 9 34 [.slice a28 x1.1.length c29, .int .i64 x1.2] (.new 10 42 (cl42 (false, 0, ([], 0), 0, 0, 0, 0, 0, 0, 0, [], [], 0, ([], 0), [], 0, ([], 0)) none 0 none 0 none 0 none 0 none 0 none 0) (.new 31 42 (cl42 (y32.1, y32.2.1, (y59.1, y63.2), y32.2.2.2.1, y32.2.2.2.2.1, y32.2.2.2.2.2.1, y32.2.2.2.2.2.2.1, y32.2.2.2.2.2.2.2.1, y32.2.2.2.2.2.2.2.2.1, y32.2.2.2.2.2.2.2.2.2.1, y32.2.2.2.2.2.2.2.2.2.2.1, x54, y32.2.2.2.2.2.2.2.2.2.2.2.2.1, y32.2.2.2.2.2.2.2.2.2.2.2.2.2.1, y32.2.2.2.2.2.2.2.2.2.2.2.2.2.2.1, y32.2.2.2.2.2.2.2.2.2.2.2.2.2.2.2.1, y32.2.2.2.2.2.2.2.2.2.2.2.2.2.2.2.2) a61 c62 a36 c37 a55 c56 a40 c41 a42 c43 a44 c45) .nil))))) ⟨rfl, rfl, rfl, rfl, rfl, rfl, rfl, rfl, rfl, rfl, rfl, rfl, rfl, rfl, rfl, rfl, trivial⟩ (JA.nextL rfl (JA.done (by kernel_rfl) (JS.boxes (B' := (.new 10 42 (cl42 (false, 0, ([], 0), 0, 0, 0, 0, 0, 0, 0, [], [], 0, ([], 0), [], 0, ([], 0)) none 0 none 0 none 0 none 0 none 0 none 0) (.new 31 42 (cl42 (y32.1, y32.2.1, (y59.1, y63.2), y32.2.2.2.1, y32.2.2.2.2.1, y32.2.2.2.2.2.1, y32.2.2.2.2.2.2.1, y32.2.2.2.2.2.2.2.1, y32.2.2.2.2.2.2.2.2.1, y32.2.2.2.2.2.2.2.2.2.1, y32.2.2.2.2.2.2.2.2.2.2.1, x54, y32.2.2.2.2.2.2.2.2.2.2.2.2.1, y32.2.2.2.2.2.2.2.2.2.2.2.2.2.1, y32.2.2.2.2.2.2.2.2.2.2.2.2.2.2.1, y32.2.2.2.2.2.2.2.2.2.2.2.2.2.2.2.1, y32.2.2.2.2.2.2.2.2.2.2.2.2.2.2.2.2) a61 c62 a36 c37 a55 c56 a40 c41 a42 c43 a44 c45) .nil))) ⟨rfl, rfl, rfl, rfl, rfl, rfl, rfl, rfl, trivial⟩ (JS.seq (JS.region (JO.regB ttOk 2 [] [] [] (.new 10 42 (cl42 (y32.1, y32.2.1, (y59.1, y63.2), y32.2.2.2.1, y32.2.2.2.2.1, y32.2.2.2.2.2.1, y32.2.2.2.2.2.2.1, y32.2.2.2.2.2.2.2.1, y32.2.2.2.2.2.2.2.2.1, y32.2.2.2.2.2.2.2.2.2.1, y32.2.2.2.2.2.2.2.2.2.2.1, x54, y32.2.2.2.2.2.2.2.2.2.2.2.2.1, y32.2.2.2.2.2.2.2.2.2.2.2.2.2.1, y32.2.2.2.2.2.2.2.2.2.2.2.2.2.2.1, y32.2.2.2.2.2.2.2.2.2.2.2.2.2.2.2.1, y32.2.2.2.2.2.2.2.2.2.2.2.2.2.2.2.2) a61 c62 a36 c37 a55 c56 a40 c41 a42 c43 a44 c45) .nil) rfl ⟨trivial, ⟨rfl, rfl, rfl, rfl, trivial⟩⟩ (JO.done rfl ?_)))))))))))))
    cases h
    exact JS.ret ttOk (a61, c62, a36, c37, a55, c56, a40, c41, a42, c43, a44, c45) trivial rfl rfl [0, 2, 0, 1, 1, 1] rfl

def M_i_typing (x0 : Bool × Int × (List Int × Int) × Int × Int × Int × Int × Int × Int × Int × List (List Int) × (List (List Int × Int)) × Int × (List Int × Int) × List Int × Int × List Int × Int) (x1 : Int) : Option (Bool × Int × (List Int × Int) × Int × Int × Int × Int × Int × Int × Int × List (List Int) × (List (List Int × Int)) × Int × (List Int × Int) × List Int × Int × List Int × Int) :=
  some (x0.1, 1, (x0.2.2.1.1, x1), x0.2.2.2.1, x0.2.2.2.2.1, x0.2.2.2.2.2.1, x0.2.2.2.2.2.2.1, x0.2.2.2.2.2.2.2.1, x0.2.2.2.2.2.2.2.2.1, x0.2.2.2.2.2.2.2.2.2.1, x0.2.2.2.2.2.2.2.2.2.2.1, x0.2.2.2.2.2.2.2.2.2.2.2.1, x0.2.2.2.2.2.2.2.2.2.2.2.2.1, x0.2.2.2.2.2.2.2.2.2.2.2.2.2.1, x0.2.2.2.2.2.2.2.2.2.2.2.2.2.2.1, x0.2.2.2.2.2.2.2.2.2.2.2.2.2.2.2.1, x0.2.2.2.2.2.2.2.2.2.2.2.2.2.2.2.2)

theorem ok_i_typing (x0 : Bool × Int × (List Int × Int) × Int × Int × Int × Int × Int × Int × Int × List (List Int) × (List (List Int × Int)) × Int × (List Int × Int) × List Int × Int × List Int × Int) (x1 : Int) (a3 : Option Addr) (c4 : Nat) (l5 : Nat) (hl6 : x0.2.2.1.1.length = l5) (a7 : Option Addr) (c8 : Nat) (l9 : Nat) (hl10 : x0.2.2.2.2.2.2.2.2.2.2.1.length = l9) (a11 : Option Addr) (c12 : Nat) (l13 : Nat) (hl14 : x0.2.2.2.2.2.2.2.2.2.2.2.1.length = l13) (a15 : Option Addr) (c16 : Nat) (l17 : Nat) (hl18 : x0.2.2.2.2.2.2.2.2.2.2.2.2.2.1.1.length = l17) (a19 : Option Addr) (c20 : Nat) (l21 : Nat) (hl22 : x0.2.2.2.2.2.2.2.2.2.2.2.2.2.2.1.length = l21) (a23 : Option Addr) (c24 : Nat) (l25 : Nat) (hl26 : x0.2.2.2.2.2.2.2.2.2.2.2.2.2.2.2.2.1.length = l25) (r : Bool × Int × (List Int × Int) × Int × Int × Int × Int × Int × Int × Int × List (List Int) × (List (List Int × Int)) × Int × (List Int × Int) × List Int × Int × List Int × Int) (h : M_i_typing x0 x1 = some r) :
    FC Tryz.prog 162 [.agg #[.bool x0.1, .int .i64 x0.2.1, .slice a3 l5 c4, .int .i64 x0.2.2.1.2, .int .i64 x0.2.2.2.1, .int .i64 x0.2.2.2.2.1, .int .i64 x0.2.2.2.2.2.1, .int .i64 x0.2.2.2.2.2.2.1, .int .i64 x0.2.2.2.2.2.2.2.1, .int .i64 x0.2.2.2.2.2.2.2.2.1, .int .i64 x0.2.2.2.2.2.2.2.2.2.1, .slice a7 l9 c8, .slice a11 l13 c12, .int .i64 x0.2.2.2.2.2.2.2.2.2.2.2.2.1, .slice a15 l17 c16, .int .i64 x0.2.2.2.2.2.2.2.2.2.2.2.2.2.1.2, .slice a19 l21 c20, .int .i64 x0.2.2.2.2.2.2.2.2.2.2.2.2.2.2.2.1, .slice a23 l25 c24, .int .i64 x0.2.2.2.2.2.2.2.2.2.2.2.2.2.2.2.2.2], .int .i64 x1] [⟨(.int .i64), ⟨a3, l5, c4⟩, x0.2.2.1.1⟩, ⟨(.sl (.int .i64)), ⟨a7, l9, c8⟩, x0.2.2.2.2.2.2.2.2.2.2.1⟩, ⟨(.pair (.sl (.int .i64)) (.int .i64)), ⟨a11, l13, c12⟩, x0.2.2.2.2.2.2.2.2.2.2.2.1⟩, ⟨(.int .i64), ⟨a15, l17, c16⟩, x0.2.2.2.2.2.2.2.2.2.2.2.2.2.1.1⟩, ⟨(.int .i64), ⟨a19, l21, c20⟩, x0.2.2.2.2.2.2.2.2.2.2.2.2.2.2.1⟩, ⟨(.int .i64), ⟨a23, l25, c24⟩, x0.2.2.2.2.2.2.2.2.2.2.2.2.2.2.2.2.1⟩] (fun _ : Unit => True) (fun _ => .agg #[.bool r.1, .int .i64 r.2.1, .slice a3 l5 c4, .int .i64 r.2.2.1.2, .int .i64 r.2.2.2.1, .int .i64 r.2.2.2.2.1, .int .i64 r.2.2.2.2.2.1, .int .i64 r.2.2.2.2.2.2.1, .int .i64 r.2.2.2.2.2.2.2.1, .int .i64 r.2.2.2.2.2.2.2.2.1, .int .i64 r.2.2.2.2.2.2.2.2.2.1, .slice a7 l9 c8, .slice a11 l13 c12, .int .i64 r.2.2.2.2.2.2.2.2.2.2.2.2.1, .slice a15 l17 c16, .int .i64 r.2.2.2.2.2.2.2.2.2.2.2.2.2.1.2, .slice a19 l21 c20, .int .i64 r.2.2.2.2.2.2.2.2.2.2.2.2.2.2.2.1, .slice a23 l25 c24, .int .i64 r.2.2.2.2.2.2.2.2.2.2.2.2.2.2.2.2.2]) (fun _ => []) :=
  by
    subst hl6
    subst hl10
    subst hl14
    subst hl18
    subst hl22
    subst hl26
    refine FC.of (T := TTx) Tryz.call162 Tryz.func162 rfl rfl fun w0 => ?_
    unfold M_i_typing at h
    refine JS.seq (JS.region (JO.regB ttOk 2 [] [7, 8] [(2, .bp 7 0), (4, .bp 8 0)] (.new 7 42 (cl42 x0 a3 c4 a7 c8 a11 c12 a15 c16 a19 c20 a23 c24) (.new 8 42 (cl42 (false, 0, ([], 0), 0, 0, 0, 0, 0, 0, 0, [], [], 0, ([], 0), [], 0, ([], 0)) none 0 none 0 none 0 none 0 none 0 none 0) .nil)) rfl ⟨⟨rfl, rfl, trivial⟩, ⟨rfl, rfl, rfl, rfl, rfl, rfl, rfl, rfl, trivial⟩⟩ (JO.done rfl (JS.seq (JS.region (JO.regB ttOk 2 [] [] [] (.new 7 42 (cl42 (x0.1, 1, x0.2.2.1, x0.2.2.2.1, x0.2.2.2.2.1, x0.2.2.2.2.2.1, x0.2.2.2.2.2.2.1, x0.2.2.2.2.2.2.2.1, x0.2.2.2.2.2.2.2.2.1, x0.2.2.2.2.2.2.2.2.2.1, x0.2.2.2.2.2.2.2.2.2.2.1, x0.2.2.2.2.2.2.2.2.2.2.2.1, x0.2.2.2.2.2.2.2.2.2.2.2.2.1, x0.2.2.2.2.2.2.2.2.2.2.2.2.2.1, x0.2.2.2.2.2.2.2.2.2.2.2.2.2.2.1, x0.2.2.2.2.2.2.2.2.2.2.2.2.2.2.2.1, x0.2.2.2.2.2.2.2.2.2.2.2.2.2.2.2.2) a3 c4 a7 c8 a11 c12 a15 c16 a19 c20 a23 c24) (.new 8 42 (cl42 (false, 0, ([], 0), 0, 0, 0, 0, 0, 0, 0, [], [], 0, ([], 0), [], 0, ([], 0)) none 0 none 0 none 0 none 0 none 0 none 0) .nil)) rfl ⟨trivial, ⟨rfl, rfl, rfl, rfl, rfl, rfl, rfl, rfl, trivial⟩⟩ (JO.done rfl (JS.seq (JS.region (JO.regB ttOk 4 [] [] [] (.new 7 42 (cl42 (x0.1, 1, (x0.2.2.1.1, x1), x0.2.2.2.1, x0.2.2.2.2.1, x0.2.2.2.2.2.1, x0.2.2.2.2.2.2.1, x0.2.2.2.2.2.2.2.1, x0.2.2.2.2.2.2.2.2.1, x0.2.2.2.2.2.2.2.2.2.1, x0.2.2.2.2.2.2.2.2.2.2.1, x0.2.2.2.2.2.2.2.2.2.2.2.1, x0.2.2.2.2.2.2.2.2.2.2.2.2.1, x0.2.2.2.2.2.2.2.2.2.2.2.2.2.1, x0.2.2.2.2.2.2.2.2.2.2.2.2.2.2.1, x0.2.2.2.2.2.2.2.2.2.2.2.2.2.2.2.1, x0.2.2.2.2.2.2.2.2.2.2.2.2.2.2.2.2) a3 c4 a7 c8 a11 c12 a15 c16 a19 c20 a23 c24) (.new 8 42 (cl42 (false, 0, ([], 0), 0, 0, 0, 0, 0, 0, 0, [], [], 0, ([], 0), [], 0, ([], 0)) none 0 none 0 none 0 none 0 none 0 none 0) .nil)) rfl ⟨trivial, ⟨rfl, rfl, rfl, rfl, rfl, rfl, rfl, rfl, trivial⟩⟩ (JO.done rfl (JS.seq (JS.region (JO.regB ttOk 2 [] [] [] (.new 8 42 (cl42 (x0.1, 1, (x0.2.2.1.1, x1), x0.2.2.2.1, x0.2.2.2.2.1, x0.2.2.2.2.2.1, x0.2.2.2.2.2.2.1, x0.2.2.2.2.2.2.2.1, x0.2.2.2.2.2.2.2.2.1, x0.2.2.2.2.2.2.2.2.2.1, x0.2.2.2.2.2.2.2.2.2.2.1, x0.2.2.2.2.2.2.2.2.2.2.2.1, x0.2.2.2.2.2.2.2.2.2.2.2.2.1, x0.2.2.2.2.2.2.2.2.2.2.2.2.2.1, x0.2.2.2.2.2.2.2.2.2.2.2.2.2.2.1, x0.2.2.2.2.2.2.2.2.2.2.2.2.2.2.2.1, x0.2.2.2.2.2.2.2.2.2.2.2.2.2.2.2.2) a3 c4 a7 c8 a11 c12 a15 c16 a19 c20 a23 c24) .nil) rfl ⟨trivial, ⟨rfl, rfl, rfl, rfl, trivial⟩⟩ (JO.done rfl ?_)))))))))))))))
    cases h
    exact JS.ret ttOk () trivial rfl rfl [] rfl

def M_i_LineCut (x0 : List Int × Int) (x1 : Int) (x2 : Int) : Option ((List Int × Int) × List Int × Bool) :=
  (bindO (M_i_inLine x0 x1 x2) fun (y8 : Bool) =>
  (bif (!y8) then
  some (([], 0), [], false)
  else
  (joinO (fun (x32 : List Int) =>
  (joinO (fun (x41 : Int) =>
  (guardO (0 ≤ x1 ∧ x1 ≤ x2 ∧ x2 ≤ (x0.1.length : Int)) <|
  (bindO (M_i_copyInts (sub' x0.1 x1 x2)) fun (y50 : List Int) =>
  some ((x32, x41), y50, true)))) fun j42 =>
  (bif (decide (x2 ≤ x0.2)) then
  j42 (W (x0.2 - (W (x2 - x1))))
  else
  (bif (decide (x1 < x0.2)) then
  j42 x1
  else
  j42 x0.2)))) fun j35 =>
  (guardO (0 ≤ (0 : Int) ∧ (0 : Int) ≤ x1 ∧ x1 ≤ (x0.1.length : Int)) <|
  (bindO (M_i_copyInts (sub' x0.1 (0 : Int) x1)) fun (y15 : List Int) =>
  (guardO (0 ≤ x2 ∧ x2 ≤ (x0.1.length : Int) ∧ (x0.1.length : Int) ≤ (x0.1.length : Int)) <|
  (guardO (y15.length + (sub' x0.1 x2 (x0.1.length : Int)).length ≤ 536870912) <|
  j35 (y15 ++ (sub' x0.1 x2 (x0.1.length : Int))))))))))

theorem ok_i_LineCut (x0 : List Int × Int) (x1 : Int) (x2 : Int) (a4 : Option Addr) (c5 : Nat) (l6 : Nat) (hl7 : x0.1.length = l6) (r : (List Int × Int) × List Int × Bool) (h : M_i_LineCut x0 x1 x2 = some r) :
    FC Tryz.prog 165 [.agg #[.slice a4 l6 c5, .int .i64 x0.2], .int .i64 x1, .int .i64 x2] [⟨(.int .i64), ⟨a4, l6, c5⟩, x0.1⟩] (fun _ : Option Addr × Nat × Option Addr × Nat => True) (fun q => .tuple #[.agg #[.slice q.1 r.1.1.length q.2.1, .int .i64 r.1.2], .slice q.2.2.1 r.2.1.length q.2.2.2, .bool r.2.2]) (fun q => [⟨(.int .i64), ⟨q.1, r.1.1.length, q.2.1⟩, r.1.1⟩, ⟨(.int .i64), ⟨q.2.2.1, r.2.1.length, q.2.2.2⟩, r.2.1⟩]) :=
  by
    subst hl7
    refine FC.of (T := TTx) Tryz.call165 Tryz.func165 rfl rfl fun w0 => ?_
    unfold M_i_LineCut at h
    refine JS.seq (JS.region (JO.regB ttOk 4 [] [2, 3] [(3, .bp 2 0), (6, .bp 3 0)] (.new 2 34 [.slice a4 x0.1.length c5, .int .i64 x0.2] (.new 3 34 [.slice none 0 0, .int .i64 0] .nil)) rfl ⟨⟨rfl, rfl, trivial⟩, ⟨rfl, rfl, rfl, rfl, rfl, rfl, rfl, rfl, trivial⟩⟩ (JO.done rfl (JS.seq (JS.seq (JS.region (JO.reg ttOk 3 [] [] [(10, .v (.agg #[.slice a4 x0.1.length c5, .int .i64 x0.2])), (11, .v (.int .i64 x1)), (12, .v (.int .i64 x2))] _ rfl ⟨⟨rfl, rfl, rfl, trivial⟩, rfl⟩ ?_)))))))
    obtain ⟨y8, hy9, h⟩ := bindO_some h
    refine JO.call rfl rfl rfl rfl (ok_i_inLine x0 x1 x2 a4 c5 x0.1.length rfl _ hy9) rfl [0] rfl rfl fun _ _ => JO.reg ttOk 1 [] [] [(14, .v (.bool (!y8)))] _ rfl ⟨⟨rfl, trivial⟩, rfl⟩ (JO.done rfl ?_)
    refine JS.cond rfl (fun ht73 => ?_) (fun ht73 => ?_)
    · have h := condT h ht73
      refine JS.seq (JS.region (JO.regB ttOk 4 [] [] [(7, .v (.slice none 0 0)), (8, .v (.bool false))] (.new 3 34 [.slice none 0 0, .int .i64 0] .nil) rfl ⟨⟨rfl, rfl, trivial⟩, ⟨rfl, rfl, rfl, rfl, trivial⟩⟩ (JO.done rfl ?_)))
      cases h
      refine JS.nilO (.int .i64) Sl.nil rfl rfl (JS.nilO (.int .i64) Sl.nil rfl rfl (JS.ret ttOk (none, 0, none, 0) trivial rfl rfl [1, 0] rfl))
    have h := condF h ht73
    refine JS.skip (JS.seq ?_)
    obtain ⟨j35, hj72, h⟩ := joinO_some h
    refine JS.cutJ (ι := List Int × Option Addr × Nat) ⟨fun z => j35 z.1 = some r, fun z => [(1, .v (.int .i64 x1)), (2, .v (.int .i64 x2)), (3, .bp 2 0), (6, .bp 3 0), (9, .bp 25 0)], fun z => (.new 2 34 [.slice a4 x0.1.length c5, .int .i64 x0.2] (.new 3 34 [.slice none 0 0, .int .i64 0] (.new 25 34 [.slice z.2.1 z.1.length z.2.2, .int .i64 x0.2] .nil))), fun z => [⟨(.int .i64), ⟨a4, x0.1.length, c5⟩, x0.1⟩], fun z => [⟨(.int .i64), ⟨z.2.1, z.1.length, z.2.2⟩, z.1⟩], fun z => 0⟩ ?_ ?_
    · obtain ⟨g10, h⟩ := guardO_some h
      obtain ⟨y15, hy16, h⟩ := bindO_some h
      obtain ⟨g19, h⟩ := guardO_some h
      obtain ⟨g23, h⟩ := guardO_some h
      refine JS.subR 0 rfl (0 : Int) x1 fun a11 c12 hu13 => JS.subR 1 rfl x2 (x0.1.length : Int) fun a20 c21 hu22 => JS.know 2 rfl fun hs65 => ?_
      refine JS.regionA rfl (.new 2 34 [.slice a4 x0.1.length c5, .int .i64 x0.2] .nil) [] [14] ⟨rfl, rfl, rfl, rfl, trivial⟩ rfl (fun be28 => ?_)
      refine JA.reg ttOk panic_cx true 7 [0, 1, 2, 5, 6, 7, 10, 11] rfl (by kernel_rfl) [] [(16, .bp 2 0), (17, .v (.slice a4 x0.1.length c5)), (18, .v (.int .i64 x1)), (21, .bp 2 0), (22, .v (.slice a4 x0.1.length c5)), (23, .v (.int .i64 x2)), (26, .bp 2 1), (27, .v (.int .i64 x0.2))] ⟨rfl, rfl, rfl, rfl, trivial⟩ [] rfl rfl ⟨rfl, rfl, rfl, rfl, rfl, rfl, rfl, rfl, trivial⟩ (JA.sliceP ttOk panic_cx 3 rfl (by kernel_rfl) rfl rfl rfl rfl rfl rfl (0 : Int) x1 rfl rfl ⟨g10.1, g10.2.1, g10.2.2, hs65.cap, hu13 g10⟩ rfl (JA.sliceP ttOk panic_cx 8 rfl (by kernel_rfl) rfl rfl rfl rfl rfl rfl x2 (x0.1.length : Int) rfl rfl ⟨g19.1, g19.2.1, g19.2.2, hs65.cap, hu22 g19⟩ rfl ?_))
      refine JA.all (rs := [4, 13]) (by kernel_rfl) rfl (List.forall_mem_cons.2 ⟨?_, List.forall_mem_cons.2 ⟨?_, (fun _ hx => absurd hx List.not_mem_nil)⟩⟩)
      · refine JK.call rfl rfl rfl rfl (ok_i_copyInts (sub' x0.1 (0 : Int) x1) a11 c12 ((sub' x0.1 (0 : Int) x1).length) rfl _ hy16) rfl [1] rfl rfl ?_
        rintro ⟨a17, c18⟩ -
        refine JA.next ⟨rfl, rfl, rfl, rfl, trivial⟩ [] rfl ?_
        refine JA.all (rs := [9, 13]) (by kernel_rfl) rfl (List.forall_mem_cons.2 ⟨?_, List.forall_mem_cons.2 ⟨?_, (fun _ hx => absurd hx List.not_mem_nil)⟩⟩)
        · refine JK.appendR' ttOk rfl rfl rfl rfl ⟨rfl, rfl, rfl, rfl, trivial, rfl, rfl, rfl, rfl⟩ rfl rfl rfl [0] rfl 0 rfl g23 rfl fun a24 c25 => JA.next ⟨rfl, rfl, rfl, rfl, trivial⟩ [] rfl (JA.reg ttOk panic_cx true 2 [12] rfl (by kernel_rfl) [] [(16, .bp 2 0), (17, .v (.slice a4 x0.1.length c5)), (18, .v (.int .i64 x1)), (19, .v (.slice a11 (sub' x0.1 (0 : Int) x1).length c12)), (20, .v (.slice a17 y15.length c18)), (21, .bp 2 0), (22, .v (.slice a4 x0.1.length c5)), (23, .v (.int .i64 x2)), (24, .v (.slice a20 (sub' x0.1 x2 (x0.1.length : Int)).length c21)), (25, .v (.slice a24 (y15 ++ (sub' x0.1 x2 (x0.1.length : Int))).length c25)), (26, .bp 2 1), (27, .v (.int .i64 x0.2)), (28, .v (.agg #[.slice a24 (y15 ++ (sub' x0.1 x2 (x0.1.length : Int))).length c25, .int .i64 x0.2]))] ⟨rfl, rfl, rfl, rfl, trivial⟩ [] rfl rfl ⟨rfl, rfl, rfl, rfl, rfl, rfl, rfl, rfl, rfl, rfl, rfl, rfl, rfl, trivial⟩ (JA.one 13 (by kernel_rfl) (JK.alloc ttOk rfl rfl rfl rfl rfl 25 rfl (sd_upd _ rfl) (JA.next ⟨rfl, rfl, rfl, rfl, trivial⟩ [] rfl (JA.one 14 (by kernel_rfl) (JK.stBox ttOk rfl rfl rfl rfl rfl rfl rfl rfl (JK.boxes (B' := (.new 2 34 [.slice a4 x0.1.length c5, .int .i64 x0.2] (.new 3 34 [.slice none 0 0, .int .i64 0] (.new 25 34 [.slice a24 (y15 ++ (sub' x0.1 x2 (x0.1.length : Int))).length c25, .int .i64 x0.2] .nil)))) ⟨rfl, rfl, rfl, rfl, rfl, rfl, rfl, rfl, rfl, rfl, rfl, rfl, trivial⟩ (JA.nextL rfl (JA.done (by kernel_rfl) (JS.boxes (B' := (.new 2 34 [.slice a4 x0.1.length c5, .int .i64 x0.2] (.new 3 34 [.slice none 0 0, .int .i64 0] (.new 25 34 [.slice a24 (y15 ++ (sub' x0.1 x2 (x0.1.length : Int))).length c25, .int .i64 x0.2] .nil)))) ⟨rfl, rfl, rfl, rfl, rfl, rfl, rfl, rfl, rfl, rfl, rfl, rfl, trivial⟩ (JS.endJ ((y15 ++ (sub' x0.1 x2 (x0.1.length : Int))), a24, c25) h ⟨rfl, rfl, rfl, rfl, rfl, trivial⟩ ⟨rfl, rfl, rfl, rfl, rfl, rfl, rfl, rfl, rfl, rfl, rfl, rfl, trivial⟩ [2] rfl [0] rfl)))))))))))
        refine JK.alloc ttOk rfl rfl rfl rfl rfl 25 rfl (sd_upd _ rfl) (JA.next ⟨rfl, rfl, rfl, rfl, trivial⟩ [] rfl (JA.one 9 (by kernel_rfl) (JK.appendR' ttOk rfl rfl rfl rfl ⟨rfl, rfl, rfl, rfl, trivial, rfl, rfl, rfl, rfl⟩ rfl rfl rfl [0] rfl 0 rfl g23 rfl fun a24 c25 => JA.next ⟨rfl, rfl, rfl, rfl, trivial⟩ [] rfl (JA.reg ttOk panic_cx true 1 [12] rfl (by kernel_rfl) [] [(9, .bp 25 0), (16, .bp 2 0), (17, .v (.slice a4 x0.1.length c5)), (18, .v (.int .i64 x1)), (19, .v (.slice a11 (sub' x0.1 (0 : Int) x1).length c12)), (20, .v (.slice a17 y15.length c18)), (21, .bp 2 0), (22, .v (.slice a4 x0.1.length c5)), (23, .v (.int .i64 x2)), (24, .v (.slice a20 (sub' x0.1 x2 (x0.1.length : Int)).length c21)), (25, .v (.slice a24 (y15 ++ (sub' x0.1 x2 (x0.1.length : Int))).length c25)), (26, .bp 2 1), (27, .v (.int .i64 x0.2)), (28, .v (.agg #[.slice a24 (y15 ++ (sub' x0.1 x2 (x0.1.length : Int))).length c25, .int .i64 x0.2]))] ⟨rfl, rfl, rfl, rfl, trivial⟩ [] rfl rfl ⟨rfl, rfl, rfl, rfl, rfl, rfl, rfl, rfl, rfl, rfl, rfl, rfl, rfl, rfl, trivial⟩ (JA.one 14 (by kernel_rfl) (JK.stBox ttOk rfl rfl rfl rfl rfl rfl rfl rfl (JK.boxes (B' := (.new 2 34 [.slice a4 x0.1.length c5, .int .i64 x0.2] (.new 3 34 [.slice none 0 0, .int .i64 0] (.new 25 34 [.slice a24 (y15 ++ (sub' x0.1 x2 (x0.1.length : Int))).length c25, .int .i64 x0.2] .nil)))) ⟨rfl, rfl, rfl, rfl, rfl, rfl, rfl, rfl, rfl, rfl, rfl, rfl, trivial⟩ (JA.nextL rfl (JA.done (by kernel_rfl) (JS.boxes (B' := (.new 2 34 [.slice a4 x0.1.length c5, .int .i64 x0.2] (.new 3 34 [.slice none 0 0, .int .i64 0] (.new 25 34 [.slice a24 (y15 ++ (sub' x0.1 x2 (x0.1.length : Int))).length c25, .int .i64 x0.2] .nil)))) ⟨rfl, rfl, rfl, rfl, rfl, rfl, rfl, rfl, rfl, rfl, rfl, rfl, trivial⟩ (JS.endJ ((y15 ++ (sub' x0.1 x2 (x0.1.length : Int))), a24, c25) h ⟨rfl, rfl, rfl, rfl, rfl, trivial⟩ ⟨rfl, rfl, rfl, rfl, rfl, rfl, rfl, rfl, rfl, rfl, rfl, rfl, trivial⟩ [2] rfl [0] rfl)))))))))))
      refine JK.alloc ttOk rfl rfl rfl rfl rfl 25 rfl (sd_upd _ rfl) (JA.next ⟨rfl, rfl, rfl, rfl, trivial⟩ [] rfl (JA.one 4 (by kernel_rfl) (JK.call rfl rfl rfl rfl (ok_i_copyInts (sub' x0.1 (0 : Int) x1) a11 c12 ((sub' x0.1 (0 : Int) x1).length) rfl _ hy16) rfl [1] rfl rfl ?_)))
      rintro ⟨a17, c18⟩ -
      refine JA.next ⟨rfl, rfl, rfl, rfl, trivial⟩ [] rfl (JA.one 9 (by kernel_rfl) (JK.appendR' ttOk rfl rfl rfl rfl ⟨rfl, rfl, rfl, rfl, trivial, rfl, rfl, rfl, rfl⟩ rfl rfl rfl [0] rfl 0 rfl g23 rfl fun a24 c25 => JA.next ⟨rfl, rfl, rfl, rfl, trivial⟩ [] rfl (JA.reg ttOk panic_cx true 1 [12] rfl (by kernel_rfl) [] [(9, .bp 25 0), (16, .bp 2 0), (17, .v (.slice a4 x0.1.length c5)), (18, .v (.int .i64 x1)), (19, .v (.slice a11 (sub' x0.1 (0 : Int) x1).length c12)), (20, .v (.slice a17 y15.length c18)), (21, .bp 2 0), (22, .v (.slice a4 x0.1.length c5)), (23, .v (.int .i64 x2)), (24, .v (.slice a20 (sub' x0.1 x2 (x0.1.length : Int)).length c21)), (25, .v (.slice a24 (y15 ++ (sub' x0.1 x2 (x0.1.length : Int))).length c25)), (26, .bp 2 1), (27, .v (.int .i64 x0.2)), (28, .v (.agg #[.slice a24 (y15 ++ (sub' x0.1 x2 (x0.1.length : Int))).length c25, .int .i64 x0.2]))] ⟨rfl, rfl, rfl, rfl, trivial⟩ [] rfl rfl ⟨rfl, rfl, rfl, rfl, rfl, rfl, rfl, rfl, rfl, rfl, rfl, rfl, rfl, rfl, trivial⟩ (JA.one 14 (by kernel_rfl) (JK.stBox ttOk rfl rfl rfl rfl rfl rfl rfl rfl (JK.boxes (B' := (.new 2 34 [.slice a4 x0.1.length c5, .int .i64 x0.2] (.new 3 34 [.slice none 0 0, .int .i64 0] (.new 25 34 [.slice a24 (y15 ++ (sub' x0.1 x2 (x0.1.length : Int))).length c25, .int .i64 x0.2] .nil)))) ⟨rfl, rfl, rfl, rfl, rfl, rfl, rfl, rfl, rfl, rfl, rfl, rfl, trivial⟩ (JA.nextL rfl (JA.done (by kernel_rfl) (JS.boxes (B' := (.new 2 34 [.slice a4 x0.1.length c5, .int .i64 x0.2] (.new 3 34 [.slice none 0 0, .int .i64 0] (.new 25 34 [.slice a24 (y15 ++ (sub' x0.1 x2 (x0.1.length : Int))).length c25, .int .i64 x0.2] .nil)))) ⟨rfl, rfl, rfl, rfl, rfl, rfl, rfl, rfl, rfl, rfl, rfl, rfl, trivial⟩ (JS.endJ ((y15 ++ (sub' x0.1 x2 (x0.1.length : Int))), a24, c25) h ⟨rfl, rfl, rfl, rfl, rfl, trivial⟩ ⟨rfl, rfl, rfl, rfl, rfl, rfl, rfl, rfl, rfl, rfl, rfl, rfl, trivial⟩ [2] rfl [0] rfl))))))))))
    rintro ⟨x32, a33, c34⟩ h
    subst hj72
    refine JS.seq ?_
    obtain ⟨j42, hj71, h⟩ := joinO_some h
    refine JS.blockJ (ι := Int) ⟨fun z => j42 z = some r, fun z => [(1, .v (.int .i64 x1)), (2, .v (.int .i64 x2)), (3, .bp 2 0), (6, .bp 3 0), (9, .bp 25 0)], fun z => (.new 2 34 [.slice a4 x0.1.length c5, .int .i64 x0.2] (.new 3 34 [.slice none 0 0, .int .i64 0] (.new 25 34 [.slice a33 x32.length c34, .int .i64 z] .nil))), fun z => [⟨(.int .i64), ⟨a4, x0.1.length, c5⟩, x0.1⟩], fun z => [⟨(.int .i64), ⟨a33, x32.length, c34⟩, x32⟩], fun z => 0⟩ ?_ ?_
    · refine JS.seq (JS.region (JO.reg ttOk 5 [] [] [(29, .v (.bool (decide (x2 ≤ x0.2))))] _ rfl ⟨⟨rfl, trivial⟩, rfl⟩ (JO.done rfl ?_)))
      refine JS.cond rfl (fun ht67 => ?_) (fun ht67 => ?_)
      · have h := condT h ht67
        refine JS.region (JO.regB ttOk 8 [(W (x2 - x1)), (W (x0.2 - (W (x2 - x1))))] [] [] (.new 2 34 [.slice a4 x0.1.length c5, .int .i64 x0.2] (.new 3 34 [.slice none 0 0, .int .i64 0] (.new 25 34 [.slice a33 x32.length c34, .int .i64 (W (x0.2 - (W (x2 - x1))))] .nil))) rfl ⟨⟨trivial, rfl⟩, ⟨trivial, rfl⟩, trivial, ⟨rfl, rfl, rfl, rfl, rfl, rfl, rfl, rfl, rfl, rfl, rfl, rfl, trivial⟩⟩ (JO.done rfl (JS.endB (JS.endJ (W (x0.2 - (W (x2 - x1)))) h ⟨rfl, rfl, rfl, rfl, rfl, trivial⟩ ⟨rfl, rfl, rfl, rfl, rfl, rfl, rfl, rfl, rfl, rfl, rfl, rfl, trivial⟩ [0] rfl [0] rfl))))
      have h := condF h ht67
      refine JS.seq (JS.region (JO.reg ttOk 5 [] [] [(41, .v (.bool (decide (x1 < x0.2))))] _ rfl ⟨⟨rfl, trivial⟩, rfl⟩ (JO.done rfl ?_)))
      refine JS.cond rfl (fun ht66 => ?_) (fun ht66 => ?_)
      · have h := condT h ht66
        refine JS.region (JO.regB ttOk 3 [] [] [] (.new 2 34 [.slice a4 x0.1.length c5, .int .i64 x0.2] (.new 3 34 [.slice none 0 0, .int .i64 0] (.new 25 34 [.slice a33 x32.length c34, .int .i64 x1] .nil))) rfl ⟨trivial, ⟨rfl, rfl, rfl, rfl, rfl, rfl, rfl, rfl, rfl, rfl, rfl, rfl, trivial⟩⟩ (JO.done rfl (JS.endB (JS.endJ x1 h ⟨rfl, rfl, rfl, rfl, rfl, trivial⟩ ⟨rfl, rfl, rfl, rfl, rfl, rfl, rfl, rfl, rfl, rfl, rfl, rfl, trivial⟩ [0] rfl [0] rfl))))
      have h := condF h ht66
      refine JS.skip (JS.endB (JS.endJ x0.2 h ⟨rfl, rfl, rfl, rfl, rfl, trivial⟩ ⟨rfl, rfl, rfl, rfl, rfl, rfl, rfl, rfl, rfl, rfl, rfl, rfl, trivial⟩ [0] rfl [0] rfl))
    rintro x41 h
    subst hj71
    refine JS.seq ?_
    obtain ⟨g45, h⟩ := guardO_some h
    obtain ⟨y50, hy51, h⟩ := bindO_some h
    refine JS.subR 0 rfl x1 x2 fun a46 c47 hu48 => JS.know 1 rfl fun hs70 => ?_
    refine JS.regionA rfl (.new 2 34 [.slice a4 x0.1.length c5, .int .i64 x0.2] (.new 25 34 [.slice a33 x32.length c34, .int .i64 x41] .nil)) [] [8, 9] ⟨rfl, rfl, rfl, rfl, rfl, rfl, rfl, rfl, trivial⟩ rfl (fun be56 => ?_)
    refine JA.reg ttOk panic_cx true 5 [0, 1, 2, 3, 4] rfl (by kernel_rfl) [] [(48, .v (.agg #[.slice a33 x32.length c34, .int .i64 x41])), (49, .bp 2 0), (50, .v (.slice a4 x0.1.length c5)), (51, .v (.int .i64 x1)), (52, .v (.int .i64 x2))] ⟨rfl, rfl, rfl, rfl, rfl, rfl, rfl, rfl, trivial⟩ [] rfl rfl ⟨rfl, rfl, rfl, rfl, rfl, trivial⟩ (JA.sliceP ttOk panic_cx 5 rfl (by kernel_rfl) rfl rfl rfl rfl rfl rfl x1 x2 rfl rfl ⟨g45.1, g45.2.1, g45.2.2, hs70.cap, hu48 g45⟩ rfl (JA.one 6 (by kernel_rfl) (JK.call rfl rfl rfl rfl (ok_i_copyInts (sub' x0.1 x1 x2) a46 c47 ((sub' x0.1 x1 x2).length) rfl _ hy51) rfl [0] rfl rfl ?_)))
    rintro ⟨a52, c53⟩ -
    refine JA.next ⟨rfl, rfl, rfl, rfl, rfl, rfl, rfl, rfl, trivial⟩ [] rfl (JA.one 7 (by kernel_rfl) (JK.stBox ttOk rfl rfl rfl rfl rfl rfl rfl rfl (JK.boxes (B' := (.new 2 34 [.slice a4 x0.1.length c5, .int .i64 x0.2] (.new 3 34 [.slice a33 x32.length c34, .int .i64 x41] (.new 25 34 [.slice a33 x32.length c34, .int .i64 x41] .nil)))) ⟨rfl, rfl, rfl, rfl, rfl, rfl, rfl, rfl, rfl, rfl, rfl, rfl, trivial⟩ (JA.next ⟨rfl, rfl, rfl, rfl, rfl, rfl, rfl, rfl, trivial⟩ [] rfl (JA.regL ttOk panic_cx 0 [8, 9] rfl (by kernel_rfl) [] [(7, .v (.slice a52 y50.length c53)), (8, .v (.bool true)), (48, .v (.agg #[.slice a33 x32.length c34, .int .i64 x41])), (49, .bp 2 0), (50, .v (.slice a4 x0.1.length c5)), (51, .v (.int .i64 x1)), (52, .v (.int .i64 x2)), (53, .v (.slice a46 (sub' x0.1 x1 x2).length c47)), (54, .v (.slice a52 y50.length c53))] rfl ⟨rfl, rfl, rfl, rfl, rfl, rfl, rfl, rfl, rfl, trivial⟩ (JA.done (by kernel_rfl) (JS.boxes (B' := (.new 3 34 [.slice a33 x32.length c34, .int .i64 x41] .nil)) ⟨rfl, rfl, rfl, rfl, trivial⟩ ?_)))))))
    cases h
    exact JS.ret ttOk (a33, c34, a52, c53) trivial rfl rfl [1, 0] rfl

def M_i_RingPut (x0 : List (List Int)) (x1 : List Int) (x2 : Int) : Option (List (List Int) × Bool) :=
  (bindO (M_i_RingOk x0) fun (y12 : Bool) =>
  (callO ((!y12) = false) (M_i_in x2 0 2) false fun (y14 : Bool) =>
  (callO ((bif (!y12) then true else (!y14)) = false) (M_i_areAdmissible x1) false fun (y17 : Bool) =>
  (bif (bif (bif (!y12) then true else (!y14)) then true else (!y17)) then
  some ([], false)
  else
  (bindO (M_i_copyRing x0) fun (y20 : List (List Int)) =>
  (joinO (fun (x73 : List (List Int)) =>
  some (x73, true)) fun j76 =>
  (bif (decide ((x1.length : Int) = 0)) then
  j76 y20
  else
  (guardO (((bif (decide (x2 = 0)) then true else (decide ((y20.length : Int) = 0))) = false) → 0 ≤ (0 : Int) ∧ 0 < (y20.length : Int)) <|
  (bif (bif (bif (decide (x2 = 0)) then true else (decide ((y20.length : Int) = 0))) then true else (decide (400 < (W (((at' y20 0).length : Int) + (x1.length : Int)))))) then
  (bindO (M_i_copyInts x1) fun (y34 : List Int) =>
  (guardO (([y34] : List (List Int)).length + y20.length ≤ 536870912) <|
  (guardO (0 ≤ (0 : Int) ∧ (0 : Int) ≤ (min ((([y34] : List (List Int)) ++ y20).length : Int) 6) ∧ (min ((([y34] : List (List Int)) ++ y20).length : Int) 6) ≤ ((([y34] : List (List Int)) ++ y20).length : Int)) <|
  j76 (sub' (([y34] : List (List Int)) ++ y20) 0 (min ((([y34] : List (List Int)) ++ y20).length : Int) 6)))))
  else
  (bif (decide (x2 = 1)) then
  (guardO (0 ≤ (0 : Int) ∧ 0 < (y20.length : Int)) <|
  (guardO ((at' y20 0).length + x1.length ≤ 536870912) <|
  (guardO (0 ≤ (0 : Int) ∧ 0 < (y20.length : Int)) <|
  j76 (List.set y20 (Int.toNat 0) ((at' y20 0) ++ x1)))))
  else
  (bindO (M_i_copyInts x1) fun (y56 : List Int) =>
  (guardO (0 ≤ (0 : Int) ∧ 0 < (y20.length : Int)) <|
  (guardO (y56.length + (at' y20 0).length ≤ 536870912) <|
  (guardO (0 ≤ (0 : Int) ∧ 0 < (y20.length : Int)) <|
  j76 (List.set y20 (Int.toNat 0) (y56 ++ (at' y20 0)))))))))))))))))

theorem ok_i_RingPut (x0 : List (List Int)) (x1 : List Int) (x2 : Int) (a4 : Option Addr) (c5 : Nat) (l6 : Nat) (hl7 : x0.length = l6) (a8 : Option Addr) (c9 : Nat) (l10 : Nat) (hl11 : x1.length = l10) (r : List (List Int) × Bool) (h : M_i_RingPut x0 x1 x2 = some r) :
    FC Tryz.prog 166 [.agg #[.slice a4 l6 c5], .slice a8 l10 c9, .int .i64 x2] [⟨(.sl (.int .i64)), ⟨a4, l6, c5⟩, x0⟩, ⟨(.int .i64), ⟨a8, l10, c9⟩, x1⟩] (fun _ : Option Addr × Nat => True) (fun q => .tuple #[.agg #[.slice q.1 r.1.length q.2], .bool r.2]) (fun q => [⟨(.sl (.int .i64)), ⟨q.1, r.1.length, q.2⟩, r.1⟩]) :=
  by
    subst hl7
    subst hl11
    refine FC.of (T := TTx) Tryz.call166 Tryz.func166 rfl rfl fun w0 => ?_
    unfold M_i_RingPut at h
    refine JS.seq (JS.region (JO.regB ttOk 3 [] [3, 4] [(3, .bp 3 0), (6, .bp 4 0)] (.new 3 37 [.slice a4 x0.length c5] (.new 4 37 [.slice none 0 0] .nil)) rfl ⟨⟨rfl, rfl, trivial⟩, ⟨rfl, rfl, rfl, rfl, rfl, rfl, rfl, rfl, trivial⟩⟩ (JO.done rfl (JS.seq (JS.seq (JS.region (JO.reg ttOk 1 [] [] [(9, .v (.agg #[.slice a4 x0.length c5]))] _ rfl ⟨⟨rfl, trivial⟩, rfl⟩ ?_)))))))
    obtain ⟨y12, hy13, h⟩ := bindO_some h
    refine JO.call rfl rfl rfl rfl (ok_i_RingOk x0 a4 c5 x0.length rfl _ hy13) rfl [0] rfl rfl fun _ _ => JO.reg ttOk 3 [] [] [(12, .v (.bool (!y12))), (13, .cd [(12, false)] (.v (.int .i64 x2)))] _ rfl ⟨⟨rfl, rfl, trivial⟩, rfl⟩ ?_
    obtain ⟨y14, hy15, -, h⟩ := callO_some h
    refine JO.callg rfl rfl rfl rfl (fun q87 => ok_i_in x2 0 2 _ (hy15 q87)) rfl [] rfl rfl (JO.reg ttOk 4 [] [] [(17, .v (.bool (bif (!y12) then true else (!y14)))), (18, .cd [(17, false)] (.v (.slice a8 x1.length c9)))] _ rfl ⟨⟨rfl, rfl, trivial⟩, rfl⟩ ?_)
    obtain ⟨y17, hy18, -, h⟩ := callO_some h
    refine JO.callg rfl rfl rfl rfl (fun q88 => ok_i_areAdmissible x1 a8 c9 x1.length rfl _ (hy18 q88)) rfl [1] rfl rfl (JO.reg ttOk 2 [] [] [(21, .v (.bool (bif (bif (!y12) then true else (!y14)) then true else (!y17))))] _ rfl ⟨⟨rfl, trivial⟩, rfl⟩ (JO.done rfl ?_))
    refine JS.cond rfl (fun ht98 => ?_) (fun ht98 => ?_)
    · have h := condT h ht98
      refine JS.seq (JS.region (JO.regB ttOk 3 [] [] [(7, .v (.bool false))] (.new 4 37 [.slice none 0 0] .nil) rfl ⟨⟨rfl, trivial⟩, ⟨rfl, rfl, rfl, rfl, trivial⟩⟩ (JO.done rfl ?_)))
      cases h
      refine JS.nilO (.sl (.int .i64)) Sl.nil rfl rfl (JS.ret ttOk (none, 0) trivial rfl rfl [0] rfl)
    have h := condF h ht98
    refine JS.skip (JS.seq (JS.region (JO.reg ttOk 1 [] [] [(23, .v (.agg #[.slice a4 x0.length c5]))] _ rfl ⟨⟨rfl, trivial⟩, rfl⟩ ?_)))
    obtain ⟨y20, hy21, h⟩ := bindO_some h
    refine JO.call rfl rfl rfl rfl (ok_i_copyRing x0 a4 c5 x0.length rfl _ hy21) rfl [0] rfl rfl ?_
    rintro ⟨a22, c23⟩ -
    refine JO.regB ttOk 2 [] [16] [(8, .bp 16 0)] (.new 4 37 [.slice none 0 0] (.new 16 37 [.slice a22 y20.length c23] .nil)) rfl ⟨⟨rfl, trivial⟩, ⟨rfl, rfl, rfl, rfl, rfl, rfl, rfl, rfl, trivial⟩⟩ (JO.done rfl (JS.seq ?_))
    obtain ⟨j76, hj97, h⟩ := joinO_some h
    refine JS.blockJ (ι := List (List Int) × Option Addr × Nat) ⟨fun z => j76 z.1 = some r, fun z => [(6, .bp 4 0), (8, .bp 16 0)], fun z => (.new 4 37 [.slice none 0 0] (.new 16 37 [.slice z.2.1 z.1.length z.2.2] .nil)), fun z => [], fun z => [⟨(.sl (.int .i64)), ⟨z.2.1, z.1.length, z.2.2⟩, z.1⟩], fun z => 0⟩ ?_ ?_
    · refine JS.seq (JS.region (JO.reg ttOk 4 [] [] [(37, .v (.bool (decide ((x1.length : Int) = 0))))] _ rfl ⟨⟨rfl, trivial⟩, rfl⟩ (JO.done rfl ?_)))
      refine JS.cond rfl (fun ht96 => ?_) (fun ht96 => ?_)
      · have h := condT h ht96
        refine JS.skip (JS.endB (JS.endJ (y20, a22, c23) h ⟨rfl, rfl, trivial⟩ ⟨rfl, rfl, rfl, rfl, rfl, rfl, rfl, rfl, trivial⟩ [] rfl [0] rfl))
      have h := condF h ht96
      refine JS.seq (JS.region (JO.know 2 rfl fun hs89 => ?_))
      obtain ⟨g25, h⟩ := guardO_some h
      refine JO.reg ttOk 13 [] [] [(50, .v (.bool (bif (decide (x2 = 0)) then true else (decide ((y20.length : Int) = 0))))), (54, .cd [(50, false)] (.ep ⟨a22, y20.length, c23⟩ (Int.toNat 0 * 1)))] _ rfl ⟨(fun q90 => hs89.ix (g25 q90)), (fun q91 => hs89.fa (g25 q91)), ⟨rfl, rfl, trivial⟩, rfl⟩ (JO.lend [0] rfl (Int.toNat 0) (at' y20 0) rfl fun a28 c29 l30 hl31 => ?_)
      obtain rfl : ([.slice a28 (at' y20 0).length c29] : List Value) = l30 := Option.some.inj hl31
      refine JO.loadV ttOk rfl rfl rfl rfl rfl rfl 2 rfl rfl (Int.toNat 0) 0 (Sum.inr [.slice a28 (at' y20 0).length c29]) (fun q92 => ⟨lentL_at (at_some (g25 q92)), rfl⟩) rfl rfl rfl (JO.reg ttOk 7 [(W (((at' y20 0).length : Int) + (x1.length : Int)))] [] [(41, .v (.bool (bif (bif (decide (x2 = 0)) then true else (decide ((y20.length : Int) = 0))) then true else (decide (400 < (W (((at' y20 0).length : Int) + (x1.length : Int))))))))] _ rfl ⟨(fun q93 => ⟨trivial, rfl⟩), ⟨rfl, trivial⟩, rfl⟩ (JO.unlend0 [0, 0] rfl (at' y20 0) rfl ⟨rfl, rfl, rfl⟩ (JO.done rfl ?_)))
      refine JS.cond rfl (fun ht95 => ?_) (fun ht95 => ?_)
      · have h := condT h ht95
        refine JS.seq ?_
        obtain ⟨y34, hy35, h⟩ := bindO_some h
        obtain ⟨g39, h⟩ := guardO_some h
        refine JS.regionA rfl (.new 16 37 [.slice a22 y20.length c23] .nil) [] [6, 7, 8] ⟨rfl, rfl, rfl, rfl, trivial⟩ rfl (fun be42 => ?_)
        refine JA.regL ttOk panic_cx 7 [0, 4] rfl (by kernel_rfl) [] [(62, .v (.slice a8 x1.length c9)), (66, .bp 16 0)] rfl ⟨rfl, rfl, trivial⟩ (JA.reg ttOk panic_cx true 6 [5] rfl (by kernel_rfl) [] [(62, .v (.slice a8 x1.length c9)), (66, .bp 16 0), (67, .v (.slice a22 y20.length c23))] ⟨rfl, rfl, rfl, rfl, trivial⟩ [] rfl rfl ⟨rfl, rfl, rfl, trivial⟩ (JA.one 1 (by kernel_rfl) (JK.call rfl rfl rfl rfl (ok_i_copyInts x1 a8 c9 x1.length rfl _ hy35) rfl [1] rfl rfl ?_)))
        rintro ⟨a36, c37⟩ -
        refine JA.next ⟨rfl, rfl, rfl, rfl, trivial⟩ [] rfl (JA.regL ttOk panic_cx 4 [2] rfl (by kernel_rfl) [] [(62, .v (.slice a8 x1.length c9)), (63, .v (.slice a36 y34.length c37)), (64, .v (.agg #[.slice a36 y34.length c37])), (66, .bp 16 0), (67, .v (.slice a22 y20.length c23))] rfl ⟨rfl, rfl, rfl, rfl, rfl, trivial⟩ (JA.one 3 (by kernel_rfl) (JK.buildSlice ttOk rfl rfl rfl rfl rfl rfl rfl rfl rfl rfl rfl [0] rfl (.sl (.int .i64)) [y34] ⟨rfl, rfl, rfl⟩ rfl rfl fun a38 => JA.next ⟨rfl, rfl, rfl, rfl, trivial⟩ [] rfl (JA.one 6 (by kernel_rfl) (JK.appendO' ttOk rfl rfl rfl rfl ⟨rfl, rfl, rfl, rfl, trivial, rfl, rfl, rfl, rfl⟩ rfl rfl [0, 0] rfl g39 rfl fun a40 c41 => JA.nextL rfl (JA.regL ttOk panic_cx 1 [7] rfl (by kernel_rfl) [] [(62, .v (.slice a8 x1.length c9)), (63, .v (.slice a36 y34.length c37)), (64, .v (.agg #[.slice a36 y34.length c37])), (65, .v (.slice a38 ([y34] : List (List Int)).length ([y34] : List (List Int)).length)), (66, .bp 16 0), (67, .v (.slice a22 y20.length c23)), (68, .v (.slice a40 (([y34] : List (List Int)) ++ y20).length c41)), (69, .bp 16 0)] rfl ⟨rfl, rfl, rfl, rfl, rfl, rfl, rfl, rfl, trivial⟩ (JA.one 8 (by kernel_rfl) (JK.stBox ttOk rfl rfl rfl rfl rfl rfl rfl rfl (JK.boxes (B' := (.new 4 37 [.slice none 0 0] (.new 16 37 [.slice a40 (([y34] : List (List Int)) ++ y20).length c41] .nil))) ⟨rfl, rfl, rfl, rfl, rfl, rfl, rfl, rfl, trivial⟩ (JA.nextL rfl (JA.done (by kernel_rfl) (JS.boxes (B' := (.new 4 37 [.slice none 0 0] (.new 16 37 [.slice a40 (([y34] : List (List Int)) ++ y20).length c41] .nil))) ⟨rfl, rfl, rfl, rfl, rfl, rfl, rfl, rfl, trivial⟩ (JS.region (JO.reg ttOk 6 [] [] [(71, .v (.slice a40 (([y34] : List (List Int)) ++ y20).length c41)), (75, .v (.int .i64 (min ((([y34] : List (List Int)) ++ y20).length : Int) 6)))] _ rfl ⟨⟨rfl, rfl, trivial⟩, rfl⟩ ?_))))))))))))))
        obtain ⟨g43, h⟩ := guardO_some h
        refine JO.sliceO' ttOk rfl rfl rfl rfl rfl rfl rfl rfl [0] rfl (0 : Int) (min ((([y34] : List (List Int)) ++ y20).length : Int) 6) rfl rfl g43 rfl fun a44 c45 => JO.regB ttOk 2 [] [] [] (.new 4 37 [.slice none 0 0] (.new 16 37 [.slice a44 (sub' (([y34] : List (List Int)) ++ y20) 0 (min ((([y34] : List (List Int)) ++ y20).length : Int) 6)).length c45] .nil)) rfl ⟨trivial, ⟨rfl, rfl, rfl, rfl, rfl, rfl, rfl, rfl, trivial⟩⟩ (JO.done rfl (JS.endB (JS.endJ ((sub' (([y34] : List (List Int)) ++ y20) 0 (min ((([y34] : List (List Int)) ++ y20).length : Int) 6)), a44, c45) h ⟨rfl, rfl, trivial⟩ ⟨rfl, rfl, rfl, rfl, rfl, rfl, rfl, rfl, trivial⟩ [] rfl [0] rfl)))
      have h := condF h ht95
      refine JS.seq (JS.region (JO.reg ttOk 3 [] [] [(78, .v (.bool (decide (x2 = 1))))] _ rfl ⟨⟨rfl, trivial⟩, rfl⟩ (JO.done rfl ?_)))
      refine JS.cond rfl (fun ht94 => ?_) (fun ht94 => ?_)
      · have h := condT h ht94
        obtain ⟨g46, h⟩ := guardO_some h
        obtain ⟨g51, h⟩ := guardO_some h
        obtain ⟨g54, h⟩ := guardO_some h
        refine JS.ofO (id := 0) (JO.lend [0] rfl (Int.toNat 0) (at' y20 0) rfl ?_)
        intro a47 c48 l49 hl50
        obtain rfl : ([.slice a47 (at' y20 0).length c48] : List Value) = l49 := Option.some.inj hl50
        refine JO.ofS ?_
        refine JS.regionA rfl (.new 16 37 [.slice a22 y20.length c23] .nil) [2] [9, 10, 11] ⟨rfl, rfl, rfl, rfl, trivial⟩ rfl (fun be55 => ?_)
        refine JA.reg ttOk panic_cx true 5 [0, 1, 2, 3, 4, 5, 7] rfl (by kernel_rfl) [] [(81, .bp 16 0), (82, .v (.slice a22 y20.length c23)), (83, .bp 16 0), (84, .v (.slice a22 y20.length c23)), (85, .ep ⟨a22, y20.length, c23⟩ (Int.toNat 0 * 1)), (86, .ep ⟨a22, y20.length, c23⟩ (Int.toNat 0 * 1)), (88, .v (.slice a8 x1.length c9))] ⟨rfl, rfl, rfl, rfl, trivial⟩ [2] rfl rfl ⟨hs89.ix g46, hs89.fa g46, ⟨rfl, rfl, rfl, rfl, rfl, rfl, rfl, trivial⟩⟩ (JA.loadV ttOk panic_cx 6 rfl (by kernel_rfl) rfl rfl rfl rfl rfl 0 rfl rfl (Int.toNat 0) 0 (Sum.inr [.slice a47 (at' y20 0).length c48]) ⟨lentL_at (at_some g46), rfl⟩ rfl rfl rfl ⟨rfl, rfl, rfl, rfl, trivial⟩ [2] rfl (JA.one 8 (by kernel_rfl) (JK.appendR' ttOk rfl rfl rfl rfl ⟨rfl, rfl, rfl, rfl, trivial, rfl, rfl, rfl, rfl⟩ rfl rfl rfl [1] rfl 1 rfl g51 rfl fun a52 c53 => JA.next ⟨rfl, rfl, rfl, rfl, trivial⟩ [3] rfl (JA.regL ttOk panic_cx 1 [9, 10] rfl (by kernel_rfl) [] [(81, .bp 16 0), (82, .v (.slice a22 y20.length c23)), (83, .bp 16 0), (84, .v (.slice a22 y20.length c23)), (85, .ep ⟨a22, y20.length, c23⟩ (Int.toNat 0 * 1)), (86, .ep ⟨a22, y20.length, c23⟩ (Int.toNat 0 * 1)), (87, .v (.slice a47 (at' y20 0).length c48)), (88, .v (.slice a8 x1.length c9)), (89, .v (.slice a52 ((at' y20 0) ++ x1).length c53)), (90, .ep ⟨a22, y20.length, c23⟩ (Int.toNat 0 * 1)), (91, .ep ⟨a22, y20.length, c23⟩ (Int.toNat 0 * 1))] rfl ⟨hs89.ix g54, hs89.fa g54, ⟨rfl, rfl, rfl, rfl, rfl, rfl, rfl, rfl, rfl, rfl, rfl, trivial⟩⟩ (JA.one 11 (by kernel_rfl) (JK.storeL ttOk rfl rfl rfl rfl rfl rfl rfl rfl rfl [1] rfl 0 [.slice a52 ((at' y20 0) ++ x1).length c53] (lentL_at (at_some g54)) rfl ⟨rfl, rfl, rfl⟩ (JA.nextL rfl (JA.done (by kernel_rfl) (JS.boxes (B' := (.new 4 37 [.slice none 0 0] (.new 16 37 [.slice a22 y20.length c23] .nil))) ⟨rfl, rfl, rfl, rfl, rfl, rfl, rfl, rfl, trivial⟩ ?_)))))))))
        refine JS.ofO (id := 0) (JO.unlend [0, 0] rfl ((at' y20 0) ++ x1) ⟨rfl, rfl, rfl⟩ (JO.ofS ?_))
        refine JS.endB (JS.endJ ((List.set y20 (Int.toNat 0) ((at' y20 0) ++ x1)), a22, c23) h ⟨rfl, rfl, trivial⟩ ⟨rfl, rfl, rfl, rfl, rfl, (congrArg (fun n => ([.slice a22 n c23] : List Value)) (List.length_set.trans rfl)), rfl, rfl, trivial⟩ [] rfl [0] (by simp only [List.length_set, List.length_replicate, pickO, getF]; rfl))
      have h := condF h ht94
      obtain ⟨y56, hy57, h⟩ := bindO_some h
      obtain ⟨g60, h⟩ := guardO_some h
      obtain ⟨g65, h⟩ := guardO_some h
      obtain ⟨g68, h⟩ := guardO_some h
      refine JS.ofO (id := 0) (JO.lend [0] rfl (Int.toNat 0) (at' y20 0) rfl ?_)
      intro a61 c62 l63 hl64
      obtain rfl : ([.slice a61 (at' y20 0).length c62] : List Value) = l63 := Option.some.inj hl64
      refine JO.ofS ?_
      refine JS.regionA rfl (.new 16 37 [.slice a22 y20.length c23] .nil) [2] [10, 11, 12] ⟨rfl, rfl, rfl, rfl, trivial⟩ rfl (fun be69 => ?_)
      refine JA.reg ttOk panic_cx true 6 [0, 1, 2, 4, 5, 6, 7] rfl (by kernel_rfl) [] [(25, .bp 16 0), (26, .v (.slice a22 y20.length c23)), (27, .v (.slice a8 x1.length c9)), (29, .bp 16 0), (30, .v (.slice a22 y20.length c23)), (31, .ep ⟨a22, y20.length, c23⟩ (Int.toNat 0 * 1)), (32, .ep ⟨a22, y20.length, c23⟩ (Int.toNat 0 * 1))] ⟨rfl, rfl, rfl, rfl, trivial⟩ [2] rfl rfl ⟨hs89.ix g60, hs89.fa g60, ⟨rfl, rfl, rfl, rfl, rfl, rfl, rfl, trivial⟩⟩ (JA.loadV ttOk panic_cx 8 rfl (by kernel_rfl) rfl rfl rfl rfl rfl 0 rfl rfl (Int.toNat 0) 0 (Sum.inr [.slice a61 (at' y20 0).length c62]) ⟨lentL_at (at_some g60), rfl⟩ rfl rfl rfl ⟨rfl, rfl, rfl, rfl, trivial⟩ [2] rfl (JA.one 3 (by kernel_rfl) (JK.call rfl rfl rfl rfl (ok_i_copyInts x1 a8 c9 x1.length rfl _ hy57) rfl [1] rfl rfl ?_)))
      rintro ⟨a58, c59⟩ -
      refine JA.next ⟨rfl, rfl, rfl, rfl, trivial⟩ [3] rfl (JA.one 9 (by kernel_rfl) (JK.appendR' ttOk rfl rfl rfl rfl ⟨rfl, rfl, rfl, rfl, trivial, rfl, rfl, rfl, rfl⟩ rfl rfl rfl [0] rfl 4 rfl g65 rfl fun a66 c67 => JA.next ⟨rfl, rfl, rfl, rfl, trivial⟩ [3] rfl (JA.regL ttOk panic_cx 1 [10, 11] rfl (by kernel_rfl) [] [(25, .bp 16 0), (26, .v (.slice a22 y20.length c23)), (27, .v (.slice a8 x1.length c9)), (28, .v (.slice a58 y56.length c59)), (29, .bp 16 0), (30, .v (.slice a22 y20.length c23)), (31, .ep ⟨a22, y20.length, c23⟩ (Int.toNat 0 * 1)), (32, .ep ⟨a22, y20.length, c23⟩ (Int.toNat 0 * 1)), (33, .v (.slice a61 (at' y20 0).length c62)), (34, .v (.slice a66 (y56 ++ (at' y20 0)).length c67)), (35, .ep ⟨a22, y20.length, c23⟩ (Int.toNat 0 * 1)), (36, .ep ⟨a22, y20.length, c23⟩ (Int.toNat 0 * 1))] rfl ⟨hs89.ix g68, hs89.fa g68, ⟨rfl, rfl, rfl, rfl, rfl, rfl, rfl, rfl, rfl, rfl, rfl, rfl, trivial⟩⟩ (JA.one 12 (by kernel_rfl) (JK.storeL ttOk rfl rfl rfl rfl rfl rfl rfl rfl rfl [1] rfl 0 [.slice a66 (y56 ++ (at' y20 0)).length c67] (lentL_at (at_some g68)) rfl ⟨rfl, rfl, rfl⟩ (JA.nextL rfl (JA.done (by kernel_rfl) (JS.boxes (B' := (.new 4 37 [.slice none 0 0] (.new 16 37 [.slice a22 y20.length c23] .nil))) ⟨rfl, rfl, rfl, rfl, rfl, rfl, rfl, rfl, trivial⟩ ?_))))))))
      refine JS.ofO (id := 0) (JO.unlend [0, 0] rfl (y56 ++ (at' y20 0)) ⟨rfl, rfl, rfl⟩ (JO.ofS ?_))
      refine JS.endB (JS.endJ ((List.set y20 (Int.toNat 0) (y56 ++ (at' y20 0))), a22, c23) h ⟨rfl, rfl, trivial⟩ ⟨rfl, rfl, rfl, rfl, rfl, (congrArg (fun n => ([.slice a22 n c23] : List Value)) (List.length_set.trans rfl)), rfl, rfl, trivial⟩ [] rfl [0] (by simp only [List.length_set, List.length_replicate, pickO, getF]; rfl))
    rintro ⟨x73, a74, c75⟩ h
    subst hj97
    refine JS.seq (JS.region (JO.regB ttOk 3 [] [] [(7, .v (.bool true))] (.new 4 37 [.slice a74 x73.length c75] .nil) rfl ⟨⟨rfl, trivial⟩, ⟨rfl, rfl, rfl, rfl, trivial⟩⟩ (JO.done rfl ?_)))
    cases h
    exact JS.ret ttOk (a74, c75) trivial rfl rfl [0] rfl

def M_i_put (x0 : Bool × Int × (List Int × Int) × Int × Int × Int × Int × Int × Int × Int × List (List Int) × (List (List Int × Int)) × Int × (List Int × Int) × List Int × Int × List Int × Int) (x1 : List Int × Int) : Option ((Bool × Int × (List Int × Int) × Int × Int × Int × Int × Int × Int × Int × List (List Int) × (List (List Int × Int)) × Int × (List Int × Int) × List Int × Int × List Int × Int) × Int) :=
  (bindO (M_i_set x0 x1 0) fun (y31 : Bool × Int × (List Int × Int) × Int × Int × Int × Int × Int × Int × Int × List (List Int) × (List (List Int × Int)) × Int × (List Int × Int) × List Int × Int × List Int × Int) =>
  some (y31, 0))

theorem ok_i_put (x0 : Bool × Int × (List Int × Int) × Int × Int × Int × Int × Int × Int × Int × List (List Int) × (List (List Int × Int)) × Int × (List Int × Int) × List Int × Int × List Int × Int) (x1 : List Int × Int) (a3 : Option Addr) (c4 : Nat) (l5 : Nat) (hl6 : x0.2.2.1.1.length = l5) (a7 : Option Addr) (c8 : Nat) (l9 : Nat) (hl10 : x0.2.2.2.2.2.2.2.2.2.2.1.length = l9) (a11 : Option Addr) (c12 : Nat) (l13 : Nat) (hl14 : x0.2.2.2.2.2.2.2.2.2.2.2.1.length = l13) (a15 : Option Addr) (c16 : Nat) (l17 : Nat) (hl18 : x0.2.2.2.2.2.2.2.2.2.2.2.2.2.1.1.length = l17) (a19 : Option Addr) (c20 : Nat) (l21 : Nat) (hl22 : x0.2.2.2.2.2.2.2.2.2.2.2.2.2.2.1.length = l21) (a23 : Option Addr) (c24 : Nat) (l25 : Nat) (hl26 : x0.2.2.2.2.2.2.2.2.2.2.2.2.2.2.2.2.1.length = l25) (a27 : Option Addr) (c28 : Nat) (l29 : Nat) (hl30 : x1.1.length = l29) (r : (Bool × Int × (List Int × Int) × Int × Int × Int × Int × Int × Int × Int × List (List Int) × (List (List Int × Int)) × Int × (List Int × Int) × List Int × Int × List Int × Int) × Int) (h : M_i_put x0 x1 = some r) :
    FC Tryz.prog 167 [.agg #[.bool x0.1, .int .i64 x0.2.1, .slice a3 l5 c4, .int .i64 x0.2.2.1.2, .int .i64 x0.2.2.2.1, .int .i64 x0.2.2.2.2.1, .int .i64 x0.2.2.2.2.2.1, .int .i64 x0.2.2.2.2.2.2.1, .int .i64 x0.2.2.2.2.2.2.2.1, .int .i64 x0.2.2.2.2.2.2.2.2.1, .int .i64 x0.2.2.2.2.2.2.2.2.2.1, .slice a7 l9 c8, .slice a11 l13 c12, .int .i64 x0.2.2.2.2.2.2.2.2.2.2.2.2.1, .slice a15 l17 c16, .int .i64 x0.2.2.2.2.2.2.2.2.2.2.2.2.2.1.2, .slice a19 l21 c20, .int .i64 x0.2.2.2.2.2.2.2.2.2.2.2.2.2.2.2.1, .slice a23 l25 c24, .int .i64 x0.2.2.2.2.2.2.2.2.2.2.2.2.2.2.2.2.2], .agg #[.slice a27 l29 c28, .int .i64 x1.2]] [⟨(.int .i64), ⟨a3, l5, c4⟩, x0.2.2.1.1⟩, ⟨(.sl (.int .i64)), ⟨a7, l9, c8⟩, x0.2.2.2.2.2.2.2.2.2.2.1⟩, ⟨(.pair (.sl (.int .i64)) (.int .i64)), ⟨a11, l13, c12⟩, x0.2.2.2.2.2.2.2.2.2.2.2.1⟩, ⟨(.int .i64), ⟨a15, l17, c16⟩, x0.2.2.2.2.2.2.2.2.2.2.2.2.2.1.1⟩, ⟨(.int .i64), ⟨a19, l21, c20⟩, x0.2.2.2.2.2.2.2.2.2.2.2.2.2.2.1⟩, ⟨(.int .i64), ⟨a23, l25, c24⟩, x0.2.2.2.2.2.2.2.2.2.2.2.2.2.2.2.2.1⟩, ⟨(.int .i64), ⟨a27, l29, c28⟩, x1.1⟩] (fun _ : Option Addr × Nat × Option Addr × Nat × Option Addr × Nat × Option Addr × Nat × Option Addr × Nat × Option Addr × Nat => True) (fun q => .tuple #[.agg (cl42 r.1 q.1 q.2.1 q.2.2.1 q.2.2.2.1 q.2.2.2.2.1 q.2.2.2.2.2.1 q.2.2.2.2.2.2.1 q.2.2.2.2.2.2.2.1 q.2.2.2.2.2.2.2.2.1 q.2.2.2.2.2.2.2.2.2.1 q.2.2.2.2.2.2.2.2.2.2.1 q.2.2.2.2.2.2.2.2.2.2.2).toArray, .int .i64 r.2]) (fun q => [⟨(.int .i64), ⟨q.1, r.1.2.2.1.1.length, q.2.1⟩, r.1.2.2.1.1⟩, ⟨(.sl (.int .i64)), ⟨q.2.2.1, r.1.2.2.2.2.2.2.2.2.2.2.1.length, q.2.2.2.1⟩, r.1.2.2.2.2.2.2.2.2.2.2.1⟩, ⟨(.pair (.sl (.int .i64)) (.int .i64)), ⟨q.2.2.2.2.1, r.1.2.2.2.2.2.2.2.2.2.2.2.1.length, q.2.2.2.2.2.1⟩, r.1.2.2.2.2.2.2.2.2.2.2.2.1⟩, ⟨(.int .i64), ⟨q.2.2.2.2.2.2.1, r.1.2.2.2.2.2.2.2.2.2.2.2.2.2.1.1.length, q.2.2.2.2.2.2.2.1⟩, r.1.2.2.2.2.2.2.2.2.2.2.2.2.2.1.1⟩, ⟨(.int .i64), ⟨q.2.2.2.2.2.2.2.2.1, r.1.2.2.2.2.2.2.2.2.2.2.2.2.2.2.1.length, q.2.2.2.2.2.2.2.2.2.1⟩, r.1.2.2.2.2.2.2.2.2.2.2.2.2.2.2.1⟩, ⟨(.int .i64), ⟨q.2.2.2.2.2.2.2.2.2.2.1, r.1.2.2.2.2.2.2.2.2.2.2.2.2.2.2.2.2.1.length, q.2.2.2.2.2.2.2.2.2.2.2⟩, r.1.2.2.2.2.2.2.2.2.2.2.2.2.2.2.2.2.1⟩]) :=
  by
    subst hl6
    subst hl10
    subst hl14
    subst hl18
    subst hl22
    subst hl26
    subst hl30
    refine FC.of (T := TTx) Tryz.call167 Tryz.func167 rfl rfl fun w0 => ?_
    unfold M_i_put at h
    refine JS.seq (JS.region (JO.regB ttOk 4 [] [8, 9, 10] [(2, .bp 8 0), (3, .bp 9 0), (4, .bp 10 0)] (.new 8 42 (cl42 x0 a3 c4 a7 c8 a11 c12 a15 c16 a19 c20 a23 c24) (.new 9 34 [.slice a27 x1.1.length c28, .int .i64 x1.2] (.new 10 42 (cl42 (false, 0, ([], 0), 0, 0, 0, 0, 0, 0, 0, [], [], 0, ([], 0), [], 0, ([], 0)) none 0 none 0 none 0 none 0 none 0 none 0) .nil))) rfl ⟨⟨rfl, rfl, rfl, trivial⟩, ⟨rfl, rfl, rfl, rfl, rfl, rfl, rfl, rfl, rfl, rfl, rfl, rfl, trivial⟩⟩ (JO.done rfl (JS.seq (JS.region (JO.reg ttOk 2 [] [] [(6, .v (.agg (cl42 x0 a3 c4 a7 c8 a11 c12 a15 c16 a19 c20 a23 c24).toArray)), (7, .v (.agg #[.slice a27 x1.1.length c28, .int .i64 x1.2]))] _ rfl ⟨⟨rfl, rfl, trivial⟩, rfl⟩ ?_))))))
    obtain ⟨y31, hy32, h⟩ := bindO_some h
    refine JO.call rfl rfl rfl rfl (ok_i_set x0 x1 0 a3 c4 x0.2.2.1.1.length rfl a7 c8 x0.2.2.2.2.2.2.2.2.2.2.1.length rfl a11 c12 x0.2.2.2.2.2.2.2.2.2.2.2.1.length rfl a15 c16 x0.2.2.2.2.2.2.2.2.2.2.2.2.2.1.1.length rfl a19 c20 x0.2.2.2.2.2.2.2.2.2.2.2.2.2.2.1.length rfl a23 c24 x0.2.2.2.2.2.2.2.2.2.2.2.2.2.2.2.2.1.length rfl a27 c28 x1.1.length rfl _ hy32) rfl [0, 1, 2, 3, 4, 5, 6] rfl rfl ?_
    rintro ⟨a33, c34, a35, c36, a37, c38, a39, c40, a41, c42, a43, c44⟩ -
    refine JO.regB ttOk 2 [] [] [(5, .v (.int .i64 0))] (.new 10 42 (cl42 y31 a33 c34 a35 c36 a37 c38 a39 c40 a41 c42 a43 c44) .nil) rfl ⟨⟨rfl, trivial⟩, ⟨rfl, rfl, rfl, rfl, trivial⟩⟩ (JO.done rfl ?_)
    cases h
    exact JS.ret ttOk (a33, c34, a35, c36, a37, c38, a39, c40, a41, c42, a43, c44) trivial rfl rfl [0, 0, 0, 0, 0, 0] rfl

end
end Go.Eng
