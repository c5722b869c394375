/- The walks of the functions that FnPutRune reaches: what each computes, as a plain function (M_..), and that the model computes it (ok_..). Condition of each: that the plain function answers. -/
import Derived.Test.YtokbomfmkllghaaFnPutRuneWalkA
set_option linter.unusedVariables false
set_option linter.unusedSimpArgs false
namespace Go.Eng
open Go Go.Proofs
noncomputable section

def M_s_l09Byte (x0 : (Int × Int × List Int × Int × Int × Bool) × Int × List Int × List UInt8 × Int) (x1 : Int) : Option ((Int × Int × List Int × Int × Int × Bool) × Int × List Int × List UInt8 × Int) :=
  (bif (decide (x0.2.1 = 0)) then
  (bindO (M_s_l09Plain x0 x1) fun (y15, y16) =>
  some y15)
  else
  (bif (decide (x0.2.1 = 1)) then
  (joinO (fun (x26 : Int) =>
  some (x0.1, x26, x0.2.2.1, x0.2.2.2.1, x0.2.2.2.2)) fun j27 =>
  (bif (decide (x1 = 91)) then
  j27 2
  else
  j27 0))
  else
  (bindO (M_s_l09Csi x0 x1) fun (y30, y31) =>
  some y30)))

theorem ok_s_l09Byte (x0 : (Int × Int × List Int × Int × Int × Bool) × Int × List Int × List UInt8 × Int) (x1 : Int) (a3 : Option Addr) (c4 : Nat) (l5 : Nat) (hl6 : x0.1.2.2.1.length = l5) (a7 : Option Addr) (c8 : Nat) (l9 : Nat) (hl10 : x0.2.2.1.length = l9) (a11 : Option Addr) (c12 : Nat) (l13 : Nat) (hl14 : x0.2.2.2.1.length = l13) (r : (Int × Int × List Int × Int × Int × Bool) × Int × List Int × List UInt8 × Int) (h : M_s_l09Byte x0 x1 = some r) :
    FX Try.prog 80 [.agg #[.int .i64 x0.1.1, .int .i64 x0.1.2.1, .slice a3 l5 c4, .int .i64 x0.1.2.2.2.1, .int .i64 x0.1.2.2.2.2.1, .bool x0.1.2.2.2.2.2, .int .i64 x0.2.1, .slice a7 l9 c8, .slice a11 l13 c12, .int .i64 x0.2.2.2.2], .int .i64 x1] [] [⟨(.int .i64), ⟨a3, l5, c4⟩, x0.1.2.2.1⟩, ⟨(.int .i64), ⟨a7, l9, c8⟩, x0.2.2.1⟩, ⟨.byte, ⟨a11, l13, c12⟩, x0.2.2.2.1⟩] (fun _ : Option Addr × Nat × Option Addr × Nat × Option Addr × Nat => True) (fun q => .agg (cl45 r q.1 q.2.1 q.2.2.1 q.2.2.2.1 q.2.2.2.2.1 q.2.2.2.2.2).toArray) (fun q => [⟨(.int .i64), ⟨q.1, r.1.2.2.1.length, q.2.1⟩, r.1.2.2.1⟩, ⟨(.int .i64), ⟨q.2.2.1, r.2.2.1.length, q.2.2.2.1⟩, r.2.2.1⟩, ⟨.byte, ⟨q.2.2.2.2.1, r.2.2.2.1.length, q.2.2.2.2.2⟩, r.2.2.2.1⟩]) :=
  by
    subst hl6
    subst hl10
    subst hl14
    refine FX.of (T := TTx) Try.call80 Try.func80 rfl rfl fun w0 L0 => ?_
    unfold M_s_l09Byte at h
    refine JS.seq (JS.region (JO.regB ttOk 2 [] [4, 5] [(2, .bp 4 0), (4, .bp 5 0)] (.new 4 45 (cl45 x0 a3 c4 a7 c8 a11 c12) (.new 5 45 (cl45 ((0, 0, [], 0, 0, false), 0, [], [], 0) none 0 none 0 none 0) .nil)) rfl ⟨⟨rfl, rfl, trivial⟩, ⟨rfl, rfl, rfl, rfl, rfl, rfl, rfl, rfl, trivial⟩⟩ (JO.done rfl (JS.seq (JS.seq (JS.region (JO.reg ttOk 2 [] [] [(6, .v (.int .i64 x0.2.1))] _ rfl ⟨⟨rfl, trivial⟩, rfl⟩ (JO.done rfl (JS.block (JS.seq (JS.region (JO.reg ttOk 2 [] [] [(7, .v (.bool (decide (x0.2.1 = 0))))] _ rfl ⟨⟨rfl, trivial⟩, rfl⟩ (JO.done rfl ?_)))))))))))))
    refine JS.cond rfl (fun ht45 => ?_) (fun ht45 => ?_)
    · have h := condT h ht45
      refine JS.seq (JS.region (JO.reg ttOk 2 [] [] [(9, .v (.agg (cl45 x0 a3 c4 a7 c8 a11 c12).toArray)), (10, .v (.int .i64 x1))] _ rfl ⟨⟨rfl, rfl, trivial⟩, rfl⟩ ?_))
      obtain ⟨⟨y15, y16⟩, hy17, h⟩ := bindO_some h
      refine JO.callX rfl rfl rfl rfl (ok_s_l09Plain x0 x1 a3 c4 x0.1.2.2.1.length rfl a7 c8 x0.2.2.1.length rfl a11 c12 x0.2.2.2.1.length rfl _ hy17) rfl [0, 0, 0] rfl [] rfl rfl ?_
      rintro ⟨a18, c19, a20, c21, a22, c23⟩ -
      refine JO.know 0 rfl fun hs24 => JO.regB ttOk 1 [] [] [] (.new 5 45 (cl45 y15 a18 c19 a20 c21 a22 c23) .nil) rfl ⟨trivial, ⟨rfl, rfl, rfl, rfl, trivial⟩⟩ (JO.done rfl ?_)
      cases h
      exact JS.retX ttOk (a18, c19, a20, c21, a22, c23) trivial rfl rfl [1, 1, 1] rfl
    have h := condF h ht45
    refine JS.seq (JS.region (JO.reg ttOk 2 [] [] [(12, .v (.bool (decide (x0.2.1 = 1))))] _ rfl ⟨⟨rfl, trivial⟩, rfl⟩ (JO.done rfl ?_)))
    refine JS.cond rfl (fun ht44 => ?_) (fun ht44 => ?_)
    · have h := condT h ht44
      refine JS.seq (JS.region (JO.regB ttOk 2 [] [] [] (.new 4 45 (cl45 (x0.1, 0, x0.2.2.1, x0.2.2.2.1, x0.2.2.2.2) a3 c4 a7 c8 a11 c12) (.new 5 45 (cl45 ((0, 0, [], 0, 0, false), 0, [], [], 0) none 0 none 0 none 0) .nil)) rfl ⟨trivial, ⟨rfl, rfl, rfl, rfl, rfl, rfl, rfl, rfl, trivial⟩⟩ (JO.done rfl ?_)))
      obtain ⟨j27, hj43, h⟩ := joinO_some h
      refine JS.seqJ (ι := Int) ⟨fun z => j27 z = some r, fun z => [(2, .bp 4 0), (4, .bp 5 0)], fun z => (.new 4 45 (cl45 (x0.1, z, x0.2.2.1, x0.2.2.2.1, x0.2.2.2.2) a3 c4 a7 c8 a11 c12) (.new 5 45 (cl45 ((0, 0, [], 0, 0, false), 0, [], [], 0) none 0 none 0 none 0) .nil)), fun z => [], fun z => [⟨(.int .i64), ⟨a3, x0.1.2.2.1.length, c4⟩, x0.1.2.2.1⟩, ⟨(.int .i64), ⟨a7, x0.2.2.1.length, c8⟩, x0.2.2.1⟩, ⟨.byte, ⟨a11, x0.2.2.2.1.length, c12⟩, x0.2.2.2.1⟩], fun z => 0⟩ ?_ ?_
      · refine JS.seq (JS.region (JO.reg ttOk 2 [] [] [(16, .v (.bool (decide (x1 = 91))))] _ rfl ⟨⟨rfl, trivial⟩, rfl⟩ (JO.done rfl ?_)))
        refine JS.cond rfl (fun ht42 => ?_) (fun ht42 => ?_)
        · have h := condT h ht42
          refine JS.region (JO.regB ttOk 2 [] [] [] (.new 4 45 (cl45 (x0.1, 2, x0.2.2.1, x0.2.2.2.1, x0.2.2.2.2) a3 c4 a7 c8 a11 c12) (.new 5 45 (cl45 ((0, 0, [], 0, 0, false), 0, [], [], 0) none 0 none 0 none 0) .nil)) rfl ⟨trivial, ⟨rfl, rfl, rfl, rfl, rfl, rfl, rfl, rfl, trivial⟩⟩ (JO.done rfl (JS.endJA 2 h ⟨rfl, rfl, trivial⟩ ⟨rfl, rfl, rfl, rfl, rfl, rfl, rfl, rfl, trivial⟩ [] rfl [0, 1, 2] rfl rfl)))
        have h := condF h ht42
        refine JS.skip (JS.endJA 0 h ⟨rfl, rfl, trivial⟩ ⟨rfl, rfl, rfl, rfl, rfl, rfl, rfl, rfl, trivial⟩ [] rfl [0, 1, 2] rfl rfl)
      rintro x26 h
      subst hj43
      refine JS.seq (JS.region (JO.regB ttOk 2 [] [] [] (.new 5 45 (cl45 (x0.1, x26, x0.2.2.1, x0.2.2.2.1, x0.2.2.2.2) a3 c4 a7 c8 a11 c12) .nil) rfl ⟨trivial, ⟨rfl, rfl, rfl, rfl, trivial⟩⟩ (JO.done rfl ?_)))
      cases h
      exact JS.retX ttOk (a3, c4, a7, c8, a11, c12) trivial rfl rfl [0, 0, 0] rfl
    have h := condF h ht44
    refine JS.skip (JS.endB (JS.seq (JS.region (JO.reg ttOk 2 [] [] [(19, .v (.agg (cl45 x0 a3 c4 a7 c8 a11 c12).toArray)), (20, .v (.int .i64 x1))] _ rfl ⟨⟨rfl, rfl, trivial⟩, rfl⟩ ?_))))
    obtain ⟨⟨y30, y31⟩, hy32, h⟩ := bindO_some h
    refine JO.callX rfl rfl rfl rfl (ok_s_l09Csi x0 x1 a3 c4 x0.1.2.2.1.length rfl a7 c8 x0.2.2.1.length rfl a11 c12 x0.2.2.2.1.length rfl _ hy32) rfl [0, 0, 0] rfl [] rfl rfl ?_
    rintro ⟨a33, c34, a35, c36, a37, c38⟩ -
    refine JO.know 0 rfl fun hs39 => JO.regB ttOk 1 [] [] [] (.new 5 45 (cl45 y30 a33 c34 a35 c36 a37 c38) .nil) rfl ⟨trivial, ⟨rfl, rfl, rfl, rfl, trivial⟩⟩ (JO.done rfl ?_)
    cases h
    exact JS.retX ttOk (a33, c34, a35, c36, a37, c38) trivial rfl rfl [1, 1, 1] rfl

def M_s_VtFeed_L1 (x1 : List UInt8) (j95 : (Int × Int × List Int × Int × Int × Bool × Int × List Int × List UInt8 × Int) → Option ((Int × Int × List Int × Int × Int × Bool) × Int × List Int × List UInt8 × Int)) (k75 : (Int × Int × Int × List Int × Int × Int × Bool × Int × List Int × List UInt8 × Int) → Option ((Int × Int × List Int × Int × Int × Bool) × Int × List Int × List UInt8 × Int)) : (Int × Int × Int × List Int × Int × Int × Bool × Int × List Int × List UInt8 × Int) → Option ((Int × Int × List Int × Int × Int × Bool) × Int × List Int × List UInt8 × Int) := fun (x29, x46, x47, x48, x51, x52, x53, x54, x55, x58, x61) =>
  (bif (decide (x29 < (x1.length : Int))) then
  (guardO (0 ≤ x29 ∧ x29 < (x1.length : Int)) <|
  (bindO (M_s_l09Byte ((x46, x47, x48, x51, x52, x53), x54, x55, x58, x61) ((at' x1 x29).toNat : Int)) fun (y64 : (Int × Int × List Int × Int × Int × Bool) × Int × List Int × List UInt8 × Int) =>
  k75 ((W (x29 + 1)), y64.1.1, y64.1.2.1, y64.1.2.2.1, y64.1.2.2.2.1, y64.1.2.2.2.2.1, y64.1.2.2.2.2.2, y64.2.1, y64.2.2.1, y64.2.2.2.1, y64.2.2.2.2)))
  else
  j95 (x46, x47, x48, x51, x52, x53, x54, x55, x58, x61))

def M_s_VtFeed (x0 : (Int × Int × List Int × Int × Int × Bool) × Int × List Int × List UInt8 × Int) (x1 : List UInt8) : Option ((Int × Int × List Int × Int × Int × Bool) × Int × List Int × List UInt8 × Int) :=
  (bindO (M_s_VtOk x0) fun (y19 : Bool) =>
  (bif (!y19) then
  some ((0, 0, [], 0, 0, false), 0, [], [], 0)
  else
  (bindO (M_s_l09Copy x0) fun (y21 : (Int × Int × List Int × Int × Int × Bool) × Int × List Int × List UInt8 × Int) =>
  (joinO (fun ((x79, x80, x81, x84, x85, x86, x87, x88, x91, x94) : Int × Int × List Int × Int × Int × Bool × Int × List Int × List UInt8 × Int) =>
  some ((x79, x80, x81, x84, x85, x86), x87, x88, x91, x94)) fun j95 =>
  (fixF (M_s_VtFeed_L1 x1 j95) FUEL (0, y21.1.1, y21.1.2.1, y21.1.2.2.1, y21.1.2.2.2.1, y21.1.2.2.2.2.1, y21.1.2.2.2.2.2, y21.2.1, y21.2.2.1, y21.2.2.2.1, y21.2.2.2.2))))))

theorem ok_s_VtFeed (x0 : (Int × Int × List Int × Int × Int × Bool) × Int × List Int × List UInt8 × Int) (x1 : List UInt8) (a3 : Option Addr) (c4 : Nat) (l5 : Nat) (hl6 : x0.1.2.2.1.length = l5) (a7 : Option Addr) (c8 : Nat) (l9 : Nat) (hl10 : x0.2.2.1.length = l9) (a11 : Option Addr) (c12 : Nat) (l13 : Nat) (hl14 : x0.2.2.2.1.length = l13) (a15 : Option Addr) (c16 : Nat) (l17 : Nat) (hl18 : x1.length = l17) (r : (Int × Int × List Int × Int × Int × Bool) × Int × List Int × List UInt8 × Int) (h : M_s_VtFeed x0 x1 = some r) :
    FC Try.prog 40 [.agg #[.int .i64 x0.1.1, .int .i64 x0.1.2.1, .slice a3 l5 c4, .int .i64 x0.1.2.2.2.1, .int .i64 x0.1.2.2.2.2.1, .bool x0.1.2.2.2.2.2, .int .i64 x0.2.1, .slice a7 l9 c8, .slice a11 l13 c12, .int .i64 x0.2.2.2.2], .slice a15 l17 c16] [⟨(.int .i64), ⟨a3, l5, c4⟩, x0.1.2.2.1⟩, ⟨(.int .i64), ⟨a7, l9, c8⟩, x0.2.2.1⟩, ⟨.byte, ⟨a11, l13, c12⟩, x0.2.2.2.1⟩, ⟨.byte, ⟨a15, l17, c16⟩, x1⟩] (fun _ : Option Addr × Nat × Option Addr × Nat × Option Addr × Nat => True) (fun q => .agg (cl45 r q.1 q.2.1 q.2.2.1 q.2.2.2.1 q.2.2.2.2.1 q.2.2.2.2.2).toArray) (fun q => [⟨(.int .i64), ⟨q.1, r.1.2.2.1.length, q.2.1⟩, r.1.2.2.1⟩, ⟨(.int .i64), ⟨q.2.2.1, r.2.2.1.length, q.2.2.2.1⟩, r.2.2.1⟩, ⟨.byte, ⟨q.2.2.2.2.1, r.2.2.2.1.length, q.2.2.2.2.2⟩, r.2.2.2.1⟩]) :=
  by
    subst hl6
    subst hl10
    subst hl14
    subst hl18
    refine FC.of (T := TTx) Try.call40 Try.func40 rfl rfl fun w0 => ?_
    unfold M_s_VtFeed at h
    refine JS.seq (JS.region (JO.regB ttOk 2 [] [5, 6] [(2, .bp 5 0), (4, .bp 6 0)] (.new 5 45 (cl45 x0 a3 c4 a7 c8 a11 c12) (.new 6 45 (cl45 ((0, 0, [], 0, 0, false), 0, [], [], 0) none 0 none 0 none 0) .nil)) rfl ⟨⟨rfl, rfl, trivial⟩, ⟨rfl, rfl, rfl, rfl, rfl, rfl, rfl, rfl, trivial⟩⟩ (JO.done rfl (JS.seq (JS.seq (JS.region (JO.reg ttOk 1 [] [] [(8, .v (.agg (cl45 x0 a3 c4 a7 c8 a11 c12).toArray))] _ rfl ⟨⟨rfl, trivial⟩, rfl⟩ ?_)))))))
    obtain ⟨y19, hy20, h⟩ := bindO_some h
    refine JO.call rfl rfl rfl rfl (ok_s_VtOk x0 a3 c4 x0.1.2.2.1.length rfl a7 c8 x0.2.2.1.length rfl a11 c12 x0.2.2.2.1.length rfl _ hy20) rfl [0, 1, 2] rfl rfl fun _ _ => JO.reg ttOk 1 [] [] [(10, .v (.bool (!y19)))] _ rfl ⟨⟨rfl, trivial⟩, rfl⟩ (JO.done rfl ?_)
    refine JS.cond rfl (fun ht103 => ?_) (fun ht103 => ?_)
    · have h := condT h ht103
      refine JS.seq (JS.region (JO.regB ttOk 2 [] [] [] (.new 6 45 (cl45 ((0, 0, [], 0, 0, false), 0, [], [], 0) none 0 none 0 none 0) .nil) rfl ⟨trivial, ⟨rfl, rfl, rfl, rfl, trivial⟩⟩ (JO.done rfl ?_)))
      cases h
      refine JS.nilO (.int .i64) Sl.nil rfl rfl (JS.nilO (.int .i64) Sl.nil rfl rfl (JS.nilO .byte Sl.nil rfl rfl (JS.ret ttOk (none, 0, none, 0, none, 0) trivial rfl rfl [2, 1, 0] rfl)))
    have h := condF h ht103
    refine JS.skip (JS.seq (JS.region (JO.reg ttOk 1 [] [] [(12, .v (.agg (cl45 x0 a3 c4 a7 c8 a11 c12).toArray))] _ rfl ⟨⟨rfl, trivial⟩, rfl⟩ ?_)))
    obtain ⟨y21, hy22, h⟩ := bindO_some h
    refine JO.call rfl rfl rfl rfl (ok_s_l09Copy x0 a3 c4 x0.1.2.2.1.length rfl a7 c8 x0.2.2.1.length rfl a11 c12 x0.2.2.2.1.length rfl _ hy22) rfl [0, 1, 2] rfl rfl ?_
    rintro ⟨a23, c24, a25, c26, a27, c28⟩ -
    refine JO.regB ttOk 2 [] [20] [(5, .bp 20 0)] (.new 6 45 (cl45 ((0, 0, [], 0, 0, false), 0, [], [], 0) none 0 none 0 none 0) (.new 20 45 (cl45 y21 a23 c24 a25 c26 a27 c28) .nil)) rfl ⟨⟨rfl, trivial⟩, ⟨rfl, rfl, rfl, rfl, rfl, rfl, rfl, rfl, trivial⟩⟩ (JO.done rfl (JS.seq (JS.seq (JS.region (JO.reg ttOk 3 [] [] [(14, .v (.slice a15 x1.length c16)), (15, .v (.int .i64 (x1.length : Int))), (16, .v (.int .i64 0))] _ rfl ⟨⟨rfl, rfl, rfl, trivial⟩, rfl⟩ (JO.done rfl ?_))))))
    obtain ⟨j95, hj102, h⟩ := joinO_some h
    refine JS.blockJ (ι := Int × Int × List Int × Int × Int × Bool × Int × List Int × List UInt8 × Int × Option Addr × Nat × Option Addr × Nat × Option Addr × Nat) ⟨fun z => j95 (z.1, z.2.1, z.2.2.1, z.2.2.2.1, z.2.2.2.2.1, z.2.2.2.2.2.1, z.2.2.2.2.2.2.1, z.2.2.2.2.2.2.2.1, z.2.2.2.2.2.2.2.2.1, z.2.2.2.2.2.2.2.2.2.1) = some r, fun z => [(4, .bp 6 0), (5, .bp 20 0)], fun z => (.new 6 45 (cl45 ((0, 0, [], 0, 0, false), 0, [], [], 0) none 0 none 0 none 0) (.new 20 45 (cl45 ((z.1, z.2.1, z.2.2.1, z.2.2.2.1, z.2.2.2.2.1, z.2.2.2.2.2.1), z.2.2.2.2.2.2.1, z.2.2.2.2.2.2.2.1, z.2.2.2.2.2.2.2.2.1, z.2.2.2.2.2.2.2.2.2.1) z.2.2.2.2.2.2.2.2.2.2.1 z.2.2.2.2.2.2.2.2.2.2.2.1 z.2.2.2.2.2.2.2.2.2.2.2.2.1 z.2.2.2.2.2.2.2.2.2.2.2.2.2.1 z.2.2.2.2.2.2.2.2.2.2.2.2.2.2.1 z.2.2.2.2.2.2.2.2.2.2.2.2.2.2.2) .nil)), fun z => [], fun z => [⟨(.int .i64), ⟨z.2.2.2.2.2.2.2.2.2.2.1, z.2.2.1.length, z.2.2.2.2.2.2.2.2.2.2.2.1⟩, z.2.2.1⟩, ⟨(.int .i64), ⟨z.2.2.2.2.2.2.2.2.2.2.2.2.1, z.2.2.2.2.2.2.2.1.length, z.2.2.2.2.2.2.2.2.2.2.2.2.2.1⟩, z.2.2.2.2.2.2.2.1⟩, ⟨.byte, ⟨z.2.2.2.2.2.2.2.2.2.2.2.2.2.2.1, z.2.2.2.2.2.2.2.2.1.length, z.2.2.2.2.2.2.2.2.2.2.2.2.2.2.2⟩, z.2.2.2.2.2.2.2.2.1⟩], fun z => 0⟩ ?_ ?_
    · refine JS.loop (ι := Nat × Int × Int × Int × List Int × Int × Int × Bool × Int × List Int × List UInt8 × Int × Option Addr × Nat × Option Addr × Nat × Option Addr × Nat) ⟨fun z => fixF (M_s_VtFeed_L1 x1 j95) z.1 (z.2.1, z.2.2.1, z.2.2.2.1, z.2.2.2.2.1, z.2.2.2.2.2.1, z.2.2.2.2.2.2.1, z.2.2.2.2.2.2.2.1, z.2.2.2.2.2.2.2.2.1, z.2.2.2.2.2.2.2.2.2.1, z.2.2.2.2.2.2.2.2.2.2.1, z.2.2.2.2.2.2.2.2.2.2.2.1) = some r, fun z => [(4, .bp 6 0), (5, .bp 20 0), (14, .v (.slice a15 x1.length c16)), (15, .v (.int .i64 (x1.length : Int))), (16, .v (.int .i64 z.2.1))], fun z => (.new 6 45 (cl45 ((0, 0, [], 0, 0, false), 0, [], [], 0) none 0 none 0 none 0) (.new 20 45 (cl45 ((z.2.2.1, z.2.2.2.1, z.2.2.2.2.1, z.2.2.2.2.2.1, z.2.2.2.2.2.2.1, z.2.2.2.2.2.2.2.1), z.2.2.2.2.2.2.2.2.1, z.2.2.2.2.2.2.2.2.2.1, z.2.2.2.2.2.2.2.2.2.2.1, z.2.2.2.2.2.2.2.2.2.2.2.1) z.2.2.2.2.2.2.2.2.2.2.2.2.1 z.2.2.2.2.2.2.2.2.2.2.2.2.2.1 z.2.2.2.2.2.2.2.2.2.2.2.2.2.2.1 z.2.2.2.2.2.2.2.2.2.2.2.2.2.2.2.1 z.2.2.2.2.2.2.2.2.2.2.2.2.2.2.2.2.1 z.2.2.2.2.2.2.2.2.2.2.2.2.2.2.2.2.2) .nil)), fun z => [⟨.byte, ⟨a15, x1.length, c16⟩, x1⟩], fun z => [⟨(.int .i64), ⟨z.2.2.2.2.2.2.2.2.2.2.2.2.1, z.2.2.2.2.1.length, z.2.2.2.2.2.2.2.2.2.2.2.2.2.1⟩, z.2.2.2.2.1⟩, ⟨(.int .i64), ⟨z.2.2.2.2.2.2.2.2.2.2.2.2.2.2.1, z.2.2.2.2.2.2.2.2.2.1.length, z.2.2.2.2.2.2.2.2.2.2.2.2.2.2.2.1⟩, z.2.2.2.2.2.2.2.2.2.1⟩, ⟨.byte, ⟨z.2.2.2.2.2.2.2.2.2.2.2.2.2.2.2.2.1, z.2.2.2.2.2.2.2.2.2.2.1.length, z.2.2.2.2.2.2.2.2.2.2.2.2.2.2.2.2.2⟩, z.2.2.2.2.2.2.2.2.2.2.1⟩], fun z => z.1⟩ (FUEL, 0, y21.1.1, y21.1.2.1, y21.1.2.2.1, y21.1.2.2.2.1, y21.1.2.2.2.2.1, y21.1.2.2.2.2.2, y21.2.1, y21.2.2.1, y21.2.2.2.1, y21.2.2.2.2, a23, c24, a25, c26, a27, c28) h ⟨rfl, rfl, rfl, rfl, rfl, trivial⟩ ⟨rfl, rfl, rfl, rfl, rfl, rfl, rfl, rfl, trivial⟩ [3] rfl [0, 0, 0] rfl ?_
      rintro ⟨n76, x29, x46, x47, x48, x51, x52, x53, x54, x55, x58, x61, a49, c50, a56, c57, a59, c60⟩ h
      obtain ⟨n76, rfl, h⟩ := fixF_some h
      rw [M_s_VtFeed_L1] at h
      refine JS.seq (JS.region (JO.reg ttOk 1 [] [] [(17, .v (.bool (decide (x29 < (x1.length : Int)))))] _ rfl ⟨⟨rfl, trivial⟩, rfl⟩ (JO.done rfl (JS.seq ?_))))
      refine JS.cond rfl (fun ht101 => ?_) (fun ht101 => ?_)
      · have h := condT h ht101
        refine JS.skip (JS.seq (JS.block (JS.seq (JS.region (JO.know 0 rfl fun hs100 => ?_)))))
        obtain ⟨g63, h⟩ := guardO_some h
        refine JO.reg ttOk 1 [] [] [(18, .ep ⟨a15, x1.length, c16⟩ (Int.toNat x29 * 1))] _ rfl ⟨hs100.ix g63, ⟨rfl, trivial⟩, rfl⟩ (JO.load ttOk rfl rfl rfl rfl rfl rfl rfl 0 rfl rfl (Int.toNat x29) 0 (at' x1 x29) ⟨at_some g63, rfl⟩ rfl rfl (JO.reg ttOk 1 [] [] [(7, .v (.int .u8 ((at' x1 x29).toNat : Int)))] _ rfl ⟨⟨rfl, trivial⟩, rfl⟩ (JO.done rfl (JS.region (JO.reg ttOk 3 [((at' x1 x29).toNat : Int)] [] [(20, .v (.agg (cl45 ((x46, x47, x48, x51, x52, x53), x54, x55, x58, x61) a49 c50 a56 c57 a59 c60).toArray)), (22, .v (.int .i64 ((at' x1 x29).toNat : Int)))] _ rfl ⟨⟨trivial, W_byte _⟩, ⟨rfl, rfl, trivial⟩, rfl⟩ ?_)))))
        obtain ⟨y64, hy65, h⟩ := bindO_some h
        refine JO.callX rfl rfl rfl rfl (ok_s_l09Byte ((x46, x47, x48, x51, x52, x53), x54, x55, x58, x61) ((at' x1 x29).toNat : Int) a49 c50 x48.length rfl a56 c57 x55.length rfl a59 c60 x58.length rfl _ hy65) rfl [0, 0, 0] rfl [] rfl rfl ?_
        rintro ⟨a66, c67, a68, c69, a70, c71⟩ -
        refine JO.regB ttOk 1 [] [] [] (.new 6 45 (cl45 ((0, 0, [], 0, 0, false), 0, [], [], 0) none 0 none 0 none 0) (.new 20 45 (cl45 y64 a66 c67 a68 c69 a70 c71) .nil)) rfl ⟨trivial, ⟨rfl, rfl, rfl, rfl, rfl, rfl, rfl, rfl, trivial⟩⟩ (JO.done rfl (JS.endB (JS.region (JO.reg ttOk 2 [(W (x29 + 1))] [] [(16, .v (.int .i64 (W (x29 + 1))))] _ rfl ⟨⟨trivial, rfl⟩, ⟨rfl, trivial⟩, rfl⟩ (JO.done rfl (JS.endLA (n76, (W (x29 + 1)), y64.1.1, y64.1.2.1, y64.1.2.2.1, y64.1.2.2.2.1, y64.1.2.2.2.2.1, y64.1.2.2.2.2.2, y64.2.1, y64.2.2.1, y64.2.2.2.1, y64.2.2.2.2, a66, c67, a68, c69, a70, c71) h (Nat.lt_succ_self _) ⟨rfl, rfl, rfl, rfl, rfl, trivial⟩ ⟨rfl, rfl, rfl, rfl, rfl, rfl, rfl, rfl, trivial⟩ [0] rfl [0, 1, 2] rfl rfl))))))
      have h := condF h ht101
      refine JS.exit rfl (JS.endJA (x46, x47, x48, x51, x52, x53, x54, x55, x58, x61, a49, c50, a56, c57, a59, c60) h ⟨rfl, rfl, trivial⟩ ⟨rfl, rfl, rfl, rfl, rfl, rfl, rfl, rfl, trivial⟩ [] rfl [0, 1, 2] rfl rfl)
    rintro ⟨x79, x80, x81, x84, x85, x86, x87, x88, x91, x94, a82, c83, a89, c90, a92, c93⟩ h
    subst hj102
    refine JS.seq (JS.region (JO.regB ttOk 2 [] [] [] (.new 6 45 (cl45 ((x79, x80, x81, x84, x85, x86), x87, x88, x91, x94) a82 c83 a89 c90 a92 c93) .nil) rfl ⟨trivial, ⟨rfl, rfl, rfl, rfl, trivial⟩⟩ (JO.done rfl ?_)))
    cases h
    exact JS.ret ttOk (a82, c83, a89, c90, a92, c93) trivial rfl rfl [0, 0, 0] rfl

def M_s_l09Draw (x0 : List UInt8 × Int × Int) : Option (((Int × Int × List Int × Int × Int × Bool) × Int × List Int × List UInt8 × Int) × List UInt8 × Int × Int) :=
  (bindO (M_s_l08Draw x0) fun (y7, y8) =>
  (bindO (M_s_l09Out (x0.1, y8.2.1, y8.2.2) 5) fun (y12, y13) =>
  (bindO (M_s_VtFeed (y7, 0, ([] : List Int), ([] : List UInt8), 0) y12) fun (y17 : (Int × Int × List Int × Int × Int × Bool) × Int × List Int × List UInt8 × Int) =>
  some (y17, (x0.1, y13.2.1, y13.2.2)))))

theorem ok_s_l09Draw (x0 : List UInt8 × Int × Int) (a2 : Option Addr) (a3 : Option Addr) (c4 : Nat) (l5 : Nat) (hl6 : x0.1.length = l5) (r : ((Int × Int × List Int × Int × Int × Bool) × Int × List Int × List UInt8 × Int) × List UInt8 × Int × Int) (h : M_s_l09Draw x0 = some r) :
    FX Try.prog 69 [.pointer a2] [⟨.byte, ⟨a3, l5, c4⟩, x0.1⟩] [⟨(.pair .val (.pair (.int .i64) (.int .i64))), ⟨a2, 1, 1⟩, [((Sl.v ⟨a3, l5, c4⟩), x0.2.1, x0.2.2)]⟩] (fun _ : Option Addr × Nat × Option Addr × Nat × Option Addr × Nat => True) (fun q => .agg (cl45 r.1 q.1 q.2.1 q.2.2.1 q.2.2.2.1 q.2.2.2.2.1 q.2.2.2.2.2).toArray) (fun q => [⟨(.pair .val (.pair (.int .i64) (.int .i64))), ⟨a2, 1, 1⟩, [((Sl.v ⟨a3, l5, c4⟩), r.2.2.1, r.2.2.2)]⟩, ⟨(.int .i64), ⟨q.1, r.1.1.2.2.1.length, q.2.1⟩, r.1.1.2.2.1⟩, ⟨(.int .i64), ⟨q.2.2.1, r.1.2.2.1.length, q.2.2.2.1⟩, r.1.2.2.1⟩, ⟨.byte, ⟨q.2.2.2.2.1, r.1.2.2.2.1.length, q.2.2.2.2.2⟩, r.1.2.2.2.1⟩]) :=
  by
    subst hl6
    refine FX.of (T := TTx) Try.call69 Try.func69 rfl rfl fun w0 L0 => ?_
    unfold M_s_l09Draw at h
    refine JS.ptr 0 a2 rfl ?_
    refine JS.seq (JS.region (JO.regB ttOk 1 [] [3] [(2, .bp 3 0)] (.new 3 45 (cl45 ((0, 0, [], 0, 0, false), 0, [], [], 0) none 0 none 0 none 0) .nil) rfl ⟨⟨rfl, trivial⟩, ⟨rfl, rfl, rfl, rfl, trivial⟩⟩ (JO.done rfl (JS.seq (JS.region (JO.reg ttOk 1 [] [] [(4, .ep ⟨a2, 1, 1⟩ 0)] _ rfl ⟨⟨rfl, trivial⟩, rfl⟩ ?_))))))
    obtain ⟨⟨y7, y8⟩, hy9, h⟩ := bindO_some h
    refine JO.callX rfl rfl rfl rfl (ok_s_l08Draw x0 a2 a3 c4 x0.1.length rfl _ hy9) rfl [0] rfl [0] rfl rfl ?_
    rintro ⟨a10, c11⟩ -
    refine JO.regB ttOk 3 [] [10] [(3, .bp 10 0)] (.new 3 45 (cl45 ((0, 0, [], 0, 0, false), 0, [], [], 0) none 0 none 0 none 0) (.new 10 45 (cl45 (y7, 0, [], [], 0) a10 c11 none 0 none 0) .nil)) rfl ⟨⟨rfl, trivial⟩, ⟨rfl, rfl, rfl, rfl, rfl, rfl, rfl, rfl, trivial⟩⟩ (JO.done rfl (JS.seq ?_))
    obtain ⟨⟨y12, y13⟩, hy14, h⟩ := bindO_some h
    obtain ⟨y17, hy18, h⟩ := bindO_some h
    refine JS.regionA rfl (.new 10 45 (cl45 (y7, 0, [], [], 0) a10 c11 none 0 none 0) .nil) [] [3, 4] ⟨rfl, rfl, rfl, rfl, trivial⟩ rfl (fun be25 => ?_)
    refine JA.reg ttOk panic_cxX true 3 [0, 1] rfl (by kernel_rfl) [] [(7, .v (.agg (cl45 (y7, 0, [], [], 0) a10 c11 none 0 none 0).toArray)), (8, .ep ⟨a2, 1, 1⟩ 0)] ⟨rfl, rfl, rfl, rfl, trivial⟩ [] rfl rfl ⟨rfl, rfl, trivial⟩ (JA.one 2 (by kernel_rfl) (JK.callX rfl rfl rfl rfl (ok_s_l09Out (x0.1, y8.2.1, y8.2.2) 5 a2 a3 c4 x0.1.length rfl _ hy14) rfl [0] rfl [0] rfl rfl ?_))
    rintro ⟨a15, c16⟩ -
    refine JA.next ⟨rfl, rfl, rfl, rfl, trivial⟩ [] rfl (JA.one 3 (by kernel_rfl) (JK.nilR (.int .i64) Sl.nil rfl rfl (JK.nilR .byte Sl.nil rfl rfl (JK.call rfl rfl rfl rfl (ok_s_VtFeed (y7, 0, ([] : List Int), ([] : List UInt8), 0) y12 a10 c11 y7.2.2.1.length rfl none 0 (([] : List Int).length) rfl none 0 (([] : List UInt8).length) rfl a15 c16 y12.length rfl _ hy18) rfl [5, 1, 0, 4] rfl rfl ?_))))
    rintro ⟨a19, c20, a21, c22, a23, c24⟩ -
    refine JA.nextL rfl (JA.one 4 (by kernel_rfl) (JK.stBox ttOk rfl rfl rfl rfl rfl rfl rfl rfl (JK.boxes (B' := (.new 3 45 (cl45 y17 a19 c20 a21 c22 a23 c24) (.new 10 45 (cl45 (y7, 0, [], [], 0) a10 c11 none 0 none 0) .nil))) ⟨rfl, rfl, rfl, rfl, rfl, rfl, rfl, rfl, trivial⟩ (JA.nextL rfl (JA.done (by kernel_rfl) (JS.boxes (B' := (.new 3 45 (cl45 y17 a19 c20 a21 c22 a23 c24) .nil)) ⟨rfl, rfl, rfl, rfl, trivial⟩ ?_))))))
    cases h
    exact JS.retX ttOk (a19, c20, a21, c22, a23, c24) trivial rfl rfl [3, 0, 0, 0] rfl

def M_s_MakeTerminal (x0 : List UInt8) : Option (((Int × Int × List Int × Int × Int × Bool) × Int × List Int × List UInt8 × Int) × Int × Int × List Int × Int × Int × Bool) :=
  (bindO (M_s_l01New x0) fun (y6 : List UInt8 × Int × Int) =>
  (bindO (M_s_l09Draw (x0, y6.2.1, y6.2.2)) fun (y9, y10) =>
  (joinO (fun ((x19, x20) : Int × List Int) =>
  (bindO (M_s_l08Copy y9.1) fun (y25 : Int × Int × List Int × Int × Int × Bool) =>
  (bindO (M_s_l08Fill (x0, y10.2.1, y10.2.2) y25 8) fun (y29, y30) =>
  (bindO (M_s_l01Below (x0, y30.2.1, y30.2.2) y29.1) fun (y34, y35) =>
  (bindO (M_s_l01Below (x0, y35.2.1, y35.2.2) y29.2.1) fun (y37, y38) =>
  (bindO (M_s_GridGo y29 y34 y37) fun (y40 : Int × Int × List Int × Int × Int × Bool) =>
  some ((y9.1, x19, x20, y9.2.2.2.1, y9.2.2.2.2), y40))))))) fun j23 =>
  (bif (!(decide (y9.2.1 = 0))) then
  j23 (0, ([] : List Int))
  else
  j23 (y9.2.1, y9.2.2.1)))))

theorem ok_s_MakeTerminal (x0 : List UInt8) (a2 : Option Addr) (c3 : Nat) (l4 : Nat) (hl5 : x0.length = l4) (r : ((Int × Int × List Int × Int × Int × Bool) × Int × List Int × List UInt8 × Int) × Int × Int × List Int × Int × Int × Bool) (h : M_s_MakeTerminal x0 = some r) :
    FC Try.prog 25 [.slice a2 l4 c3] [⟨.byte, ⟨a2, l4, c3⟩, x0⟩] (fun _ : Option Addr × Nat × Option Addr × Nat × Option Addr × Nat × Option Addr × Nat => True) (fun q => .tuple #[.agg (cl45 r.1 q.1 q.2.1 q.2.2.1 q.2.2.2.1 q.2.2.2.2.1 q.2.2.2.2.2.1).toArray, .agg (cl26 r.2 q.2.2.2.2.2.2.1 q.2.2.2.2.2.2.2).toArray]) (fun q => [⟨(.int .i64), ⟨q.1, r.1.1.2.2.1.length, q.2.1⟩, r.1.1.2.2.1⟩, ⟨(.int .i64), ⟨q.2.2.1, r.1.2.2.1.length, q.2.2.2.1⟩, r.1.2.2.1⟩, ⟨.byte, ⟨q.2.2.2.2.1, r.1.2.2.2.1.length, q.2.2.2.2.2.1⟩, r.1.2.2.2.1⟩, ⟨(.int .i64), ⟨q.2.2.2.2.2.2.1, r.2.2.2.1.length, q.2.2.2.2.2.2.2⟩, r.2.2.2.1⟩]) :=
  by
    subst hl5
    refine FC.of (T := TTx) Try.call25 Try.func25 rfl rfl fun w0 => ?_
    unfold M_s_MakeTerminal at h
    refine JS.seq (JS.region (JO.regB ttOk 2 [] [2, 3] [(2, .bp 2 0), (3, .bp 3 0)] (.new 2 45 (cl45 ((0, 0, [], 0, 0, false), 0, [], [], 0) none 0 none 0 none 0) (.new 3 26 (cl26 (0, 0, [], 0, 0, false) none 0) .nil)) rfl ⟨⟨rfl, rfl, trivial⟩, ⟨rfl, rfl, rfl, rfl, rfl, rfl, rfl, rfl, trivial⟩⟩ (JO.done rfl (JS.seq (JS.region (JO.reg ttOk 1 [] [] [(7, .v (.slice a2 x0.length c3))] _ rfl ⟨⟨rfl, trivial⟩, rfl⟩ ?_))))))
    obtain ⟨y6, hy7, h⟩ := bindO_some h
    refine JO.call rfl rfl rfl rfl (ok_s_l01New x0 a2 c3 x0.length rfl _ hy7) rfl [0] rfl rfl fun a8 _ => JO.ptr 8 a8 rfl (JO.reg ttOk 1 [] [] [(4, .ep ⟨a8, 1, 1⟩ 0)] _ rfl ⟨⟨rfl, trivial⟩, rfl⟩ (JO.done rfl (JS.seq (JS.region (JO.reg ttOk 1 [] [] [(9, .ep ⟨a8, 1, 1⟩ 0)] _ rfl ⟨⟨rfl, trivial⟩, rfl⟩ ?_)))))
    obtain ⟨⟨y9, y10⟩, hy11, h⟩ := bindO_some h
    refine JO.callX rfl rfl rfl rfl (ok_s_l09Draw (x0, y6.2.1, y6.2.2) a8 a2 c3 x0.length rfl _ hy11) rfl [0] rfl [0] rfl rfl ?_
    rintro ⟨a12, c13, a14, c15, a16, c17⟩ -
    refine JO.regB ttOk 2 [] [20] [(5, .bp 20 0)] (.new 2 45 (cl45 ((0, 0, [], 0, 0, false), 0, [], [], 0) none 0 none 0 none 0) (.new 3 26 (cl26 (0, 0, [], 0, 0, false) none 0) (.new 20 45 (cl45 y9 a12 c13 a14 c15 a16 c17) .nil))) rfl ⟨⟨rfl, trivial⟩, ⟨rfl, rfl, rfl, rfl, rfl, rfl, rfl, rfl, rfl, rfl, rfl, rfl, trivial⟩⟩ (JO.done rfl ?_)
    obtain ⟨j23, hj47, h⟩ := joinO_some h
    refine JS.seqJ (ι := Int × List Int × Option Addr × Nat) ⟨fun z => j23 (z.1, z.2.1) = some r, fun z => [(2, .bp 2 0), (3, .bp 3 0), (4, .ep ⟨a8, 1, 1⟩ 0), (5, .bp 20 0)], fun z => (.new 2 45 (cl45 ((0, 0, [], 0, 0, false), 0, [], [], 0) none 0 none 0 none 0) (.new 3 26 (cl26 (0, 0, [], 0, 0, false) none 0) (.new 20 45 (cl45 (y9.1, z.1, z.2.1, y9.2.2.2.1, y9.2.2.2.2) a12 c13 z.2.2.1 z.2.2.2 a16 c17) .nil))), fun z => [⟨.byte, ⟨a2, x0.length, c3⟩, x0⟩], fun z => [⟨(.int .i64), ⟨z.2.2.1, z.2.1.length, z.2.2.2⟩, z.2.1⟩, ⟨(.pair .val (.pair (.int .i64) (.int .i64))), ⟨a8, 1, 1⟩, [((Sl.v ⟨a2, x0.length, c3⟩), y10.2.1, y10.2.2)]⟩, ⟨(.int .i64), ⟨a12, y9.1.2.2.1.length, c13⟩, y9.1.2.2.1⟩, ⟨.byte, ⟨a16, y9.2.2.2.1.length, c17⟩, y9.2.2.2.1⟩], fun z => 0⟩ ?_ ?_
    · refine JS.seq (JS.region (JO.reg ttOk 3 [] [] [(13, .v (.bool (!(decide (y9.2.1 = 0)))))] _ rfl ⟨⟨rfl, trivial⟩, rfl⟩ (JO.done rfl ?_)))
      refine JS.cond rfl (fun ht46 => ?_) (fun ht46 => ?_)
      · have h := condT h ht46
        refine JS.seq (JS.region (JO.regB ttOk 2 [] [] [] (.new 2 45 (cl45 ((0, 0, [], 0, 0, false), 0, [], [], 0) none 0 none 0 none 0) (.new 3 26 (cl26 (0, 0, [], 0, 0, false) none 0) (.new 20 45 (cl45 (y9.1, 0, y9.2.2.1, y9.2.2.2.1, y9.2.2.2.2) a12 c13 a14 c15 a16 c17) .nil))) rfl ⟨trivial, ⟨rfl, rfl, rfl, rfl, rfl, rfl, rfl, rfl, rfl, rfl, rfl, rfl, trivial⟩⟩ (JO.done rfl (JS.region (JO.regB ttOk 2 [] [] [] (.new 2 45 (cl45 ((0, 0, [], 0, 0, false), 0, [], [], 0) none 0 none 0 none 0) (.new 3 26 (cl26 (0, 0, [], 0, 0, false) none 0) (.new 20 45 (cl45 (y9.1, 0, [], y9.2.2.2.1, y9.2.2.2.2) a12 c13 none 0 a16 c17) .nil))) rfl ⟨trivial, ⟨rfl, rfl, rfl, rfl, rfl, rfl, rfl, rfl, rfl, rfl, rfl, rfl, trivial⟩⟩ (JO.done rfl (JS.nilO (.int .i64) Sl.nil rfl rfl (JS.endJA (0, ([] : List Int), none, 0) h ⟨rfl, rfl, rfl, rfl, trivial⟩ ⟨rfl, rfl, rfl, rfl, rfl, rfl, rfl, rfl, rfl, rfl, rfl, rfl, trivial⟩ [0] rfl [0, 1, 2, 4] rfl rfl))))))))
      have h := condF h ht46
      refine JS.skip (JS.endJA (y9.2.1, y9.2.2.1, a14, c15) h ⟨rfl, rfl, rfl, rfl, trivial⟩ ⟨rfl, rfl, rfl, rfl, rfl, rfl, rfl, rfl, rfl, rfl, rfl, rfl, trivial⟩ [0] rfl [2, 0, 1, 3] rfl rfl)
    rintro ⟨x19, x20, a21, c22⟩ h
    subst hj47
    refine JS.seq (JS.region (JO.reg ttOk 3 [] [] [(16, .ep ⟨a8, 1, 1⟩ 0), (18, .v (.agg (cl26 y9.1 a12 c13).toArray))] _ rfl ⟨⟨rfl, rfl, trivial⟩, rfl⟩ ?_))
    obtain ⟨y25, hy26, h⟩ := bindO_some h
    refine JO.call rfl rfl rfl rfl (ok_s_l08Copy y9.1 a12 c13 y9.1.2.2.1.length rfl _ hy26) rfl [3] rfl rfl ?_
    rintro ⟨a27, c28⟩ -
    obtain ⟨⟨y29, y30⟩, hy31, h⟩ := bindO_some h
    refine JO.callX rfl rfl rfl rfl (ok_s_l08Fill (x0, y10.2.1, y10.2.2) y25 8 a8 a2 c3 x0.length rfl a27 c28 y25.2.2.1.length rfl _ hy31) rfl [2, 0] rfl [0] rfl rfl ?_
    rintro ⟨a32, c33⟩ -
    refine JO.regB ttOk 2 [] [39] [(6, .bp 39 0)] (.new 2 45 (cl45 ((0, 0, [], 0, 0, false), 0, [], [], 0) none 0 none 0 none 0) (.new 3 26 (cl26 (0, 0, [], 0, 0, false) none 0) (.new 20 45 (cl45 (y9.1, x19, x20, y9.2.2.2.1, y9.2.2.2.2) a12 c13 a21 c22 a16 c17) (.new 39 26 (cl26 y29 a32 c33) .nil)))) rfl ⟨⟨rfl, trivial⟩, ⟨rfl, rfl, rfl, rfl, rfl, rfl, rfl, rfl, rfl, rfl, rfl, rfl, rfl, rfl, rfl, rfl, trivial⟩⟩ (JO.done rfl (JS.seq ?_))
    obtain ⟨⟨y34, y35⟩, hy36, h⟩ := bindO_some h
    obtain ⟨⟨y37, y38⟩, hy39, h⟩ := bindO_some h
    obtain ⟨y40, hy41, h⟩ := bindO_some h
    refine JS.regionA rfl (.new 20 45 (cl45 (y9.1, x19, x20, y9.2.2.2.1, y9.2.2.2.2) a12 c13 a21 c22 a16 c17) (.new 39 26 (cl26 y29 a32 c33) .nil)) [] [11, 12] ⟨rfl, rfl, rfl, rfl, rfl, rfl, rfl, rfl, trivial⟩ rfl (fun be44 => ?_)
    refine JA.reg ttOk panic_cx true 5 [0, 1, 2, 3, 4, 6, 7, 8] rfl (by kernel_rfl) [] [(21, .v (.agg (cl45 (y9.1, x19, x20, y9.2.2.2.1, y9.2.2.2.2) a12 c13 a21 c22 a16 c17).toArray)), (22, .v (.agg (cl26 y29 a32 c33).toArray)), (23, .ep ⟨a8, 1, 1⟩ 0), (25, .v (.int .i64 y29.1)), (27, .ep ⟨a8, 1, 1⟩ 0), (29, .v (.int .i64 y29.2.1))] ⟨rfl, rfl, rfl, rfl, rfl, rfl, rfl, rfl, trivial⟩ [] rfl rfl ⟨rfl, rfl, rfl, rfl, rfl, rfl, trivial⟩ (JA.one 5 (by kernel_rfl) (JK.callX rfl rfl rfl rfl (ok_s_l01Below (x0, y30.2.1, y30.2.2) y29.1 a8 a2 c3 x0.length rfl _ hy36) rfl [0] rfl [0] rfl rfl fun _ _ => JA.next ⟨rfl, rfl, rfl, rfl, rfl, rfl, rfl, rfl, trivial⟩ [] rfl (JA.one 9 (by kernel_rfl) (JK.callX rfl rfl rfl rfl (ok_s_l01Below (x0, y35.2.1, y35.2.2) y29.2.1 a8 a2 c3 x0.length rfl _ hy39) rfl [0] rfl [0] rfl rfl fun _ _ => JA.next ⟨rfl, rfl, rfl, rfl, rfl, rfl, rfl, rfl, trivial⟩ [] rfl (JA.one 10 (by kernel_rfl) (JK.call rfl rfl rfl rfl (ok_s_GridGo y29 y34 y37 a32 c33 y29.2.2.1.length rfl _ hy41) rfl [2] rfl rfl ?_))))))
    rintro ⟨a42, c43⟩ -
    refine JA.next ⟨rfl, rfl, rfl, rfl, rfl, rfl, rfl, rfl, trivial⟩ [] rfl (JA.one 11 (by kernel_rfl) (JK.stBox ttOk rfl rfl rfl rfl rfl rfl rfl rfl (JK.boxes (B' := (.new 2 45 (cl45 (y9.1, x19, x20, y9.2.2.2.1, y9.2.2.2.2) a12 c13 a21 c22 a16 c17) (.new 3 26 (cl26 (0, 0, [], 0, 0, false) none 0) (.new 20 45 (cl45 (y9.1, x19, x20, y9.2.2.2.1, y9.2.2.2.2) a12 c13 a21 c22 a16 c17) (.new 39 26 (cl26 y29 a32 c33) .nil))))) ⟨rfl, rfl, rfl, rfl, rfl, rfl, rfl, rfl, rfl, rfl, rfl, rfl, rfl, rfl, rfl, rfl, trivial⟩ (JA.nextL rfl (JA.one 12 (by kernel_rfl) (JK.stBox ttOk rfl rfl rfl rfl rfl rfl rfl rfl (JK.boxes (B' := (.new 2 45 (cl45 (y9.1, x19, x20, y9.2.2.2.1, y9.2.2.2.2) a12 c13 a21 c22 a16 c17) (.new 3 26 (cl26 y40 a42 c43) (.new 20 45 (cl45 (y9.1, x19, x20, y9.2.2.2.1, y9.2.2.2.2) a12 c13 a21 c22 a16 c17) (.new 39 26 (cl26 y29 a32 c33) .nil))))) ⟨rfl, rfl, rfl, rfl, rfl, rfl, rfl, rfl, rfl, rfl, rfl, rfl, rfl, rfl, rfl, rfl, trivial⟩ (JA.nextL rfl (JA.done (by kernel_rfl) (JS.boxes (B' := (.new 2 45 (cl45 (y9.1, x19, x20, y9.2.2.2.1, y9.2.2.2.2) a12 c13 a21 c22 a16 c17) (.new 3 26 (cl26 y40 a42 c43) .nil))) ⟨rfl, rfl, rfl, rfl, rfl, rfl, rfl, rfl, trivial⟩ ?_))))))))))
    cases h
    exact JS.ret ttOk (a12, c13, a21, c22, a16, c17, a42, c43) trivial rfl rfl [4, 3, 3, 0] rfl

def M_s_MakeRune (x0 : List UInt8) : Option Int :=
  (bindO (M_s_l01New x0) fun (y6 : List UInt8 × Int × Int) =>
  (bindO (M_s_l02Rune (x0, y6.2.1, y6.2.2)) fun (y9, y10) =>
  some y9))

theorem ok_s_MakeRune (x0 : List UInt8) (a2 : Option Addr) (c3 : Nat) (l4 : Nat) (hl5 : x0.length = l4) (r : Int) (h : M_s_MakeRune x0 = some r) :
    FC Try.prog 17 [.slice a2 l4 c3] [⟨.byte, ⟨a2, l4, c3⟩, x0⟩] (fun _ : Unit => True) (fun _ => .int .i64 r) (fun _ => []) :=
  by
    subst hl5
    refine FC.of (T := TTx) Try.call17 Try.func17 rfl rfl fun w0 => ?_
    unfold M_s_MakeRune at h
    refine JS.seq (JS.region (JO.reg ttOk 1 [] [] [] _ rfl ⟨trivial, rfl⟩ (JO.done rfl (JS.seq (JS.region (JO.reg ttOk 1 [] [] [(5, .v (.slice a2 x0.length c3))] _ rfl ⟨⟨rfl, trivial⟩, rfl⟩ ?_))))))
    obtain ⟨y6, hy7, h⟩ := bindO_some h
    refine JO.call rfl rfl rfl rfl (ok_s_l01New x0 a2 c3 x0.length rfl _ hy7) rfl [0] rfl rfl fun a8 _ => JO.ptr 6 a8 rfl (JO.reg ttOk 1 [] [] [(3, .ep ⟨a8, 1, 1⟩ 0)] _ rfl ⟨⟨rfl, trivial⟩, rfl⟩ (JO.done rfl (JS.seq (JS.region (JO.reg ttOk 1 [] [] [(7, .ep ⟨a8, 1, 1⟩ 0)] _ rfl ⟨⟨rfl, trivial⟩, rfl⟩ ?_)))))
    obtain ⟨⟨y9, y10⟩, hy11, h⟩ := bindO_some h
    refine JO.callX rfl rfl rfl rfl (ok_s_l02Rune (x0, y6.2.1, y6.2.2) a8 a2 c3 x0.length rfl _ hy11) rfl [0] rfl [0] rfl rfl fun _ _ => JO.reg ttOk 1 [] [] [(4, .v (.int .i64 y9))] _ rfl ⟨⟨rfl, trivial⟩, rfl⟩ (JO.done rfl (JS.seq (JS.region (JO.reg ttOk 2 [] [] [(2, .v (.int .i64 y9))] _ rfl ⟨⟨rfl, trivial⟩, rfl⟩ (JO.done rfl ?_)))))
    cases h
    exact JS.ret ttOk () trivial rfl rfl [] rfl

def M_i_in (x0 : Int) (x1 : Int) (x2 : Int) : Option Bool :=
  some (bif (decide (x1 ≤ x0)) then (decide (x0 ≤ x2)) else false)

theorem ok_i_in (x0 : Int) (x1 : Int) (x2 : Int) (r : Bool) (h : M_i_in x0 x1 x2 = some r) :
    FC Try.prog 64 [.int .i64 x0, .int .i64 x1, .int .i64 x2] [] (fun _ : Unit => True) (fun _ => .bool r) (fun _ => []) :=
  by
    refine FC.of (T := TTx) Try.call64 Try.func64 rfl rfl fun w0 => ?_
    unfold M_i_in at h
    refine JS.seq (JS.region (JO.reg ttOk 1 [] [] [] _ rfl ⟨trivial, rfl⟩ (JO.done rfl (JS.seq (JS.region (JO.reg ttOk 9 [] [] [(6, .v (.bool (bif (decide (x1 ≤ x0)) then (decide (x0 ≤ x2)) else false)))] _ rfl ⟨⟨rfl, trivial⟩, rfl⟩ (JO.done rfl ?_)))))))
    cases h
    exact JS.ret ttOk () trivial rfl rfl [] rfl

def M_i_RuneOk (x0 : Int) : Option Bool :=
  (bindO (M_i_in x0 0 1114111) fun (y2 : Bool) =>
  (callO (y2 = true) (M_i_in x0 55296 57343) false fun (y4 : Bool) =>
  some (bif y2 then (!y4) else false)))

theorem ok_i_RuneOk (x0 : Int) (r : Bool) (h : M_i_RuneOk x0 = some r) :
    FC Try.prog 88 [.int .i64 x0] [] (fun _ : Unit => True) (fun _ => .bool r) (fun _ => []) :=
  by
    refine FC.of (T := TTx) Try.call88 Try.func88 rfl rfl fun w0 => ?_
    unfold M_i_RuneOk at h
    refine JS.seq (JS.region (JO.reg ttOk 1 [] [] [] _ rfl ⟨trivial, rfl⟩ (JO.done rfl (JS.seq (JS.region (JO.reg ttOk 1 [] [] [(3, .v (.int .i64 x0))] _ rfl ⟨⟨rfl, trivial⟩, rfl⟩ ?_))))))
    obtain ⟨y2, hy3, h⟩ := bindO_some h
    refine JO.call rfl rfl rfl rfl (ok_i_in x0 0 1114111 _ hy3) rfl [] rfl rfl fun _ _ => JO.reg ttOk 2 [] [] [(5, .v (.bool y2)), (6, .cd [(5, true)] (.v (.int .i64 x0)))] _ rfl ⟨⟨rfl, rfl, trivial⟩, rfl⟩ ?_
    obtain ⟨y4, hy5, -, h⟩ := callO_some h
    refine JO.callg rfl rfl rfl rfl (fun q7 => ok_i_in x0 55296 57343 _ (hy5 q7)) rfl [] rfl rfl (JO.reg ttOk 3 [] [] [(2, .v (.bool (bif y2 then (!y4) else false)))] _ rfl ⟨⟨rfl, trivial⟩, rfl⟩ (JO.done rfl ?_))
    cases h
    exact JS.ret ttOk () trivial rfl rfl [] rfl

def M_i_Printable (x0 : Int) : Option Bool :=
  (bindO (M_i_RuneOk x0) fun (y2 : Bool) =>
  (callO ((bif y2 then (decide (32 ≤ x0)) else false) = true) (M_i_in x0 127 159) false fun (y4 : Bool) =>
  some (bif (bif y2 then (decide (32 ≤ x0)) else false) then (!y4) else false)))

theorem ok_i_Printable (x0 : Int) (r : Bool) (h : M_i_Printable x0 = some r) :
    FC Try.prog 63 [.int .i64 x0] [] (fun _ : Unit => True) (fun _ => .bool r) (fun _ => []) :=
  by
    refine FC.of (T := TTx) Try.call63 Try.func63 rfl rfl fun w0 => ?_
    unfold M_i_Printable at h
    refine JS.seq (JS.region (JO.reg ttOk 1 [] [] [] _ rfl ⟨trivial, rfl⟩ (JO.done rfl (JS.seq (JS.region (JO.reg ttOk 1 [] [] [(3, .v (.int .i64 x0))] _ rfl ⟨⟨rfl, trivial⟩, rfl⟩ ?_))))))
    obtain ⟨y2, hy3, h⟩ := bindO_some h
    refine JO.call rfl rfl rfl rfl (ok_i_RuneOk x0 _ hy3) rfl [] rfl rfl fun _ _ => JO.reg ttOk 6 [] [] [(9, .v (.bool (bif y2 then (decide (32 ≤ x0)) else false))), (10, .cd [(9, true)] (.v (.int .i64 x0)))] _ rfl ⟨⟨rfl, rfl, trivial⟩, rfl⟩ ?_
    obtain ⟨y4, hy5, -, h⟩ := callO_some h
    refine JO.callg rfl rfl rfl rfl (fun q7 => ok_i_in x0 127 159 _ (hy5 q7)) rfl [] rfl rfl (JO.reg ttOk 3 [] [] [(2, .v (.bool (bif (bif y2 then (decide (32 ≤ x0)) else false) then (!y4) else false)))] _ rfl ⟨⟨rfl, trivial⟩, rfl⟩ (JO.done rfl ?_))
    cases h
    exact JS.ret ttOk () trivial rfl rfl [] rfl

def M_i_RuneBytes (x0 : Int) : Option (List UInt8) :=
  (bindO (M_i_RuneOk x0) fun (y2 : Bool) =>
  (bif (!y2) then
  some ([])
  else
  (bif (decide (x0 < 128)) then
  some ([(u8 (x0))] : List UInt8)
  else
  (bif (decide (x0 < 2048)) then
  some ([(u8 ((W (192 + (W (Int.tdiv x0 64)))))), (u8 ((W (128 + (Int.tmod x0 64)))))] : List UInt8)
  else
  (bif (decide (x0 < 65536)) then
  some ([(u8 ((W (224 + (W (Int.tdiv x0 4096)))))), (u8 ((W (128 + (Int.tmod (W (Int.tdiv x0 64)) 64))))), (u8 ((W (128 + (Int.tmod x0 64)))))] : List UInt8)
  else
  some ([(u8 ((W (240 + (W (Int.tdiv x0 262144)))))), (u8 ((W (128 + (Int.tmod (W (Int.tdiv x0 4096)) 64))))), (u8 ((W (128 + (Int.tmod (W (Int.tdiv x0 64)) 64))))), (u8 ((W (128 + (Int.tmod x0 64)))))] : List UInt8))))))

theorem ok_i_RuneBytes (x0 : Int) (r : List UInt8) (h : M_i_RuneBytes x0 = some r) :
    FC Try.prog 75 [.int .i64 x0] [] (fun _ : Option Addr × Nat => True) (fun q => .slice q.1 r.length q.2) (fun q => [⟨.byte, ⟨q.1, r.length, q.2⟩, r⟩]) :=
  by
    refine FC.of (T := TTx) Try.call75 Try.func75 rfl rfl fun w0 => ?_
    unfold M_i_RuneBytes at h
    refine JS.seq (JS.region (JO.reg ttOk 1 [] [] [] _ rfl ⟨trivial, rfl⟩ (JO.done rfl (JS.seq (JS.block (JS.seq (JS.region (JO.reg ttOk 1 [] [] [(4, .v (.int .i64 x0))] _ rfl ⟨⟨rfl, trivial⟩, rfl⟩ ?_))))))))
    obtain ⟨y2, hy3, h⟩ := bindO_some h
    refine JO.call rfl rfl rfl rfl (ok_i_RuneOk x0 _ hy3) rfl [] rfl rfl fun _ _ => JO.reg ttOk 2 [] [] [(3, .v (.bool (!y2)))] _ rfl ⟨⟨rfl, trivial⟩, rfl⟩ (JO.done rfl ?_)
    refine JS.cond rfl (fun ht27 => ?_) (fun ht27 => ?_)
    · have h := condT h ht27
      refine JS.seq (JS.region (JO.reg ttOk 1 [] [] [(2, .v (.slice none 0 0))] _ rfl ⟨⟨rfl, trivial⟩, rfl⟩ (JO.done rfl ?_)))
      cases h
      refine JS.nilO .byte Sl.nil rfl rfl (JS.ret ttOk (none, 0) trivial rfl rfl [0] rfl)
    have h := condF h ht27
    refine JS.seq (JS.region (JO.reg ttOk 3 [] [] [(7, .v (.bool (decide (x0 < 128))))] _ rfl ⟨⟨rfl, trivial⟩, rfl⟩ (JO.done rfl ?_)))
    refine JS.cond rfl (fun ht26 => ?_) (fun ht26 => ?_)
    · have h := condT h ht26
      refine JS.seq (JS.region (JO.reg ttOk 2 [((u8 (x0)).toNat : Int)] [] [(11, .v (.int .u8 ((u8 (x0)).toNat : Int)))] _ rfl ⟨⟨trivial, u8_wrap _⟩, ⟨rfl, trivial⟩, rfl⟩ ?_))
      refine JO.ofK rfl (JK.buildSlice ttOk rfl rfl rfl rfl rfl rfl rfl rfl rfl rfl rfl [] rfl .byte [(u8 (x0))] ⟨rfl, rfl⟩ rfl rfl fun a4 => JO.toK ?_)
      refine JO.reg ttOk 1 [] [] [(2, .v (.slice a4 ([(u8 (x0))] : List UInt8).length ([(u8 (x0))] : List UInt8).length))] _ rfl ⟨⟨rfl, trivial⟩, rfl⟩ (JO.done rfl ?_)
      cases h
      exact JS.ret ttOk (a4, ([(u8 (x0))] : List UInt8).length) trivial rfl rfl [0] rfl
    have h := condF h ht26
    refine JS.seq (JS.region (JO.reg ttOk 3 [] [] [(13, .v (.bool (decide (x0 < 2048))))] _ rfl ⟨⟨rfl, trivial⟩, rfl⟩ (JO.done rfl ?_)))
    refine JS.cond rfl (fun ht25 => ?_) (fun ht25 => ?_)
    · have h := condT h ht25
      refine JS.seq (JS.region ?_)
      have g5 : (64 : Int) ≠ 0 := by decide
      have g6 : (64 : Int) ≠ 0 := by decide
      refine JO.reg ttOk 8 [(W (Int.tdiv x0 64)), (W (192 + (W (Int.tdiv x0 64)))), ((u8 ((W (192 + (W (Int.tdiv x0 64)))))).toNat : Int), (W (128 + (Int.tmod x0 64))), ((u8 ((W (128 + (Int.tmod x0 64))))).toNat : Int)] [] [(19, .v (.int .u8 ((u8 ((W (192 + (W (Int.tdiv x0 64)))))).toNat : Int))), (23, .v (.int .u8 ((u8 ((W (128 + (Int.tmod x0 64))))).toNat : Int)))] _ rfl ⟨⟨g5, rfl⟩, ⟨trivial, rfl⟩, ⟨trivial, u8_wrap _⟩, g6, ⟨trivial, rfl⟩, ⟨trivial, u8_wrap _⟩, ⟨rfl, rfl, trivial⟩, rfl⟩ ?_
      refine JO.ofK rfl (JK.buildSlice ttOk rfl rfl rfl rfl rfl rfl rfl rfl rfl rfl rfl [] rfl .byte [(u8 ((W (192 + (W (Int.tdiv x0 64)))))), (u8 ((W (128 + (Int.tmod x0 64)))))] ⟨rfl, rfl⟩ rfl rfl fun a7 => JO.toK ?_)
      refine JO.reg ttOk 1 [] [] [(2, .v (.slice a7 ([(u8 ((W (192 + (W (Int.tdiv x0 64)))))), (u8 ((W (128 + (Int.tmod x0 64)))))] : List UInt8).length ([(u8 ((W (192 + (W (Int.tdiv x0 64)))))), (u8 ((W (128 + (Int.tmod x0 64)))))] : List UInt8).length))] _ rfl ⟨⟨rfl, trivial⟩, rfl⟩ (JO.done rfl ?_)
      cases h
      exact JS.ret ttOk (a7, ([(u8 ((W (192 + (W (Int.tdiv x0 64)))))), (u8 ((W (128 + (Int.tmod x0 64)))))] : List UInt8).length) trivial rfl rfl [0] rfl
    have h := condF h ht25
    refine JS.seq (JS.region (JO.reg ttOk 3 [] [] [(25, .v (.bool (decide (x0 < 65536))))] _ rfl ⟨⟨rfl, trivial⟩, rfl⟩ (JO.done rfl ?_)))
    refine JS.cond rfl (fun ht24 => ?_) (fun ht24 => ?_)
    · have h := condT h ht24
      refine JS.seq (JS.region ?_)
      have g8 : (4096 : Int) ≠ 0 := by decide
      have g9 : (64 : Int) ≠ 0 := by decide
      have g10 : (64 : Int) ≠ 0 := by decide
      have g11 : (64 : Int) ≠ 0 := by decide
      refine JO.reg ttOk 13 [(W (Int.tdiv x0 4096)), (W (224 + (W (Int.tdiv x0 4096)))), ((u8 ((W (224 + (W (Int.tdiv x0 4096)))))).toNat : Int), (W (Int.tdiv x0 64)), (W (128 + (Int.tmod (W (Int.tdiv x0 64)) 64))), ((u8 ((W (128 + (Int.tmod (W (Int.tdiv x0 64)) 64))))).toNat : Int), (W (128 + (Int.tmod x0 64))), ((u8 ((W (128 + (Int.tmod x0 64))))).toNat : Int)] [] [(31, .v (.int .u8 ((u8 ((W (224 + (W (Int.tdiv x0 4096)))))).toNat : Int))), (36, .v (.int .u8 ((u8 ((W (128 + (Int.tmod (W (Int.tdiv x0 64)) 64))))).toNat : Int))), (40, .v (.int .u8 ((u8 ((W (128 + (Int.tmod x0 64))))).toNat : Int)))] _ rfl ⟨⟨g8, rfl⟩, ⟨trivial, rfl⟩, ⟨trivial, u8_wrap _⟩, ⟨g9, rfl⟩, g10, ⟨trivial, rfl⟩, ⟨trivial, u8_wrap _⟩, g11, ⟨trivial, rfl⟩, ⟨trivial, u8_wrap _⟩, ⟨rfl, rfl, rfl, trivial⟩, rfl⟩ ?_
      refine JO.ofK rfl (JK.buildSlice ttOk rfl rfl rfl rfl rfl rfl rfl rfl rfl rfl rfl [] rfl .byte [(u8 ((W (224 + (W (Int.tdiv x0 4096)))))), (u8 ((W (128 + (Int.tmod (W (Int.tdiv x0 64)) 64))))), (u8 ((W (128 + (Int.tmod x0 64)))))] ⟨rfl, rfl⟩ rfl rfl fun a12 => JO.toK ?_)
      refine JO.reg ttOk 1 [] [] [(2, .v (.slice a12 ([(u8 ((W (224 + (W (Int.tdiv x0 4096)))))), (u8 ((W (128 + (Int.tmod (W (Int.tdiv x0 64)) 64))))), (u8 ((W (128 + (Int.tmod x0 64)))))] : List UInt8).length ([(u8 ((W (224 + (W (Int.tdiv x0 4096)))))), (u8 ((W (128 + (Int.tmod (W (Int.tdiv x0 64)) 64))))), (u8 ((W (128 + (Int.tmod x0 64)))))] : List UInt8).length))] _ rfl ⟨⟨rfl, trivial⟩, rfl⟩ (JO.done rfl ?_)
      cases h
      exact JS.ret ttOk (a12, ([(u8 ((W (224 + (W (Int.tdiv x0 4096)))))), (u8 ((W (128 + (Int.tmod (W (Int.tdiv x0 64)) 64))))), (u8 ((W (128 + (Int.tmod x0 64)))))] : List UInt8).length) trivial rfl rfl [0] rfl
    have h := condF h ht24
    refine JS.skip (JS.endB (JS.seq (JS.region ?_)))
    have g13 : (262144 : Int) ≠ 0 := by decide
    have g14 : (4096 : Int) ≠ 0 := by decide
    have g15 : (64 : Int) ≠ 0 := by decide
    have g16 : (64 : Int) ≠ 0 := by decide
    have g17 : (64 : Int) ≠ 0 := by decide
    have g18 : (64 : Int) ≠ 0 := by decide
    refine JO.reg ttOk 18 [(W (Int.tdiv x0 262144)), (W (240 + (W (Int.tdiv x0 262144)))), ((u8 ((W (240 + (W (Int.tdiv x0 262144)))))).toNat : Int), (W (Int.tdiv x0 4096)), (W (128 + (Int.tmod (W (Int.tdiv x0 4096)) 64))), ((u8 ((W (128 + (Int.tmod (W (Int.tdiv x0 4096)) 64))))).toNat : Int), (W (Int.tdiv x0 64)), (W (128 + (Int.tmod (W (Int.tdiv x0 64)) 64))), ((u8 ((W (128 + (Int.tmod (W (Int.tdiv x0 64)) 64))))).toNat : Int), (W (128 + (Int.tmod x0 64))), ((u8 ((W (128 + (Int.tmod x0 64))))).toNat : Int)] [] [(45, .v (.int .u8 ((u8 ((W (240 + (W (Int.tdiv x0 262144)))))).toNat : Int))), (50, .v (.int .u8 ((u8 ((W (128 + (Int.tmod (W (Int.tdiv x0 4096)) 64))))).toNat : Int))), (55, .v (.int .u8 ((u8 ((W (128 + (Int.tmod (W (Int.tdiv x0 64)) 64))))).toNat : Int))), (59, .v (.int .u8 ((u8 ((W (128 + (Int.tmod x0 64))))).toNat : Int)))] _ rfl ⟨⟨g13, rfl⟩, ⟨trivial, rfl⟩, ⟨trivial, u8_wrap _⟩, ⟨g14, rfl⟩, g15, ⟨trivial, rfl⟩, ⟨trivial, u8_wrap _⟩, ⟨g16, rfl⟩, g17, ⟨trivial, rfl⟩, ⟨trivial, u8_wrap _⟩, g18, ⟨trivial, rfl⟩, ⟨trivial, u8_wrap _⟩, ⟨rfl, rfl, rfl, rfl, trivial⟩, rfl⟩ ?_
    refine JO.ofK rfl (JK.buildSlice ttOk rfl rfl rfl rfl rfl rfl rfl rfl rfl rfl rfl [] rfl .byte [(u8 ((W (240 + (W (Int.tdiv x0 262144)))))), (u8 ((W (128 + (Int.tmod (W (Int.tdiv x0 4096)) 64))))), (u8 ((W (128 + (Int.tmod (W (Int.tdiv x0 64)) 64))))), (u8 ((W (128 + (Int.tmod x0 64)))))] ⟨rfl, rfl⟩ rfl rfl fun a19 => JO.toK ?_)
    refine JO.reg ttOk 1 [] [] [(2, .v (.slice a19 ([(u8 ((W (240 + (W (Int.tdiv x0 262144)))))), (u8 ((W (128 + (Int.tmod (W (Int.tdiv x0 4096)) 64))))), (u8 ((W (128 + (Int.tmod (W (Int.tdiv x0 64)) 64))))), (u8 ((W (128 + (Int.tmod x0 64)))))] : List UInt8).length ([(u8 ((W (240 + (W (Int.tdiv x0 262144)))))), (u8 ((W (128 + (Int.tmod (W (Int.tdiv x0 4096)) 64))))), (u8 ((W (128 + (Int.tmod (W (Int.tdiv x0 64)) 64))))), (u8 ((W (128 + (Int.tmod x0 64)))))] : List UInt8).length))] _ rfl ⟨⟨rfl, trivial⟩, rfl⟩ (JO.done rfl ?_)
    cases h
    exact JS.ret ttOk (a19, ([(u8 ((W (240 + (W (Int.tdiv x0 262144)))))), (u8 ((W (128 + (Int.tmod (W (Int.tdiv x0 4096)) 64))))), (u8 ((W (128 + (Int.tmod (W (Int.tdiv x0 64)) 64))))), (u8 ((W (128 + (Int.tmod x0 64)))))] : List UInt8).length) trivial rfl rfl [0] rfl

def M_i_EmitRunes_L1 (x0 : List Int) (j39 : (List UInt8) → Option (List UInt8)) (k30 : (List UInt8 × Int) → Option (List UInt8)) : (List UInt8 × Int) → Option (List UInt8) := fun (x6, x9) =>
  (bif (decide (x9 < (x0.length : Int))) then
  (joinO (fun (x22 : List UInt8) =>
  k30 (x22, (W (x9 + 1)))) fun j25 =>
  (guardO (0 ≤ x9 ∧ x9 < (x0.length : Int)) <|
  (bindO (M_i_Printable (at' x0 x9)) fun (y12 : Bool) =>
  (bif y12 then
  (bindO (M_i_RuneBytes (at' x0 x9)) fun (y14 : List UInt8) =>
  (guardO (x6.length + y14.length ≤ 536870912) <|
  j25 (x6 ++ y14)))
  else
  j25 x6))))
  else
  j39 x6)

def M_i_EmitRunes (x0 : List Int) : Option (List UInt8) :=
  (joinO (fun (x36 : List UInt8) =>
  some x36) fun j39 =>
  (fixF (M_i_EmitRunes_L1 x0 j39) FUEL (([] : List UInt8), 0)))

theorem ok_i_EmitRunes (x0 : List Int) (a2 : Option Addr) (c3 : Nat) (l4 : Nat) (hl5 : x0.length = l4) (r : List UInt8) (h : M_i_EmitRunes x0 = some r) :
    FC Try.prog 31 [.slice a2 l4 c3] [⟨(.int .i64), ⟨a2, l4, c3⟩, x0⟩] (fun _ : Option Addr × Nat => True) (fun q => .slice q.1 r.length q.2) (fun q => [⟨.byte, ⟨q.1, r.length, q.2⟩, r⟩]) :=
  by
    subst hl5
    refine FC.of (T := TTx) Try.call31 Try.func31 rfl rfl fun w0 => ?_
    unfold M_i_EmitRunes at h
    refine JS.seq (JS.region (JO.reg ttOk 1 [] [] [] _ rfl ⟨trivial, rfl⟩ (JO.done rfl (JS.seq (JS.region (JO.reg ttOk 1 [] [] [(3, .v (.slice none 0 0))] _ rfl ⟨⟨rfl, trivial⟩, rfl⟩ (JO.done rfl (JS.seq (JS.seq (JS.region (JO.reg ttOk 3 [] [] [(6, .v (.slice a2 x0.length c3)), (7, .v (.int .i64 (x0.length : Int))), (8, .v (.int .i64 0))] _ rfl ⟨⟨rfl, rfl, rfl, trivial⟩, rfl⟩ (JO.done rfl ?_))))))))))))
    obtain ⟨j39, hj49, h⟩ := joinO_some h
    refine JS.blockJ (ι := List UInt8 × Option Addr × Nat) ⟨fun z => j39 z.1 = some r, fun z => [(3, .v (.slice z.2.1 z.1.length z.2.2))], fun z => .nil, fun z => [], fun z => [⟨.byte, ⟨z.2.1, z.1.length, z.2.2⟩, z.1⟩], fun z => 0⟩ ?_ ?_
    · refine JS.nilO .byte Sl.nil rfl rfl (JS.loop (ι := Nat × List UInt8 × Int × Option Addr × Nat) ⟨fun z => fixF (M_i_EmitRunes_L1 x0 j39) z.1 (z.2.1, z.2.2.1) = some r, fun z => [(3, .v (.slice z.2.2.2.1 z.2.1.length z.2.2.2.2)), (6, .v (.slice a2 x0.length c3)), (7, .v (.int .i64 (x0.length : Int))), (8, .v (.int .i64 z.2.2.1))], fun z => .nil, fun z => [⟨(.int .i64), ⟨a2, x0.length, c3⟩, x0⟩], fun z => [⟨.byte, ⟨z.2.2.2.1, z.2.1.length, z.2.2.2.2⟩, z.2.1⟩], fun z => z.1⟩ (FUEL, ([] : List UInt8), 0, none, 0) h ⟨rfl, rfl, rfl, rfl, trivial⟩ trivial [0] rfl [0] rfl ?_)
      rintro ⟨n31, x6, x9, a7, c8⟩ h
      obtain ⟨n31, rfl, h⟩ := fixF_some h
      rw [M_i_EmitRunes_L1] at h
      refine JS.seq (JS.region (JO.reg ttOk 1 [] [] [(9, .v (.bool (decide (x9 < (x0.length : Int)))))] _ rfl ⟨⟨rfl, trivial⟩, rfl⟩ (JO.done rfl (JS.seq ?_))))
      refine JS.cond rfl (fun ht48 => ?_) (fun ht48 => ?_)
      · have h := condT h ht48
        refine JS.skip (JS.seq ?_)
        obtain ⟨j25, hj47, h⟩ := joinO_some h
        refine JS.blockJ (ι := List UInt8 × Option Addr × Nat) ⟨fun z => j25 z.1 = some r, fun z => [(3, .v (.slice z.2.1 z.1.length z.2.2)), (6, .v (.slice a2 x0.length c3)), (7, .v (.int .i64 (x0.length : Int))), (8, .v (.int .i64 x9))], fun z => .nil, fun z => [⟨(.int .i64), ⟨a2, x0.length, c3⟩, x0⟩], fun z => [⟨.byte, ⟨z.2.1, z.1.length, z.2.2⟩, z.1⟩], fun z => 0⟩ ?_ ?_
        · refine JS.seq (JS.region (JO.know 0 rfl fun hs45 => ?_))
          obtain ⟨g11, h⟩ := guardO_some h
          refine JO.reg ttOk 1 [] [] [(10, .ep ⟨a2, x0.length, c3⟩ (Int.toNat x9 * 1))] _ rfl ⟨hs45.ix g11, ⟨rfl, trivial⟩, rfl⟩ (JO.load ttOk rfl rfl rfl rfl rfl rfl rfl 0 rfl rfl (Int.toNat x9) 0 (at' x0 x9) ⟨at_some g11, rfl⟩ rfl rfl (JO.reg ttOk 1 [] [] [(5, .v (.int .i64 (at' x0 x9)))] _ rfl ⟨⟨rfl, trivial⟩, rfl⟩ (JO.done rfl (JS.seq (JS.region (JO.reg ttOk 1 [] [] [(12, .v (.int .i64 (at' x0 x9)))] _ rfl ⟨⟨rfl, trivial⟩, rfl⟩ ?_))))))
          obtain ⟨y12, hy13, h⟩ := bindO_some h
          refine JO.call rfl rfl rfl rfl (ok_i_Printable (at' x0 x9) _ hy13) rfl [] rfl rfl fun _ _ => JO.done rfl ?_
          refine JS.cond rfl (fun ht46 => ?_) (fun ht46 => ?_)
          · have h := condT h ht46
            refine JS.region (JO.reg ttOk 2 [] [] [(14, .v (.slice a7 x6.length c8)), (15, .v (.int .i64 (at' x0 x9)))] _ rfl ⟨⟨rfl, rfl, trivial⟩, rfl⟩ ?_)
            obtain ⟨y14, hy15, h⟩ := bindO_some h
            refine JO.call rfl rfl rfl rfl (ok_i_RuneBytes (at' x0 x9) _ hy15) rfl [] rfl rfl ?_
            rintro ⟨a16, c17⟩ -
            obtain ⟨g18, h⟩ := guardO_some h
            refine JO.appendR' ttOk rfl rfl rfl rfl ⟨rfl, rfl, rfl, rfl, trivial, rfl, rfl, rfl, rfl⟩ rfl rfl rfl [1] rfl 1 rfl g18 rfl fun a19 c20 => JO.reg ttOk 1 [] [] [(3, .v (.slice a19 (x6 ++ y14).length c20))] _ rfl ⟨⟨rfl, trivial⟩, rfl⟩ (JO.done rfl (JS.endB (JS.endJ ((x6 ++ y14), a19, c20) h ⟨rfl, rfl, rfl, rfl, trivial⟩ trivial [0] rfl [0] rfl)))
          have h := condF h ht46
          refine JS.skip (JS.endB (JS.endJ (x6, a7, c8) h ⟨rfl, rfl, rfl, rfl, trivial⟩ trivial [0] rfl [0] rfl))
        rintro ⟨x22, a23, c24⟩ h
        subst hj47
        refine JS.region (JO.reg ttOk 2 [(W (x9 + 1))] [] [(8, .v (.int .i64 (W (x9 + 1))))] _ rfl ⟨⟨trivial, rfl⟩, ⟨rfl, trivial⟩, rfl⟩ (JO.done rfl (JS.endL (n31, x22, (W (x9 + 1)), a23, c24) h (Nat.lt_succ_self _) ⟨rfl, rfl, rfl, rfl, trivial⟩ trivial [0] rfl [0] rfl)))
      have h := condF h ht48
      refine JS.exit rfl (JS.endJ (x6, a7, c8) h ⟨rfl, trivial⟩ trivial [] rfl [0] rfl)
    rintro ⟨x36, a37, c38⟩ h
    subst hj49
    refine JS.seq (JS.region (JO.reg ttOk 2 [] [] [(2, .v (.slice a37 x36.length c38))] _ rfl ⟨⟨rfl, trivial⟩, rfl⟩ (JO.done rfl ?_)))
    cases h
    exact JS.ret ttOk (a37, c38) trivial rfl rfl [0] rfl

def M_i_Width_L1 (x0 : Int) (j23 : Unit → Option Int) (k18 : Int → Option Int) : Int → Option Int := fun x8 =>
  (bif (decide (x8 < (([(4352, 4447), (11904, 42191), (44032, 55203), (63744, 64255), (65280, 65376), (65504, 65510), (127744, 129791), (131072, 262141)] : List (Int × Int)).length : Int))) then
  (guardO (0 ≤ x8 ∧ x8 < (([(4352, 4447), (11904, 42191), (44032, 55203), (63744, 64255), (65280, 65376), (65504, 65510), (127744, 129791), (131072, 262141)] : List (Int × Int)).length : Int)) <|
  (bindO (M_i_in x0 ((at' ([(4352, 4447), (11904, 42191), (44032, 55203), (63744, 64255), (65280, 65376), (65504, 65510), (127744, 129791), (131072, 262141)] : List (Int × Int)) x8).1) ((at' ([(4352, 4447), (11904, 42191), (44032, 55203), (63744, 64255), (65280, 65376), (65504, 65510), (127744, 129791), (131072, 262141)] : List (Int × Int)) x8).2)) fun (y11 : Bool) =>
  (bif y11 then
  some 2
  else
  k18 (W (x8 + 1)))))
  else
  j23 ())

def M_i_Width (x0 : Int) : Option Int :=
  (bindO (M_i_Printable x0) fun (y2 : Bool) =>
  (bif (!y2) then
  some 0
  else
  (joinO (fun (_ : Unit) =>
  some 1) fun j23 =>
  (fixF (M_i_Width_L1 x0 j23) FUEL 0))))

theorem ok_i_Width (x0 : Int) (r : Int) (h : M_i_Width x0 = some r) :
    FC Try.prog 18 [.int .i64 x0] [] (fun _ : Unit => True) (fun _ => .int .i64 r) (fun _ => []) :=
  by
    refine FC.of (T := TTx) Try.call18 Try.func18 rfl rfl fun w0 => ?_
    unfold M_i_Width at h
    refine JS.seq (JS.region (JO.reg ttOk 1 [] [] [] _ rfl ⟨trivial, rfl⟩ (JO.done rfl (JS.seq (JS.seq (JS.region (JO.reg ttOk 1 [] [] [(5, .v (.int .i64 x0))] _ rfl ⟨⟨rfl, trivial⟩, rfl⟩ ?_)))))))
    obtain ⟨y2, hy3, h⟩ := bindO_some h
    refine JO.call rfl rfl rfl rfl (ok_i_Printable x0 _ hy3) rfl [] rfl rfl fun _ _ => JO.reg ttOk 1 [] [] [(7, .v (.bool (!y2)))] _ rfl ⟨⟨rfl, trivial⟩, rfl⟩ (JO.done rfl ?_)
    refine JS.cond rfl (fun ht33 => ?_) (fun ht33 => ?_)
    · have h := condT h ht33
      refine JS.seq (JS.region (JO.reg ttOk 1 [] [] [(2, .v (.int .i64 0))] _ rfl ⟨⟨rfl, trivial⟩, rfl⟩ (JO.done rfl ?_)))
      cases h
      exact JS.ret ttOk () trivial rfl rfl [] rfl
    have h := condF h ht33
    refine JS.skip (JS.seq (JS.seq (JS.region (JO.reg ttOk 8 [] [] [(8, .v (.agg #[.int .i64 4352, .int .i64 4447])), (9, .v (.agg #[.int .i64 11904, .int .i64 42191])), (10, .v (.agg #[.int .i64 44032, .int .i64 55203])), (11, .v (.agg #[.int .i64 63744, .int .i64 64255])), (12, .v (.agg #[.int .i64 65280, .int .i64 65376])), (13, .v (.agg #[.int .i64 65504, .int .i64 65510])), (14, .v (.agg #[.int .i64 127744, .int .i64 129791])), (15, .v (.agg #[.int .i64 131072, .int .i64 262141]))] _ rfl ⟨⟨rfl, rfl, rfl, rfl, rfl, rfl, rfl, rfl, trivial⟩, rfl⟩ ?_))))
    refine JO.ofK rfl (JK.buildSlice ttOk rfl rfl rfl rfl rfl rfl rfl rfl rfl rfl rfl [] rfl (.pair (.int .i64) (.int .i64)) [(4352, 4447), (11904, 42191), (44032, 55203), (63744, 64255), (65280, 65376), (65504, 65510), (127744, 129791), (131072, 262141)] ⟨rfl, rfl⟩ rfl rfl fun a4 => JO.toK ?_)
    refine JO.reg ttOk 2 [] [] [(17, .v (.int .i64 (([(4352, 4447), (11904, 42191), (44032, 55203), (63744, 64255), (65280, 65376), (65504, 65510), (127744, 129791), (131072, 262141)] : List (Int × Int)).length : Int))), (18, .v (.int .i64 0))] _ rfl ⟨⟨rfl, rfl, trivial⟩, rfl⟩ (JO.done rfl ?_)
    obtain ⟨j23, hj32, h⟩ := joinO_some h
    refine JS.blockJ (ι := Unit) ⟨fun _ => j23 () = some r, fun _ => [], fun _ => .nil, fun _ => [], fun _ => [], fun _ => 0⟩ ?_ ?_
    · refine JS.loop (ι := Nat × Int) ⟨fun z => fixF (M_i_Width_L1 x0 j23) z.1 z.2 = some r, fun z => [(0, .v (.int .i64 x0)), (16, .v (.slice a4 ([(4352, 4447), (11904, 42191), (44032, 55203), (63744, 64255), (65280, 65376), (65504, 65510), (127744, 129791), (131072, 262141)] : List (Int × Int)).length ([(4352, 4447), (11904, 42191), (44032, 55203), (63744, 64255), (65280, 65376), (65504, 65510), (127744, 129791), (131072, 262141)] : List (Int × Int)).length)), (17, .v (.int .i64 (([(4352, 4447), (11904, 42191), (44032, 55203), (63744, 64255), (65280, 65376), (65504, 65510), (127744, 129791), (131072, 262141)] : List (Int × Int)).length : Int))), (18, .v (.int .i64 z.2))], fun z => .nil, fun z => [], fun z => [⟨(.pair (.int .i64) (.int .i64)), ⟨a4, ([(4352, 4447), (11904, 42191), (44032, 55203), (63744, 64255), (65280, 65376), (65504, 65510), (127744, 129791), (131072, 262141)] : List (Int × Int)).length, ([(4352, 4447), (11904, 42191), (44032, 55203), (63744, 64255), (65280, 65376), (65504, 65510), (127744, 129791), (131072, 262141)] : List (Int × Int)).length⟩, ([(4352, 4447), (11904, 42191), (44032, 55203), (63744, 64255), (65280, 65376), (65504, 65510), (127744, 129791), (131072, 262141)] : List (Int × Int))⟩], fun z => z.1⟩ (FUEL, 0) h ⟨rfl, rfl, rfl, rfl, trivial⟩ trivial [] rfl [0] rfl ?_
      rintro ⟨n19, x8⟩ h
      obtain ⟨n19, rfl, h⟩ := fixF_some h
      rw [M_i_Width_L1] at h
      refine JS.seq (JS.region (JO.reg ttOk 1 [] [] [(19, .v (.bool (decide (x8 < (([(4352, 4447), (11904, 42191), (44032, 55203), (63744, 64255), (65280, 65376), (65504, 65510), (127744, 129791), (131072, 262141)] : List (Int × Int)).length : Int)))))] _ rfl ⟨⟨rfl, trivial⟩, rfl⟩ (JO.done rfl (JS.seq ?_))))
      refine JS.cond rfl (fun ht31 => ?_) (fun ht31 => ?_)
      · have h := condT h ht31
        refine JS.skip (JS.seq (JS.block (JS.seq (JS.region (JO.know 0 rfl fun hs29 => ?_)))))
        obtain ⟨g10, h⟩ := guardO_some h
        refine JO.reg ttOk 1 [] [] [(20, .ep ⟨a4, ([(4352, 4447), (11904, 42191), (44032, 55203), (63744, 64255), (65280, 65376), (65504, 65510), (127744, 129791), (131072, 262141)] : List (Int × Int)).length, ([(4352, 4447), (11904, 42191), (44032, 55203), (63744, 64255), (65280, 65376), (65504, 65510), (127744, 129791), (131072, 262141)] : List (Int × Int)).length⟩ (Int.toNat x8 * 2))] _ rfl ⟨hs29.ix g10, ⟨rfl, trivial⟩, rfl⟩ (JO.loadV ttOk rfl rfl rfl rfl rfl rfl 0 rfl rfl (Int.toNat x8) 0 (at' ([(4352, 4447), (11904, 42191), (44032, 55203), (63744, 64255), (65280, 65376), (65504, 65510), (127744, 129791), (131072, 262141)] : List (Int × Int)) x8) ⟨at_some g10, rfl⟩ rfl rfl rfl (JO.regB ttOk 2 [] [11] [(4, .bp 11 0)] (.new 11 75 [.int .i64 (at' ([(4352, 4447), (11904, 42191), (44032, 55203), (63744, 64255), (65280, 65376), (65504, 65510), (127744, 129791), (131072, 262141)] : List (Int × Int)) x8).1, .int .i64 (at' ([(4352, 4447), (11904, 42191), (44032, 55203), (63744, 64255), (65280, 65376), (65504, 65510), (127744, 129791), (131072, 262141)] : List (Int × Int)) x8).2] .nil) rfl ⟨⟨rfl, trivial⟩, ⟨rfl, rfl, rfl, rfl, trivial⟩⟩ (JO.done rfl (JS.seq (JS.region (JO.reg ttOk 5 [] [] [(22, .v (.int .i64 x0)), (24, .v (.int .i64 (at' ([(4352, 4447), (11904, 42191), (44032, 55203), (63744, 64255), (65280, 65376), (65504, 65510), (127744, 129791), (131072, 262141)] : List (Int × Int)) x8).1)), (26, .v (.int .i64 (at' ([(4352, 4447), (11904, 42191), (44032, 55203), (63744, 64255), (65280, 65376), (65504, 65510), (127744, 129791), (131072, 262141)] : List (Int × Int)) x8).2))] _ rfl ⟨⟨by decide, by decide⟩, ⟨by decide, by decide⟩, ⟨rfl, rfl, rfl, trivial⟩, rfl⟩ ?_))))))
        obtain ⟨y11, hy12, h⟩ := bindO_some h
        refine JO.call rfl rfl rfl rfl (ok_i_in x0 ((at' ([(4352, 4447), (11904, 42191), (44032, 55203), (63744, 64255), (65280, 65376), (65504, 65510), (127744, 129791), (131072, 262141)] : List (Int × Int)) x8).1) ((at' ([(4352, 4447), (11904, 42191), (44032, 55203), (63744, 64255), (65280, 65376), (65504, 65510), (127744, 129791), (131072, 262141)] : List (Int × Int)) x8).2) _ hy12) rfl [] rfl rfl fun _ _ => JO.done rfl ?_
        refine JS.cond rfl (fun ht30 => ?_) (fun ht30 => ?_)
        · have h := condT h ht30
          refine JS.seq (JS.region (JO.reg ttOk 1 [] [] [(2, .v (.int .i64 2))] _ rfl ⟨⟨rfl, trivial⟩, rfl⟩ (JO.done rfl ?_)))
          cases h
          exact JS.ret ttOk () trivial rfl rfl [] rfl
        have h := condF h ht30
        refine JS.skip (JS.endB (JS.region (JO.reg ttOk 2 [(W (x8 + 1))] [] [(18, .v (.int .i64 (W (x8 + 1))))] _ rfl ⟨⟨trivial, rfl⟩, ⟨rfl, trivial⟩, rfl⟩ (JO.done rfl (JS.endL (n19, (W (x8 + 1))) h (Nat.lt_succ_self _) ⟨rfl, rfl, rfl, rfl, trivial⟩ trivial [] rfl [0] rfl)))))
      have h := condF h ht31
      refine JS.exit rfl (JS.endJ () h trivial trivial [] rfl [] rfl)
    rintro _ h
    subst hj32
    refine JS.seq (JS.region (JO.reg ttOk 1 [] [] [(2, .v (.int .i64 1))] _ rfl ⟨⟨rfl, trivial⟩, rfl⟩ (JO.done rfl ?_)))
    cases h
    exact JS.ret ttOk () trivial rfl rfl [] rfl

def M_i_cellOk (x0 : Int × Int × List Int × Int × Int × Bool) (x1 : Int) : Option Bool :=
  (guardO (0 ≤ x1 ∧ x1 < (x0.2.2.1.length : Int)) <|
  (guardO (x0.1 ≠ 0) <|
  (bif (decide ((at' x0.2.2.1 x1) = (-1))) then
  (guardO (((decide (0 < (Int.tmod x1 x0.1))) = true) → 0 ≤ (W (x1 - 1)) ∧ (W (x1 - 1)) < (x0.2.2.1.length : Int)) <|
  (callO ((decide (0 < (Int.tmod x1 x0.1))) = true) (M_i_Width (at' x0.2.2.1 (W (x1 - 1)))) (0 : Int) fun (y15 : Int) =>
  some (bif (decide (0 < (Int.tmod x1 x0.1))) then (decide (y15 = 2)) else false)))
  else
  (bindO (M_i_Width (at' x0.2.2.1 x1)) fun (y18 : Int) =>
  (bif (decide (y18 = 2)) then
  (guardO (((decide ((W ((Int.tmod x1 x0.1) + 1)) < x0.1)) = true) → 0 ≤ (W (x1 + 1)) ∧ (W (x1 + 1)) < (x0.2.2.1.length : Int)) <|
  some (bif (decide ((W ((Int.tmod x1 x0.1) + 1)) < x0.1)) then (decide ((at' x0.2.2.1 (W (x1 + 1))) = (-1))) else false))
  else
  (bindO (M_i_Width (at' x0.2.2.1 x1)) fun (y24 : Int) =>
  some (decide (y24 = 1))))))))

theorem ok_i_cellOk (x0 : Int × Int × List Int × Int × Int × Bool) (x1 : Int) (a3 : Option Addr) (c4 : Nat) (l5 : Nat) (hl6 : x0.2.2.1.length = l5) (r : Bool) (h : M_i_cellOk x0 x1 = some r) :
    FC Try.prog 65 [.agg #[.int .i64 x0.1, .int .i64 x0.2.1, .slice a3 l5 c4, .int .i64 x0.2.2.2.1, .int .i64 x0.2.2.2.2.1, .bool x0.2.2.2.2.2], .int .i64 x1] [⟨(.int .i64), ⟨a3, l5, c4⟩, x0.2.2.1⟩] (fun _ : Unit => True) (fun _ => .bool r) (fun _ => []) :=
  by
    subst hl6
    refine FC.of (T := TTx) Try.call65 Try.func65 rfl rfl fun w0 => ?_
    unfold M_i_cellOk at h
    refine JS.seq (JS.region (JO.regB ttOk 2 [] [2] [(2, .bp 2 0)] (.new 2 26 (cl26 x0 a3 c4) .nil) rfl ⟨⟨rfl, trivial⟩, ⟨rfl, rfl, rfl, rfl, trivial⟩⟩ (JO.done rfl (JS.seq ?_))))
    obtain ⟨g8, h⟩ := guardO_some h
    obtain ⟨g9, h⟩ := guardO_some h
    refine JS.know 0 rfl fun hs29 => JS.regionQ rfl (by kernel_rfl) (JQ.reg ttOk 4 [] [(10, .ep ⟨a3, x0.2.2.1.length, c4⟩ (Int.toNat x1 * 1))] rfl ⟨hs29.ix g8, ⟨rfl, trivial⟩⟩ (JQ.load ttOk rfl rfl rfl rfl rfl rfl rfl 0 rfl rfl (Int.toNat x1) 0 (at' x0.2.2.1 x1) ⟨at_some g8, rfl⟩ rfl rfl (JQ.reg ttOk 6 [] [(5, .v (.int .i64 (at' x0.2.2.1 x1))), (6, .v (.int .i64 (Int.tmod x1 x0.1)))] rfl ⟨g9, ⟨rfl, rfl, trivial⟩⟩ (JQ.done rfl (JS.seq (JS.block (JS.seq (JS.region (JO.reg ttOk 3 [] [] [(16, .v (.bool (decide ((at' x0.2.2.1 x1) = (-1)))))] _ rfl ⟨⟨rfl, trivial⟩, rfl⟩ (JO.done rfl ?_))))))))))
    refine JS.cond rfl (fun ht38 => ?_) (fun ht38 => ?_)
    · have h := condT h ht38
      refine JS.seq (JS.region ?_)
      obtain ⟨g12, h⟩ := guardO_some h
      refine JO.reg ttOk 8 [(W (x1 - 1))] [] [(21, .v (.bool (decide (0 < (Int.tmod x1 x0.1))))), (26, .cd [(21, true)] (.ep ⟨a3, x0.2.2.1.length, c4⟩ (Int.toNat (W (x1 - 1)) * 1)))] _ rfl ⟨(fun q30 => ⟨trivial, rfl⟩), (fun q31 => hs29.ix (g12 q31)), ⟨rfl, rfl, trivial⟩, rfl⟩ (JO.load ttOk rfl rfl rfl rfl rfl rfl rfl 0 rfl rfl (Int.toNat (W (x1 - 1))) 0 (at' x0.2.2.1 (W (x1 - 1))) (fun q32 => ⟨at_some (g12 q32), rfl⟩) rfl rfl ?_)
      obtain ⟨y15, hy16, -, h⟩ := callO_some h
      refine JO.callg rfl rfl rfl rfl (fun q33 => ok_i_Width (at' x0.2.2.1 (W (x1 - 1))) _ (hy16 q33)) rfl [] rfl rfl (JO.reg ttOk 3 [] [] [(4, .v (.bool (bif (decide (0 < (Int.tmod x1 x0.1))) then (decide (y15 = 2)) else false)))] _ rfl ⟨⟨rfl, trivial⟩, rfl⟩ (JO.done rfl ?_))
      cases h
      exact JS.ret ttOk () trivial rfl rfl [] rfl
    have h := condF h ht38
    refine JS.seq (JS.region (JO.reg ttOk 1 [] [] [(32, .v (.int .i64 (at' x0.2.2.1 x1)))] _ rfl ⟨⟨rfl, trivial⟩, rfl⟩ ?_))
    obtain ⟨y18, hy19, h⟩ := bindO_some h
    refine JO.call rfl rfl rfl rfl (ok_i_Width (at' x0.2.2.1 x1) _ hy19) rfl [] rfl rfl fun _ _ => JO.reg ttOk 2 [] [] [(31, .v (.bool (decide (y18 = 2))))] _ rfl ⟨⟨rfl, trivial⟩, rfl⟩ (JO.done rfl ?_)
    refine JS.cond rfl (fun ht37 => ?_) (fun ht37 => ?_)
    · have h := condT h ht37
      refine JS.seq (JS.region ?_)
      obtain ⟨g21, h⟩ := guardO_some h
      refine JO.reg ttOk 11 [(W ((Int.tmod x1 x0.1) + 1)), (W (x1 + 1))] [] [(40, .v (.bool (decide ((W ((Int.tmod x1 x0.1) + 1)) < x0.1)))), (45, .cd [(40, true)] (.ep ⟨a3, x0.2.2.1.length, c4⟩ (Int.toNat (W (x1 + 1)) * 1)))] _ rfl ⟨⟨trivial, rfl⟩, (fun q34 => ⟨trivial, rfl⟩), (fun q35 => hs29.ix (g21 q35)), ⟨rfl, rfl, trivial⟩, rfl⟩ (JO.load ttOk rfl rfl rfl rfl rfl rfl rfl 0 rfl rfl (Int.toNat (W (x1 + 1))) 0 (at' x0.2.2.1 (W (x1 + 1))) (fun q36 => ⟨at_some (g21 q36), rfl⟩) rfl rfl (JO.reg ttOk 3 [] [] [(4, .v (.bool (bif (decide ((W ((Int.tmod x1 x0.1) + 1)) < x0.1)) then (decide ((at' x0.2.2.1 (W (x1 + 1))) = (-1))) else false)))] _ rfl ⟨⟨rfl, trivial⟩, rfl⟩ (JO.done rfl ?_)))
      cases h
      exact JS.ret ttOk () trivial rfl rfl [] rfl
    have h := condF h ht37
    refine JS.skip (JS.endB (JS.seq (JS.region (JO.reg ttOk 1 [] [] [(49, .v (.int .i64 (at' x0.2.2.1 x1)))] _ rfl ⟨⟨rfl, trivial⟩, rfl⟩ ?_))))
    obtain ⟨y24, hy25, h⟩ := bindO_some h
    refine JO.call rfl rfl rfl rfl (ok_i_Width (at' x0.2.2.1 x1) _ hy25) rfl [] rfl rfl fun _ _ => JO.reg ttOk 2 [] [] [(4, .v (.bool (decide (y24 = 1))))] _ rfl ⟨⟨rfl, trivial⟩, rfl⟩ (JO.done rfl ?_)
    cases h
    exact JS.ret ttOk () trivial rfl rfl [] rfl

def M_i_GridOk_L1 (x0 : Int × Int × List Int × Int × Int × Bool) (j40 : Unit → Option Bool) (k36 : Int → Option Bool) : Int → Option Bool := fun x21 =>
  (bif (decide (x21 < (x0.2.2.1.length : Int))) then
  (bindO (M_i_cellOk x0 x21) fun (y30 : Bool) =>
  (bif (!y30) then
  some false
  else
  k36 (W (x21 + 1))))
  else
  j40 ())

def M_i_GridOk (x0 : Int × Int × List Int × Int × Int × Bool) : Option Bool :=
  (bindO (M_i_in x0.1 2 200) fun (y6 : Bool) =>
  (callO ((!y6) = false) (M_i_in x0.2.1 1 200) false fun (y8 : Bool) =>
  (bif (bif (bif (bif (!y6) then true else (!y8)) then true else (decide (8000 < (W (x0.1 * x0.2.1))))) then true else (!(decide ((x0.2.2.1.length : Int) = (W (x0.1 * x0.2.1)))))) then
  some false
  else
  (bindO (M_i_in x0.2.2.2.1 0 (W (x0.1 - 1))) fun (y13 : Bool) =>
  (callO ((!y13) = false) (M_i_in x0.2.2.2.2.1 0 (W (x0.2.1 - 1))) false fun (y16 : Bool) =>
  (bif (bif (bif (!y13) then true else (!y16)) then true else (bif x0.2.2.2.2.2 then (!(decide (x0.2.2.2.1 = (W (x0.1 - 1))))) else false)) then
  some false
  else
  (joinO (fun (_ : Unit) =>
  some true) fun j40 =>
  (fixF (M_i_GridOk_L1 x0 j40) FUEL 0))))))))

theorem ok_i_GridOk (x0 : Int × Int × List Int × Int × Int × Bool) (a2 : Option Addr) (c3 : Nat) (l4 : Nat) (hl5 : x0.2.2.1.length = l4) (r : Bool) (h : M_i_GridOk x0 = some r) :
    FC Try.prog 20 [.agg #[.int .i64 x0.1, .int .i64 x0.2.1, .slice a2 l4 c3, .int .i64 x0.2.2.2.1, .int .i64 x0.2.2.2.2.1, .bool x0.2.2.2.2.2]] [⟨(.int .i64), ⟨a2, l4, c3⟩, x0.2.2.1⟩] (fun _ : Unit => True) (fun _ => .bool r) (fun _ => []) :=
  by
    subst hl5
    refine FC.of (T := TTx) Try.call20 Try.func20 rfl rfl fun w0 => ?_
    unfold M_i_GridOk at h
    refine JS.seq (JS.region (JO.regB ttOk 2 [] [2] [(1, .bp 2 0)] (.new 2 26 (cl26 x0 a2 c3) .nil) rfl ⟨⟨rfl, trivial⟩, ⟨rfl, rfl, rfl, rfl, trivial⟩⟩ (JO.done rfl (JS.seq (JS.seq (JS.region (JO.reg ttOk 2 [] [] [(5, .v (.int .i64 x0.1))] _ rfl ⟨⟨rfl, trivial⟩, rfl⟩ ?_)))))))
    obtain ⟨y6, hy7, h⟩ := bindO_some h
    refine JO.call rfl rfl rfl rfl (ok_i_in x0.1 2 200 _ hy7) rfl [] rfl rfl fun _ _ => JO.reg ttOk 4 [] [] [(8, .v (.bool (!y6))), (10, .cd [(8, false)] (.v (.int .i64 x0.2.1)))] _ rfl ⟨⟨rfl, rfl, trivial⟩, rfl⟩ ?_
    obtain ⟨y8, hy9, -, h⟩ := callO_some h
    refine JO.callg rfl rfl rfl rfl (fun q46 => ok_i_in x0.2.1 1 200 _ (hy9 q46)) rfl [] rfl rfl (JO.reg ttOk 21 [(W (x0.1 * x0.2.1)), (W (x0.1 * x0.2.1))] [] [(32, .v (.bool (bif (bif (bif (!y6) then true else (!y8)) then true else (decide (8000 < (W (x0.1 * x0.2.1))))) then true else (!(decide ((x0.2.2.1.length : Int) = (W (x0.1 * x0.2.1))))))))] _ rfl ⟨(fun q47 => ⟨trivial, rfl⟩), (fun q48 => ⟨trivial, rfl⟩), ⟨rfl, trivial⟩, rfl⟩ (JO.done rfl ?_))
    refine JS.cond rfl (fun ht57 => ?_) (fun ht57 => ?_)
    · have h := condT h ht57
      refine JS.seq (JS.region (JO.reg ttOk 1 [] [] [(2, .v (.bool false))] _ rfl ⟨⟨rfl, trivial⟩, rfl⟩ (JO.done rfl ?_)))
      cases h
      exact JS.ret ttOk () trivial rfl rfl [] rfl
    have h := condF h ht57
    refine JS.skip (JS.seq (JS.seq (JS.region (JO.reg ttOk 5 [(W (x0.1 - 1))] [] [(34, .v (.int .i64 x0.2.2.2.1)), (37, .v (.int .i64 (W (x0.1 - 1))))] _ rfl ⟨⟨trivial, rfl⟩, ⟨rfl, rfl, trivial⟩, rfl⟩ ?_))))
    obtain ⟨y13, hy14, h⟩ := bindO_some h
    refine JO.call rfl rfl rfl rfl (ok_i_in x0.2.2.2.1 0 (W (x0.1 - 1)) _ hy14) rfl [] rfl rfl fun _ _ => JO.reg ttOk 7 [(W (x0.2.1 - 1))] [] [(40, .v (.bool (!y13))), (42, .cd [(40, false)] (.v (.int .i64 x0.2.2.2.2.1))), (45, .cd [(40, false)] (.v (.int .i64 (W (x0.2.1 - 1)))))] _ rfl ⟨(fun q49 => ⟨trivial, rfl⟩), ⟨rfl, rfl, rfl, trivial⟩, rfl⟩ ?_
    obtain ⟨y16, hy17, -, h⟩ := callO_some h
    refine JO.callg rfl rfl rfl rfl (fun q50 => ok_i_in x0.2.2.2.2.1 0 (W (x0.2.1 - 1)) _ (hy17 q50)) rfl [] rfl rfl (JO.reg ttOk 14 [(W (x0.1 - 1))] [] [(60, .v (.bool (bif (bif (!y13) then true else (!y16)) then true else (bif x0.2.2.2.2.2 then (!(decide (x0.2.2.2.1 = (W (x0.1 - 1))))) else false))))] _ rfl ⟨(fun q51 q52 => ⟨trivial, rfl⟩), ⟨rfl, trivial⟩, rfl⟩ (JO.done rfl ?_))
    refine JS.cond rfl (fun ht56 => ?_) (fun ht56 => ?_)
    · have h := condT h ht56
      refine JS.seq (JS.region (JO.reg ttOk 1 [] [] [(2, .v (.bool false))] _ rfl ⟨⟨rfl, trivial⟩, rfl⟩ (JO.done rfl ?_)))
      cases h
      exact JS.ret ttOk () trivial rfl rfl [] rfl
    have h := condF h ht56
    refine JS.skip (JS.seq (JS.seq (JS.region (JO.reg ttOk 4 [] [] [(63, .v (.int .i64 (x0.2.2.1.length : Int))), (64, .v (.int .i64 0))] _ rfl ⟨⟨rfl, rfl, trivial⟩, rfl⟩ (JO.done rfl ?_)))))
    obtain ⟨j40, hj55, h⟩ := joinO_some h
    refine JS.blockJ (ι := Unit) ⟨fun _ => j40 () = some r, fun _ => [], fun _ => .nil, fun _ => [], fun _ => [], fun _ => 0⟩ ?_ ?_
    · refine JS.loop (ι := Nat × Int) ⟨fun z => fixF (M_i_GridOk_L1 x0 j40) z.1 z.2 = some r, fun z => [(1, .bp 2 0), (63, .v (.int .i64 (x0.2.2.1.length : Int))), (64, .v (.int .i64 z.2))], fun z => (.new 2 26 (cl26 x0 a2 c3) .nil), fun z => [⟨(.int .i64), ⟨a2, x0.2.2.1.length, c3⟩, x0.2.2.1⟩], fun z => [], fun z => z.1⟩ (FUEL, 0) h ⟨rfl, rfl, rfl, trivial⟩ ⟨rfl, rfl, rfl, rfl, trivial⟩ [0] rfl [] rfl ?_
      rintro ⟨n37, x21⟩ h
      obtain ⟨n37, rfl, h⟩ := fixF_some h
      rw [M_i_GridOk_L1] at h
      refine JS.seq (JS.region (JO.reg ttOk 1 [] [] [(65, .v (.bool (decide (x21 < (x0.2.2.1.length : Int)))))] _ rfl ⟨⟨rfl, trivial⟩, rfl⟩ (JO.done rfl (JS.seq ?_))))
      refine JS.cond rfl (fun ht54 => ?_) (fun ht54 => ?_)
      · have h := condT h ht54
        refine JS.skip (JS.seq (JS.block (JS.seq (JS.region (JO.reg ttOk 2 [] [] [(3, .v (.int .i64 x21))] _ rfl ⟨⟨rfl, trivial⟩, rfl⟩ (JO.done rfl (JS.seq (JS.region (JO.reg ttOk 2 [] [] [(67, .v (.agg (cl26 x0 a2 c3).toArray)), (68, .v (.int .i64 x21))] _ rfl ⟨⟨rfl, rfl, trivial⟩, rfl⟩ ?_)))))))))
        obtain ⟨y30, hy31, h⟩ := bindO_some h
        refine JO.call rfl rfl rfl rfl (ok_i_cellOk x0 x21 a2 c3 x0.2.2.1.length rfl _ hy31) rfl [0] rfl rfl fun _ _ => JO.reg ttOk 1 [] [] [(70, .v (.bool (!y30)))] _ rfl ⟨⟨rfl, trivial⟩, rfl⟩ (JO.done rfl ?_)
        refine JS.cond rfl (fun ht53 => ?_) (fun ht53 => ?_)
        · have h := condT h ht53
          refine JS.seq (JS.region (JO.reg ttOk 1 [] [] [(2, .v (.bool false))] _ rfl ⟨⟨rfl, trivial⟩, rfl⟩ (JO.done rfl ?_)))
          cases h
          exact JS.ret ttOk () trivial rfl rfl [] rfl
        have h := condF h ht53
        refine JS.skip (JS.endB (JS.region (JO.reg ttOk 2 [(W (x21 + 1))] [] [(64, .v (.int .i64 (W (x21 + 1))))] _ rfl ⟨⟨trivial, rfl⟩, ⟨rfl, trivial⟩, rfl⟩ (JO.done rfl (JS.endL (n37, (W (x21 + 1))) h (Nat.lt_succ_self _) ⟨rfl, rfl, rfl, trivial⟩ ⟨rfl, rfl, rfl, rfl, trivial⟩ [0] rfl [] rfl)))))
      have h := condF h ht54
      refine JS.exit rfl (JS.endJ () h trivial trivial [] rfl [] rfl)
    rintro _ h
    subst hj55
    refine JS.seq (JS.region (JO.reg ttOk 1 [] [] [(2, .v (.bool true))] _ rfl ⟨⟨rfl, trivial⟩, rfl⟩ (JO.done rfl ?_)))
    cases h
    exact JS.ret ttOk () trivial rfl rfl [] rfl

def M_i_RuneBegin_L1 (x0 : List UInt8) (x20 : Int) (j54 : (Int × Int) → Option Bool) (k45 : (Int × Int × Int) → Option Bool) : (Int × Int × Int) → Option Bool := fun (x26, x27, x28) =>
  (bif (decide (x28 < x20)) then
  (joinO (fun ((x37, x38) : Int × Int) =>
  k45 (x37, x38, (W (x28 + 1)))) fun j39 =>
  (bif (decide (x28 < (x0.length : Int))) then
  (guardO (0 ≤ x28 ∧ x28 < (x0.length : Int)) <|
  (bindO (M_i_in ((at' x0 x28).toNat : Int) 128 191) fun (y31 : Bool) =>
  (bif (!y31) then
  some false
  else
  (guardO (0 ≤ x28 ∧ x28 < (x0.length : Int)) <|
  (guardO (0 ≤ x28 ∧ x28 < (x0.length : Int)) <|
  j39 ((W ((W ((W (x26 * 64)) + ((at' x0 x28).toNat : Int))) - 128)), (W ((W ((W (x27 * 64)) + ((at' x0 x28).toNat : Int))) - 128))))))))
  else
  j39 ((W (x26 * 64)), (W ((W (x27 * 64)) + 63)))))
  else
  j54 (x26, x27))

def M_i_RuneBegin (x0 : List UInt8) : Option Bool :=
  (bindO (M_i_in (x0.length : Int) 1 3) fun (y6 : Bool) =>
  (bif (!y6) then
  some false
  else
  (guardO (0 ≤ (0 : Int) ∧ 0 < (x0.length : Int)) <|
  (joinO (fun ((x20, x21) : Int × Int) =>
  (bif (decide (x20 ≤ (x0.length : Int))) then
  some false
  else
  (joinO (fun ((x52, x53) : Int × Int) =>
  (guardO (0 ≤ x20 ∧ x20 < (([0, 0, 128, 2048, 65536] : List Int).length : Int)) <|
  some (bif (decide ((max x52 (at' ([0, 0, 128, 2048, 65536] : List Int) x20)) ≤ (min x53 1114111))) then (!(bif (decide (55296 ≤ (max x52 (at' ([0, 0, 128, 2048, 65536] : List Int) x20)))) then (decide ((min x53 1114111) ≤ 57343)) else false)) else false))) fun j54 =>
  (fixF (M_i_RuneBegin_L1 x0 x20 j54) FUEL (x21, x21, 1))))) fun j22 =>
  (bindO (M_i_in ((at' x0 0).toNat : Int) 192 223) fun (y11 : Bool) =>
  (bif y11 then
  j22 (2, (W (((at' x0 0).toNat : Int) - 192)))
  else
  (bindO (M_i_in ((at' x0 0).toNat : Int) 224 239) fun (y13 : Bool) =>
  (bif y13 then
  j22 (3, (W (((at' x0 0).toNat : Int) - 224)))
  else
  (bindO (M_i_in ((at' x0 0).toNat : Int) 240 247) fun (y15 : Bool) =>
  (bif y15 then
  j22 (4, (W (((at' x0 0).toNat : Int) - 240)))
  else
  j22 (0, ((at' x0 0).toNat : Int))))))))))))

theorem ok_i_RuneBegin (x0 : List UInt8) (a2 : Option Addr) (c3 : Nat) (l4 : Nat) (hl5 : x0.length = l4) (r : Bool) (h : M_i_RuneBegin x0 = some r) :
    FC Try.prog 73 [.slice a2 l4 c3] [⟨.byte, ⟨a2, l4, c3⟩, x0⟩] (fun _ : Unit => True) (fun _ => .bool r) (fun _ => []) :=
  by
    subst hl5
    refine FC.of (T := TTx) Try.call73 Try.func73 rfl rfl fun w0 => ?_
    unfold M_i_RuneBegin at h
    refine JS.seq (JS.region (JO.reg ttOk 1 [] [] [] _ rfl ⟨trivial, rfl⟩ (JO.done rfl (JS.seq (JS.seq (JS.region (JO.reg ttOk 2 [] [] [(10, .v (.int .i64 (x0.length : Int)))] _ rfl ⟨⟨rfl, trivial⟩, rfl⟩ ?_)))))))
    obtain ⟨y6, hy7, h⟩ := bindO_some h
    refine JO.call rfl rfl rfl rfl (ok_i_in (x0.length : Int) 1 3 _ hy7) rfl [] rfl rfl fun _ _ => JO.reg ttOk 1 [] [] [(12, .v (.bool (!y6)))] _ rfl ⟨⟨rfl, trivial⟩, rfl⟩ (JO.done rfl ?_)
    refine JS.cond rfl (fun ht81 => ?_) (fun ht81 => ?_)
    · have h := condT h ht81
      refine JS.seq (JS.region (JO.reg ttOk 1 [] [] [(2, .v (.bool false))] _ rfl ⟨⟨rfl, trivial⟩, rfl⟩ (JO.done rfl ?_)))
      cases h
      exact JS.ret ttOk () trivial rfl rfl [] rfl
    have h := condF h ht81
    refine JS.skip (JS.seq ?_)
    obtain ⟨g9, h⟩ := guardO_some h
    refine JS.know 0 rfl fun hs68 => JS.regionQ rfl (by kernel_rfl) (JQ.reg ttOk 2 [] [(14, .ep ⟨a2, x0.length, c3⟩ (Int.toNat 0 * 1))] rfl ⟨hs68.ix g9, ⟨rfl, trivial⟩⟩ (JQ.load ttOk rfl rfl rfl rfl rfl rfl rfl 0 rfl rfl (Int.toNat 0) 0 (at' x0 0) ⟨at_some g9, rfl⟩ rfl rfl (JQ.reg ttOk 3 [((at' x0 0).toNat : Int)] [(3, .v (.int .i64 0)), (4, .v (.int .i64 ((at' x0 0).toNat : Int)))] rfl ⟨⟨trivial, W_byte _⟩, ⟨rfl, rfl, trivial⟩⟩ (JQ.done rfl (JS.seq ?_)))))
    obtain ⟨j22, hj80, h⟩ := joinO_some h
    refine JS.blockJ (ι := Int × Int) ⟨fun z => j22 (z.1, z.2) = some r, fun z => [(0, .v (.slice a2 x0.length c3)), (3, .v (.int .i64 z.1)), (4, .v (.int .i64 z.2))], fun z => .nil, fun z => [⟨.byte, ⟨a2, x0.length, c3⟩, x0⟩], fun z => [], fun z => 0⟩ ?_ ?_
    · refine JS.seq (JS.region (JO.reg ttOk 1 [] [] [(18, .v (.int .i64 ((at' x0 0).toNat : Int)))] _ rfl ⟨⟨rfl, trivial⟩, rfl⟩ ?_))
      obtain ⟨y11, hy12, h⟩ := bindO_some h
      refine JO.call rfl rfl rfl rfl (ok_i_in ((at' x0 0).toNat : Int) 192 223 _ hy12) rfl [] rfl rfl fun _ _ => JO.reg ttOk 1 [] [] [(17, .v (.bool y11))] _ rfl ⟨⟨rfl, trivial⟩, rfl⟩ (JO.done rfl ?_)
      refine JS.cond rfl (fun ht71 => ?_) (fun ht71 => ?_)
      · have h := condT h ht71
        refine JS.region (JO.reg ttOk 4 [(W (((at' x0 0).toNat : Int) - 192))] [] [(3, .v (.int .i64 2)), (4, .v (.int .i64 (W (((at' x0 0).toNat : Int) - 192))))] _ rfl ⟨⟨trivial, rfl⟩, ⟨rfl, rfl, trivial⟩, rfl⟩ (JO.done rfl (JS.endB (JS.endJ (2, (W (((at' x0 0).toNat : Int) - 192))) h ⟨rfl, rfl, rfl, trivial⟩ trivial [0] rfl [] rfl))))
      have h := condF h ht71
      refine JS.seq (JS.region (JO.reg ttOk 1 [] [] [(23, .v (.int .i64 ((at' x0 0).toNat : Int)))] _ rfl ⟨⟨rfl, trivial⟩, rfl⟩ ?_))
      obtain ⟨y13, hy14, h⟩ := bindO_some h
      refine JO.call rfl rfl rfl rfl (ok_i_in ((at' x0 0).toNat : Int) 224 239 _ hy14) rfl [] rfl rfl fun _ _ => JO.reg ttOk 1 [] [] [(22, .v (.bool y13))] _ rfl ⟨⟨rfl, trivial⟩, rfl⟩ (JO.done rfl ?_)
      refine JS.cond rfl (fun ht70 => ?_) (fun ht70 => ?_)
      · have h := condT h ht70
        refine JS.region (JO.reg ttOk 4 [(W (((at' x0 0).toNat : Int) - 224))] [] [(3, .v (.int .i64 3)), (4, .v (.int .i64 (W (((at' x0 0).toNat : Int) - 224))))] _ rfl ⟨⟨trivial, rfl⟩, ⟨rfl, rfl, trivial⟩, rfl⟩ (JO.done rfl (JS.endB (JS.endJ (3, (W (((at' x0 0).toNat : Int) - 224))) h ⟨rfl, rfl, rfl, trivial⟩ trivial [0] rfl [] rfl))))
      have h := condF h ht70
      refine JS.seq (JS.region (JO.reg ttOk 1 [] [] [(28, .v (.int .i64 ((at' x0 0).toNat : Int)))] _ rfl ⟨⟨rfl, trivial⟩, rfl⟩ ?_))
      obtain ⟨y15, hy16, h⟩ := bindO_some h
      refine JO.call rfl rfl rfl rfl (ok_i_in ((at' x0 0).toNat : Int) 240 247 _ hy16) rfl [] rfl rfl fun _ _ => JO.reg ttOk 1 [] [] [(27, .v (.bool y15))] _ rfl ⟨⟨rfl, trivial⟩, rfl⟩ (JO.done rfl ?_)
      refine JS.cond rfl (fun ht69 => ?_) (fun ht69 => ?_)
      · have h := condT h ht69
        refine JS.region (JO.reg ttOk 4 [(W (((at' x0 0).toNat : Int) - 240))] [] [(3, .v (.int .i64 4)), (4, .v (.int .i64 (W (((at' x0 0).toNat : Int) - 240))))] _ rfl ⟨⟨trivial, rfl⟩, ⟨rfl, rfl, trivial⟩, rfl⟩ (JO.done rfl (JS.endB (JS.endJ (4, (W (((at' x0 0).toNat : Int) - 240))) h ⟨rfl, rfl, rfl, trivial⟩ trivial [0] rfl [] rfl))))
      have h := condF h ht69
      refine JS.skip (JS.endB (JS.endJ (0, ((at' x0 0).toNat : Int)) h ⟨rfl, rfl, rfl, trivial⟩ trivial [0] rfl [] rfl))
    rintro ⟨x20, x21⟩ h
    subst hj80
    refine JS.seq (JS.seq (JS.region (JO.reg ttOk 4 [] [] [(35, .v (.bool (decide (x20 ≤ (x0.length : Int)))))] _ rfl ⟨⟨rfl, trivial⟩, rfl⟩ (JO.done rfl ?_))))
    refine JS.cond rfl (fun ht79 => ?_) (fun ht79 => ?_)
    · have h := condT h ht79
      refine JS.seq (JS.region (JO.reg ttOk 1 [] [] [(2, .v (.bool false))] _ rfl ⟨⟨rfl, trivial⟩, rfl⟩ (JO.done rfl ?_)))
      cases h
      exact JS.ret ttOk () trivial rfl rfl [] rfl
    have h := condF h ht79
    refine JS.skip (JS.seq (JS.region (JO.reg ttOk 4 [] [] [(5, .v (.int .i64 x21)), (6, .v (.int .i64 x21))] _ rfl ⟨⟨rfl, rfl, trivial⟩, rfl⟩ (JO.done rfl (JS.seq (JS.seq (JS.region (JO.reg ttOk 1 [] [] [(7, .v (.int .i64 1))] _ rfl ⟨⟨rfl, trivial⟩, rfl⟩ (JO.done rfl ?_)))))))))
    obtain ⟨j54, hj78, h⟩ := joinO_some h
    refine JS.blockJ (ι := Int × Int) ⟨fun z => j54 (z.1, z.2) = some r, fun z => [(3, .v (.int .i64 x20)), (5, .v (.int .i64 z.1)), (6, .v (.int .i64 z.2))], fun z => .nil, fun z => [], fun z => [], fun z => 0⟩ ?_ ?_
    · refine JS.loop (ι := Nat × Int × Int × Int) ⟨fun z => fixF (M_i_RuneBegin_L1 x0 x20 j54) z.1 (z.2.1, z.2.2.1, z.2.2.2) = some r, fun z => [(0, .v (.slice a2 x0.length c3)), (3, .v (.int .i64 x20)), (5, .v (.int .i64 z.2.1)), (6, .v (.int .i64 z.2.2.1)), (7, .v (.int .i64 z.2.2.2))], fun z => .nil, fun z => [⟨.byte, ⟨a2, x0.length, c3⟩, x0⟩], fun z => [], fun z => z.1⟩ (FUEL, x21, x21, 1) h ⟨rfl, rfl, rfl, rfl, rfl, trivial⟩ trivial [0] rfl [] rfl ?_
      rintro ⟨n46, x26, x27, x28⟩ h
      obtain ⟨n46, rfl, h⟩ := fixF_some h
      rw [M_i_RuneBegin_L1] at h
      refine JS.seq (JS.seq (JS.region (JO.reg ttOk 3 [] [] [(40, .v (.bool (decide (x28 < x20))))] _ rfl ⟨⟨rfl, trivial⟩, rfl⟩ (JO.done rfl ?_))))
      refine JS.cond rfl (fun ht76 => ?_) (fun ht76 => ?_)
      · have h := condT h ht76
        refine JS.skip (JS.seq ?_)
        obtain ⟨j39, hj75, h⟩ := joinO_some h
        refine JS.blockJ (ι := Int × Int) ⟨fun z => j39 (z.1, z.2) = some r, fun z => [(0, .v (.slice a2 x0.length c3)), (3, .v (.int .i64 x20)), (5, .v (.int .i64 z.1)), (6, .v (.int .i64 z.2)), (7, .v (.int .i64 x28))], fun z => .nil, fun z => [⟨.byte, ⟨a2, x0.length, c3⟩, x0⟩], fun z => [], fun z => 0⟩ ?_ ?_
        · refine JS.seq (JS.region (JO.reg ttOk 4 [] [] [(46, .v (.bool (decide (x28 < (x0.length : Int)))))] _ rfl ⟨⟨rfl, trivial⟩, rfl⟩ (JO.done rfl ?_)))
          refine JS.cond rfl (fun ht74 => ?_) (fun ht74 => ?_)
          · have h := condT h ht74
            refine JS.seq (JS.seq (JS.region (JO.know 0 rfl fun hs72 => ?_)))
            obtain ⟨g30, h⟩ := guardO_some h
            refine JO.reg ttOk 3 [] [] [(49, .ep ⟨a2, x0.length, c3⟩ (Int.toNat x28 * 1))] _ rfl ⟨hs72.ix g30, ⟨rfl, trivial⟩, rfl⟩ (JO.load ttOk rfl rfl rfl rfl rfl rfl rfl 0 rfl rfl (Int.toNat x28) 0 (at' x0 x28) ⟨at_some g30, rfl⟩ rfl rfl (JO.reg ttOk 1 [((at' x0 x28).toNat : Int)] [] [(51, .v (.int .i64 ((at' x0 x28).toNat : Int)))] _ rfl ⟨⟨trivial, W_byte _⟩, ⟨rfl, trivial⟩, rfl⟩ ?_))
            obtain ⟨y31, hy32, h⟩ := bindO_some h
            refine JO.call rfl rfl rfl rfl (ok_i_in ((at' x0 x28).toNat : Int) 128 191 _ hy32) rfl [] rfl rfl fun _ _ => JO.reg ttOk 1 [] [] [(53, .v (.bool (!y31)))] _ rfl ⟨⟨rfl, trivial⟩, rfl⟩ (JO.done rfl ?_)
            refine JS.cond rfl (fun ht73 => ?_) (fun ht73 => ?_)
            · have h := condT h ht73
              refine JS.seq (JS.region (JO.reg ttOk 1 [] [] [(2, .v (.bool false))] _ rfl ⟨⟨rfl, trivial⟩, rfl⟩ (JO.done rfl ?_)))
              cases h
              exact JS.ret ttOk () trivial rfl rfl [] rfl
            have h := condF h ht73
            refine JS.skip ?_
            obtain ⟨g33, h⟩ := guardO_some h
            obtain ⟨g34, h⟩ := guardO_some h
            refine JS.regionQ rfl (by kernel_rfl) (JQ.reg ttOk 5 [(W (x26 * 64))] [(55, .v (.int .i64 (W (x26 * 64)))), (58, .ep ⟨a2, x0.length, c3⟩ (Int.toNat x28 * 1))] rfl ⟨⟨trivial, rfl⟩, hs72.ix g33, ⟨rfl, rfl, trivial⟩⟩ (JQ.load ttOk rfl rfl rfl rfl rfl rfl rfl 0 rfl rfl (Int.toNat x28) 0 (at' x0 x28) ⟨at_some g33, rfl⟩ rfl rfl (JQ.reg ttOk 8 [((at' x0 x28).toNat : Int), (W ((W (x26 * 64)) + ((at' x0 x28).toNat : Int))), (W ((W ((W (x26 * 64)) + ((at' x0 x28).toNat : Int))) - 128)), (W (x27 * 64))] [(62, .v (.int .i64 (W ((W ((W (x26 * 64)) + ((at' x0 x28).toNat : Int))) - 128)))), (64, .v (.int .i64 (W (x27 * 64)))), (67, .ep ⟨a2, x0.length, c3⟩ (Int.toNat x28 * 1))] rfl ⟨⟨trivial, W_byte _⟩, ⟨trivial, rfl⟩, ⟨trivial, rfl⟩, ⟨trivial, rfl⟩, hs72.ix g34, ⟨rfl, rfl, rfl, trivial⟩⟩ (JQ.load ttOk rfl rfl rfl rfl rfl rfl rfl 0 rfl rfl (Int.toNat x28) 0 (at' x0 x28) ⟨at_some g34, rfl⟩ rfl rfl (JQ.reg ttOk 5 [((at' x0 x28).toNat : Int), (W ((W (x27 * 64)) + ((at' x0 x28).toNat : Int))), (W ((W ((W (x27 * 64)) + ((at' x0 x28).toNat : Int))) - 128))] [(5, .v (.int .i64 (W ((W ((W (x26 * 64)) + ((at' x0 x28).toNat : Int))) - 128)))), (6, .v (.int .i64 (W ((W ((W (x27 * 64)) + ((at' x0 x28).toNat : Int))) - 128))))] rfl ⟨⟨trivial, W_byte _⟩, ⟨trivial, rfl⟩, ⟨trivial, rfl⟩, ⟨rfl, rfl, trivial⟩⟩ (JQ.done rfl (JS.endB (JS.endJ ((W ((W ((W (x26 * 64)) + ((at' x0 x28).toNat : Int))) - 128)), (W ((W ((W (x27 * 64)) + ((at' x0 x28).toNat : Int))) - 128))) h ⟨rfl, rfl, rfl, rfl, rfl, trivial⟩ trivial [0] rfl [] rfl))))))))
          have h := condF h ht74
          refine JS.region (JO.reg ttOk 7 [(W (x26 * 64)), (W (x27 * 64)), (W ((W (x27 * 64)) + 63))] [] [(5, .v (.int .i64 (W (x26 * 64)))), (6, .v (.int .i64 (W ((W (x27 * 64)) + 63))))] _ rfl ⟨⟨trivial, rfl⟩, ⟨trivial, rfl⟩, ⟨trivial, rfl⟩, ⟨rfl, rfl, trivial⟩, rfl⟩ (JO.done rfl (JS.endB (JS.endJ ((W (x26 * 64)), (W ((W (x27 * 64)) + 63))) h ⟨rfl, rfl, rfl, rfl, rfl, trivial⟩ trivial [0] rfl [] rfl))))
        rintro ⟨x37, x38⟩ h
        subst hj75
        refine JS.region (JO.reg ttOk 3 [(W (x28 + 1))] [] [(7, .v (.int .i64 (W (x28 + 1))))] _ rfl ⟨⟨trivial, rfl⟩, ⟨rfl, trivial⟩, rfl⟩ (JO.done rfl (JS.endL (n46, x37, x38, (W (x28 + 1))) h (Nat.lt_succ_self _) ⟨rfl, rfl, rfl, rfl, rfl, trivial⟩ trivial [0] rfl [] rfl)))
      have h := condF h ht76
      refine JS.exit rfl (JS.endJ (x26, x27) h ⟨rfl, rfl, rfl, trivial⟩ trivial [] rfl [] rfl)
    rintro ⟨x52, x53⟩ h
    subst hj78
    refine JS.seq (JS.region ?_)
    refine JO.ofK rfl (JK.buildSlice ttOk rfl rfl rfl rfl rfl rfl rfl rfl rfl rfl rfl [] rfl (.int .i64) [0, 0, 128, 2048, 65536] ⟨rfl, rfl⟩ rfl rfl fun a60 => JO.toK ?_)
    refine JO.know 0 rfl fun hs77 => ?_
    obtain ⟨g62, h⟩ := guardO_some h
    refine JO.reg ttOk 2 [] [] [(79, .ep ⟨a60, ([0, 0, 128, 2048, 65536] : List Int).length, ([0, 0, 128, 2048, 65536] : List Int).length⟩ (Int.toNat x20 * 1))] _ rfl ⟨hs77.ix g62, ⟨rfl, trivial⟩, rfl⟩ (JO.load ttOk rfl rfl rfl rfl rfl rfl rfl 0 rfl rfl (Int.toNat x20) 0 (at' ([0, 0, 128, 2048, 65536] : List Int) x20) ⟨at_some g62, rfl⟩ rfl rfl (JO.reg ttOk 1 [] [] [(8, .v (.int .i64 (at' ([0, 0, 128, 2048, 65536] : List Int) x20)))] _ rfl ⟨⟨rfl, trivial⟩, rfl⟩ (JO.done rfl (JS.seq (JS.region (JO.reg ttOk 7 [] [] [(5, .v (.int .i64 (max x52 (at' ([0, 0, 128, 2048, 65536] : List Int) x20)))), (6, .v (.int .i64 (min x53 1114111)))] _ rfl ⟨⟨rfl, rfl, trivial⟩, rfl⟩ (JO.done rfl (JS.seq (JS.region (JO.reg ttOk 13 [] [] [(2, .v (.bool (bif (decide ((max x52 (at' ([0, 0, 128, 2048, 65536] : List Int) x20)) ≤ (min x53 1114111))) then (!(bif (decide (55296 ≤ (max x52 (at' ([0, 0, 128, 2048, 65536] : List Int) x20)))) then (decide ((min x53 1114111) ≤ 57343)) else false)) else false)))] _ rfl ⟨⟨rfl, trivial⟩, rfl⟩ (JO.done rfl ?_)))))))))))
    cases h
    exact JS.ret ttOk () trivial rfl rfl [] rfl

def M_i_VtOk_L1 (x0 : (Int × Int × List Int × Int × Int × Bool) × Int × List Int × List UInt8 × Int) (j53 : Unit → Option Bool) (k48 : Int → Option Bool) : Int → Option Bool := fun x22 =>
  (bif (decide (x22 < (x0.2.2.1.length : Int))) then
  (guardO (0 ≤ x22 ∧ x22 < (x0.2.2.1.length : Int)) <|
  (bindO (M_i_in (at' x0.2.2.1 x22) 0 9999) fun (y41 : Bool) =>
  (bif (!y41) then
  some false
  else
  k48 (W (x22 + 1)))))
  else
  j53 ())

def M_i_VtOk (x0 : (Int × Int × List Int × Int × Int × Bool) × Int × List Int × List UInt8 × Int) : Option Bool :=
  (bindO (M_i_GridOk x0.1) fun (y14 : Bool) =>
  (callO ((!y14) = false) (M_i_in x0.2.1 0 2) false fun (y16 : Bool) =>
  (callO ((bif (bif (bif (!y14) then true else (!y16)) then true else (decide (4 < (x0.2.2.1.length : Int)))) then true else (bif (decide (0 < (x0.2.2.1.length : Int))) then (!(decide (x0.2.1 = 2))) else false)) = false) (M_i_in x0.2.2.2.2 0 1000000) false fun (y19 : Bool) =>
  (bif (bif (bif (bif (bif (!y14) then true else (!y16)) then true else (decide (4 < (x0.2.2.1.length : Int)))) then true else (bif (decide (0 < (x0.2.2.1.length : Int))) then (!(decide (x0.2.1 = 2))) else false)) then true else (!y19)) then
  some false
  else
  (joinO (fun (_ : Unit) =>
  (callO ((decide (x0.2.1 = 0)) = true ∧ (decide ((x0.2.2.2.1.length : Int) = 0)) = false) (M_i_RuneBegin x0.2.2.2.1) false fun (y57 : Bool) =>
  some (bif (decide ((x0.2.2.2.1.length : Int) = 0)) then true else (bif (decide (x0.2.1 = 0)) then y57 else false)))) fun j53 =>
  (fixF (M_i_VtOk_L1 x0 j53) FUEL 0))))))

theorem ok_i_VtOk (x0 : (Int × Int × List Int × Int × Int × Bool) × Int × List Int × List UInt8 × Int) (a2 : Option Addr) (c3 : Nat) (l4 : Nat) (hl5 : x0.1.2.2.1.length = l4) (a6 : Option Addr) (c7 : Nat) (l8 : Nat) (hl9 : x0.2.2.1.length = l8) (a10 : Option Addr) (c11 : Nat) (l12 : Nat) (hl13 : x0.2.2.2.1.length = l12) (r : Bool) (h : M_i_VtOk x0 = some r) :
    FC Try.prog 28 [.agg #[.int .i64 x0.1.1, .int .i64 x0.1.2.1, .slice a2 l4 c3, .int .i64 x0.1.2.2.2.1, .int .i64 x0.1.2.2.2.2.1, .bool x0.1.2.2.2.2.2, .int .i64 x0.2.1, .slice a6 l8 c7, .slice a10 l12 c11, .int .i64 x0.2.2.2.2]] [⟨(.int .i64), ⟨a2, l4, c3⟩, x0.1.2.2.1⟩, ⟨(.int .i64), ⟨a6, l8, c7⟩, x0.2.2.1⟩, ⟨.byte, ⟨a10, l12, c11⟩, x0.2.2.2.1⟩] (fun _ : Unit => True) (fun _ => .bool r) (fun _ => []) :=
  by
    subst hl5
    subst hl9
    subst hl13
    refine FC.of (T := TTx) Try.call28 Try.func28 rfl rfl fun w0 => ?_
    unfold M_i_VtOk at h
    refine JS.seq (JS.region (JO.regB ttOk 2 [] [4] [(1, .bp 4 0)] (.new 4 45 (cl45 x0 a2 c3 a6 c7 a10 c11) .nil) rfl ⟨⟨rfl, trivial⟩, ⟨rfl, rfl, rfl, rfl, trivial⟩⟩ (JO.done rfl (JS.seq (JS.seq (JS.region (JO.reg ttOk 2 [] [] [(6, .v (.agg (cl26 x0.1 a2 c3).toArray))] _ rfl ⟨⟨rfl, trivial⟩, rfl⟩ ?_)))))))
    obtain ⟨y14, hy15, h⟩ := bindO_some h
    refine JO.call rfl rfl rfl rfl (ok_i_GridOk x0.1 a2 c3 x0.1.2.2.1.length rfl _ hy15) rfl [0] rfl rfl fun _ _ => JO.reg ttOk 4 [] [] [(9, .v (.bool (!y14))), (11, .cd [(9, false)] (.v (.int .i64 x0.2.1)))] _ rfl ⟨⟨rfl, rfl, trivial⟩, rfl⟩ ?_
    obtain ⟨y16, hy17, -, h⟩ := callO_some h
    refine JO.callg rfl rfl rfl rfl (fun q63 => ok_i_in x0.2.1 0 2 _ (hy17 q63)) rfl [] rfl rfl (JO.reg ttOk 22 [] [] [(32, .v (.bool (bif (bif (bif (!y14) then true else (!y16)) then true else (decide (4 < (x0.2.2.1.length : Int)))) then true else (bif (decide (0 < (x0.2.2.1.length : Int))) then (!(decide (x0.2.1 = 2))) else false)))), (34, .cd [(32, false)] (.v (.int .i64 x0.2.2.2.2)))] _ rfl ⟨⟨rfl, rfl, trivial⟩, rfl⟩ ?_)
    obtain ⟨y19, hy20, -, h⟩ := callO_some h
    refine JO.callg rfl rfl rfl rfl (fun q64 => ok_i_in x0.2.2.2.2 0 1000000 _ (hy20 q64)) rfl [] rfl rfl (JO.reg ttOk 2 [] [] [(37, .v (.bool (bif (bif (bif (bif (!y14) then true else (!y16)) then true else (decide (4 < (x0.2.2.1.length : Int)))) then true else (bif (decide (0 < (x0.2.2.1.length : Int))) then (!(decide (x0.2.1 = 2))) else false)) then true else (!y19))))] _ rfl ⟨⟨rfl, trivial⟩, rfl⟩ (JO.done rfl ?_))
    refine JS.cond rfl (fun ht71 => ?_) (fun ht71 => ?_)
    · have h := condT h ht71
      refine JS.seq (JS.region (JO.reg ttOk 1 [] [] [(2, .v (.bool false))] _ rfl ⟨⟨rfl, trivial⟩, rfl⟩ (JO.done rfl ?_)))
      cases h
      exact JS.ret ttOk () trivial rfl rfl [] rfl
    have h := condF h ht71
    refine JS.skip (JS.seq (JS.seq (JS.region (JO.reg ttOk 4 [] [] [(39, .v (.slice a6 x0.2.2.1.length c7)), (40, .v (.int .i64 (x0.2.2.1.length : Int))), (41, .v (.int .i64 0))] _ rfl ⟨⟨rfl, rfl, rfl, trivial⟩, rfl⟩ (JO.done rfl ?_)))))
    obtain ⟨j53, hj70, h⟩ := joinO_some h
    refine JS.blockJ (ι := Unit) ⟨fun _ => j53 () = some r, fun _ => [(1, .bp 4 0)], fun _ => (.new 4 45 (cl45 x0 a2 c3 a6 c7 a10 c11) .nil), fun _ => [⟨(.int .i64), ⟨a2, x0.1.2.2.1.length, c3⟩, x0.1.2.2.1⟩, ⟨(.int .i64), ⟨a6, x0.2.2.1.length, c7⟩, x0.2.2.1⟩, ⟨.byte, ⟨a10, x0.2.2.2.1.length, c11⟩, x0.2.2.2.1⟩], fun _ => [], fun _ => 0⟩ ?_ ?_
    · refine JS.loop (ι := Nat × Int) ⟨fun z => fixF (M_i_VtOk_L1 x0 j53) z.1 z.2 = some r, fun z => [(1, .bp 4 0), (39, .v (.slice a6 x0.2.2.1.length c7)), (40, .v (.int .i64 (x0.2.2.1.length : Int))), (41, .v (.int .i64 z.2))], fun z => (.new 4 45 (cl45 x0 a2 c3 a6 c7 a10 c11) .nil), fun z => [⟨(.int .i64), ⟨a6, x0.2.2.1.length, c7⟩, x0.2.2.1⟩, ⟨(.int .i64), ⟨a2, x0.1.2.2.1.length, c3⟩, x0.1.2.2.1⟩, ⟨.byte, ⟨a10, x0.2.2.2.1.length, c11⟩, x0.2.2.2.1⟩], fun z => [], fun z => z.1⟩ (FUEL, 0) h ⟨rfl, rfl, rfl, rfl, trivial⟩ ⟨rfl, rfl, rfl, rfl, trivial⟩ [1, 0, 2] rfl [] rfl ?_
      rintro ⟨n49, x22⟩ h
      obtain ⟨n49, rfl, h⟩ := fixF_some h
      rw [M_i_VtOk_L1] at h
      refine JS.seq (JS.region (JO.reg ttOk 1 [] [] [(42, .v (.bool (decide (x22 < (x0.2.2.1.length : Int)))))] _ rfl ⟨⟨rfl, trivial⟩, rfl⟩ (JO.done rfl (JS.seq ?_))))
      refine JS.cond rfl (fun ht67 => ?_) (fun ht67 => ?_)
      · have h := condT h ht67
        refine JS.skip (JS.seq (JS.block (JS.seq (JS.region (JO.know 0 rfl fun hs65 => ?_)))))
        obtain ⟨g40, h⟩ := guardO_some h
        refine JO.reg ttOk 1 [] [] [(43, .ep ⟨a6, x0.2.2.1.length, c7⟩ (Int.toNat x22 * 1))] _ rfl ⟨hs65.ix g40, ⟨rfl, trivial⟩, rfl⟩ (JO.load ttOk rfl rfl rfl rfl rfl rfl rfl 0 rfl rfl (Int.toNat x22) 0 (at' x0.2.2.1 x22) ⟨at_some g40, rfl⟩ rfl rfl (JO.reg ttOk 1 [] [] [(4, .v (.int .i64 (at' x0.2.2.1 x22)))] _ rfl ⟨⟨rfl, trivial⟩, rfl⟩ (JO.done rfl (JS.seq (JS.region (JO.reg ttOk 1 [] [] [(45, .v (.int .i64 (at' x0.2.2.1 x22)))] _ rfl ⟨⟨rfl, trivial⟩, rfl⟩ ?_))))))
        obtain ⟨y41, hy42, h⟩ := bindO_some h
        refine JO.call rfl rfl rfl rfl (ok_i_in (at' x0.2.2.1 x22) 0 9999 _ hy42) rfl [] rfl rfl fun _ _ => JO.reg ttOk 1 [] [] [(47, .v (.bool (!y41)))] _ rfl ⟨⟨rfl, trivial⟩, rfl⟩ (JO.done rfl ?_)
        refine JS.cond rfl (fun ht66 => ?_) (fun ht66 => ?_)
        · have h := condT h ht66
          refine JS.seq (JS.region (JO.reg ttOk 1 [] [] [(2, .v (.bool false))] _ rfl ⟨⟨rfl, trivial⟩, rfl⟩ (JO.done rfl ?_)))
          cases h
          exact JS.ret ttOk () trivial rfl rfl [] rfl
        have h := condF h ht66
        refine JS.skip (JS.endB (JS.region (JO.reg ttOk 2 [(W (x22 + 1))] [] [(41, .v (.int .i64 (W (x22 + 1))))] _ rfl ⟨⟨trivial, rfl⟩, ⟨rfl, trivial⟩, rfl⟩ (JO.done rfl (JS.endL (n49, (W (x22 + 1))) h (Nat.lt_succ_self _) ⟨rfl, rfl, rfl, rfl, trivial⟩ ⟨rfl, rfl, rfl, rfl, trivial⟩ [0, 1, 2] rfl [] rfl)))))
      have h := condF h ht67
      refine JS.exit rfl (JS.endJ () h ⟨rfl, trivial⟩ ⟨rfl, rfl, rfl, rfl, trivial⟩ [1, 0, 2] rfl [] rfl)
    rintro _ h
    subst hj70
    refine JS.seq (JS.region (JO.reg ttOk 11 [] [] [(53, .v (.bool (decide ((x0.2.2.2.1.length : Int) = 0)))), (57, .cd [(53, false)] (.v (.bool (decide (x0.2.1 = 0))))), (59, .cd [(57, true), (53, false)] (.v (.slice a10 x0.2.2.2.1.length c11)))] _ rfl ⟨⟨rfl, rfl, rfl, trivial⟩, rfl⟩ ?_))
    obtain ⟨y57, hy58, -, h⟩ := callO_some h
    refine JO.callg rfl rfl rfl rfl (fun q68 q69 => ok_i_RuneBegin x0.2.2.2.1 a10 c11 x0.2.2.2.1.length rfl _ (hy58 ⟨q68, q69⟩)) rfl [2] rfl rfl (JO.reg ttOk 3 [] [] [(2, .v (.bool (bif (decide ((x0.2.2.2.1.length : Int) = 0)) then true else (bif (decide (x0.2.1 = 0)) then y57 else false))))] _ rfl ⟨⟨rfl, trivial⟩, rfl⟩ (JO.done rfl ?_))
    cases h
    exact JS.ret ttOk () trivial rfl rfl [] rfl

def M_i_copyInts (x0 : List Int) : Option (List Int) :=
  (guardO (([] : List Int).length + x0.length ≤ 536870912) <|
  some (([] : List Int) ++ x0))

theorem ok_i_copyInts (x0 : List Int) (a2 : Option Addr) (c3 : Nat) (l4 : Nat) (hl5 : x0.length = l4) (r : List Int) (h : M_i_copyInts x0 = some r) :
    FC Try.prog 85 [.slice a2 l4 c3] [⟨(.int .i64), ⟨a2, l4, c3⟩, x0⟩] (fun _ : Option Addr × Nat => True) (fun q => .slice q.1 r.length q.2) (fun q => [⟨(.int .i64), ⟨q.1, r.length, q.2⟩, r⟩]) :=
  by
    subst hl5
    refine FC.of (T := TTx) Try.call85 Try.func85 rfl rfl fun w0 => ?_
    unfold M_i_copyInts at h
    refine JS.seq (JS.region (JO.reg ttOk 1 [] [] [] _ rfl ⟨trivial, rfl⟩ (JO.done rfl (JS.seq (JS.region (JO.reg ttOk 1 [] [] [(3, .v (.slice a2 x0.length c3))] _ rfl ⟨⟨rfl, trivial⟩, rfl⟩ ?_))))))
    obtain ⟨g6, h⟩ := guardO_some h
    refine JO.nilO (.int .i64) Sl.nil rfl rfl (JO.appendR' ttOk rfl rfl rfl rfl ⟨rfl, rfl, rfl, rfl, trivial, rfl, rfl, rfl, rfl⟩ rfl rfl rfl [0] rfl 0 rfl g6 rfl fun a7 c8 => JO.reg ttOk 1 [] [] [(2, .v (.slice a7 (([] : List Int) ++ x0).length c8))] _ rfl ⟨⟨rfl, trivial⟩, rfl⟩ (JO.done rfl ?_))
    cases h
    exact JS.ret ttOk (a7, c8) trivial rfl rfl [0] rfl

def M_i_copyGrid (x0 : Int × Int × List Int × Int × Int × Bool) : Option (Int × Int × List Int × Int × Int × Bool) :=
  (bindO (M_i_copyInts x0.2.2.1) fun (y6 : List Int) =>
  some (x0.1, x0.2.1, y6, x0.2.2.2.1, x0.2.2.2.2.1, x0.2.2.2.2.2))

theorem ok_i_copyGrid (x0 : Int × Int × List Int × Int × Int × Bool) (a2 : Option Addr) (c3 : Nat) (l4 : Nat) (hl5 : x0.2.2.1.length = l4) (r : Int × Int × List Int × Int × Int × Bool) (h : M_i_copyGrid x0 = some r) :
    FC Try.prog 52 [.agg #[.int .i64 x0.1, .int .i64 x0.2.1, .slice a2 l4 c3, .int .i64 x0.2.2.2.1, .int .i64 x0.2.2.2.2.1, .bool x0.2.2.2.2.2]] [⟨(.int .i64), ⟨a2, l4, c3⟩, x0.2.2.1⟩] (fun _ : Option Addr × Nat => True) (fun q => .agg (cl26 r q.1 q.2).toArray) (fun q => [⟨(.int .i64), ⟨q.1, r.2.2.1.length, q.2⟩, r.2.2.1⟩]) :=
  by
    subst hl5
    refine FC.of (T := TTx) Try.call52 Try.func52 rfl rfl fun w0 => ?_
    unfold M_i_copyGrid at h
    refine JS.seq (JS.region (JO.regB ttOk 2 [] [2, 3] [(1, .bp 2 0), (2, .bp 3 0)] (.new 2 26 (cl26 x0 a2 c3) (.new 3 26 (cl26 (0, 0, [], 0, 0, false) none 0) .nil)) rfl ⟨⟨rfl, rfl, trivial⟩, ⟨rfl, rfl, rfl, rfl, rfl, rfl, rfl, rfl, trivial⟩⟩ (JO.done rfl (JS.seq (JS.region (JO.reg ttOk 2 [] [] [(4, .v (.slice a2 x0.2.2.1.length c3))] _ rfl ⟨⟨rfl, trivial⟩, rfl⟩ ?_))))))
    obtain ⟨y6, hy7, h⟩ := bindO_some h
    refine JO.call rfl rfl rfl rfl (ok_i_copyInts x0.2.2.1 a2 c3 x0.2.2.1.length rfl _ hy7) rfl [0] rfl rfl ?_
    rintro ⟨a8, c9⟩ -
    refine JO.regB ttOk 2 [] [] [] (.new 2 26 (cl26 (x0.1, x0.2.1, y6, x0.2.2.2.1, x0.2.2.2.2.1, x0.2.2.2.2.2) a8 c9) (.new 3 26 (cl26 (0, 0, [], 0, 0, false) none 0) .nil)) rfl ⟨trivial, ⟨rfl, rfl, rfl, rfl, rfl, rfl, rfl, rfl, trivial⟩⟩ (JO.done rfl (JS.seq (JS.region (JO.regB ttOk 2 [] [] [] (.new 3 26 (cl26 (x0.1, x0.2.1, y6, x0.2.2.2.1, x0.2.2.2.2.1, x0.2.2.2.2.2) a8 c9) .nil) rfl ⟨trivial, ⟨rfl, rfl, rfl, rfl, trivial⟩⟩ (JO.done rfl ?_)))))
    cases h
    exact JS.ret ttOk (a8, c9) trivial rfl rfl [0] rfl

def M_i_copyBytes (x0 : List UInt8) : Option (List UInt8) :=
  (guardO (([] : List UInt8).length + x0.length ≤ 536870912) <|
  some (([] : List UInt8) ++ x0))

theorem ok_i_copyBytes (x0 : List UInt8) (a2 : Option Addr) (c3 : Nat) (l4 : Nat) (hl5 : x0.length = l4) (r : List UInt8) (h : M_i_copyBytes x0 = some r) :
    FC Try.prog 90 [.slice a2 l4 c3] [⟨.byte, ⟨a2, l4, c3⟩, x0⟩] (fun _ : Option Addr × Nat => True) (fun q => .slice q.1 r.length q.2) (fun q => [⟨.byte, ⟨q.1, r.length, q.2⟩, r⟩]) :=
  by
    subst hl5
    refine FC.of (T := TTx) Try.call90 Try.func90 rfl rfl fun w0 => ?_
    unfold M_i_copyBytes at h
    refine JS.seq (JS.region (JO.reg ttOk 1 [] [] [] _ rfl ⟨trivial, rfl⟩ (JO.done rfl (JS.seq (JS.region (JO.reg ttOk 1 [] [] [(3, .v (.slice a2 x0.length c3))] _ rfl ⟨⟨rfl, trivial⟩, rfl⟩ ?_))))))
    obtain ⟨g6, h⟩ := guardO_some h
    refine JO.nilO .byte Sl.nil rfl rfl (JO.appendR' ttOk rfl rfl rfl rfl ⟨rfl, rfl, rfl, rfl, trivial, rfl, rfl, rfl, rfl⟩ rfl rfl rfl [0] rfl 0 rfl g6 rfl fun a7 c8 => JO.reg ttOk 1 [] [] [(2, .v (.slice a7 (([] : List UInt8) ++ x0).length c8))] _ rfl ⟨⟨rfl, trivial⟩, rfl⟩ (JO.done rfl ?_))
    cases h
    exact JS.ret ttOk (a7, c8) trivial rfl rfl [0] rfl

def M_i_copyVt (x0 : (Int × Int × List Int × Int × Int × Bool) × Int × List Int × List UInt8 × Int) : Option ((Int × Int × List Int × Int × Int × Bool) × Int × List Int × List UInt8 × Int) :=
  (bindO (M_i_copyGrid x0.1) fun (y14 : Int × Int × List Int × Int × Int × Bool) =>
  (bindO (M_i_copyInts x0.2.2.1) fun (y18 : List Int) =>
  (bindO (M_i_copyBytes x0.2.2.2.1) fun (y22 : List UInt8) =>
  some (y14, x0.2.1, y18, y22, x0.2.2.2.2))))

theorem ok_i_copyVt (x0 : (Int × Int × List Int × Int × Int × Bool) × Int × List Int × List UInt8 × Int) (a2 : Option Addr) (c3 : Nat) (l4 : Nat) (hl5 : x0.1.2.2.1.length = l4) (a6 : Option Addr) (c7 : Nat) (l8 : Nat) (hl9 : x0.2.2.1.length = l8) (a10 : Option Addr) (c11 : Nat) (l12 : Nat) (hl13 : x0.2.2.2.1.length = l12) (r : (Int × Int × List Int × Int × Int × Bool) × Int × List Int × List UInt8 × Int) (h : M_i_copyVt x0 = some r) :
    FC Try.prog 71 [.agg #[.int .i64 x0.1.1, .int .i64 x0.1.2.1, .slice a2 l4 c3, .int .i64 x0.1.2.2.2.1, .int .i64 x0.1.2.2.2.2.1, .bool x0.1.2.2.2.2.2, .int .i64 x0.2.1, .slice a6 l8 c7, .slice a10 l12 c11, .int .i64 x0.2.2.2.2]] [⟨(.int .i64), ⟨a2, l4, c3⟩, x0.1.2.2.1⟩, ⟨(.int .i64), ⟨a6, l8, c7⟩, x0.2.2.1⟩, ⟨.byte, ⟨a10, l12, c11⟩, x0.2.2.2.1⟩] (fun _ : Option Addr × Nat × Option Addr × Nat × Option Addr × Nat => True) (fun q => .agg (cl45 r q.1 q.2.1 q.2.2.1 q.2.2.2.1 q.2.2.2.2.1 q.2.2.2.2.2).toArray) (fun q => [⟨(.int .i64), ⟨q.1, r.1.2.2.1.length, q.2.1⟩, r.1.2.2.1⟩, ⟨(.int .i64), ⟨q.2.2.1, r.2.2.1.length, q.2.2.2.1⟩, r.2.2.1⟩, ⟨.byte, ⟨q.2.2.2.2.1, r.2.2.2.1.length, q.2.2.2.2.2⟩, r.2.2.2.1⟩]) :=
  by
    subst hl5
    subst hl9
    subst hl13
    refine FC.of (T := TTx) Try.call71 Try.func71 rfl rfl fun w0 => ?_
    unfold M_i_copyVt at h
    refine JS.seq (JS.region (JO.regB ttOk 2 [] [4, 5] [(1, .bp 4 0), (2, .bp 5 0)] (.new 4 45 (cl45 x0 a2 c3 a6 c7 a10 c11) (.new 5 45 (cl45 ((0, 0, [], 0, 0, false), 0, [], [], 0) none 0 none 0 none 0) .nil)) rfl ⟨⟨rfl, rfl, trivial⟩, ⟨rfl, rfl, rfl, rfl, rfl, rfl, rfl, rfl, trivial⟩⟩ (JO.done rfl (JS.seq ?_))))
    obtain ⟨y14, hy15, h⟩ := bindO_some h
    obtain ⟨y18, hy19, h⟩ := bindO_some h
    obtain ⟨y22, hy23, h⟩ := bindO_some h
    refine JS.regionA rfl (.new 4 45 (cl45 x0 a2 c3 a6 c7 a10 c11) .nil) [] [8, 9, 10, 11, 12, 13, 14] ⟨rfl, rfl, rfl, rfl, trivial⟩ rfl (fun be26 => ?_)
    refine JA.reg ttOk panic_cx true 9 [0, 1, 3, 4, 6, 7] rfl (by kernel_rfl) [] [(4, .v (.agg (cl26 x0.1 a2 c3).toArray)), (7, .v (.slice a6 x0.2.2.1.length c7)), (10, .v (.slice a10 x0.2.2.2.1.length c11))] ⟨rfl, rfl, rfl, rfl, trivial⟩ [] rfl rfl ⟨rfl, rfl, rfl, trivial⟩ (JA.one 2 (by kernel_rfl) (JK.call rfl rfl rfl rfl (ok_i_copyGrid x0.1 a2 c3 x0.1.2.2.1.length rfl _ hy15) rfl [0] rfl rfl ?_))
    rintro ⟨a16, c17⟩ -
    refine JA.next ⟨rfl, rfl, rfl, rfl, trivial⟩ [] rfl (JA.regL ttOk panic_cx 7 [9] rfl (by kernel_rfl) [] [(12, .bp 4 0)] rfl ⟨rfl, trivial⟩ (JA.one 5 (by kernel_rfl) (JK.call rfl rfl rfl rfl (ok_i_copyInts x0.2.2.1 a6 c7 x0.2.2.1.length rfl _ hy19) rfl [1] rfl rfl ?_)))
    rintro ⟨a20, c21⟩ -
    refine JA.next ⟨rfl, rfl, rfl, rfl, trivial⟩ [] rfl (JA.one 8 (by kernel_rfl) (JK.call rfl rfl rfl rfl (ok_i_copyBytes x0.2.2.2.1 a10 c11 x0.2.2.2.1.length rfl _ hy23) rfl [2] rfl rfl ?_))
    rintro ⟨a24, c25⟩ -
    refine JA.nextL rfl (JA.one 10 (by kernel_rfl) (JK.stBox ttOk rfl rfl rfl rfl rfl rfl rfl rfl (JK.boxes (B' := (.new 4 45 (cl45 (y14, x0.2.1, x0.2.2.1, x0.2.2.2.1, x0.2.2.2.2) a16 c17 a6 c7 a10 c11) (.new 5 45 (cl45 ((0, 0, [], 0, 0, false), 0, [], [], 0) none 0 none 0 none 0) .nil))) ⟨rfl, rfl, rfl, rfl, rfl, rfl, rfl, rfl, trivial⟩ (JA.nextL rfl (JA.regL ttOk panic_cx 3 [11] rfl (by kernel_rfl) [] [(13, .bp 4 7)] rfl ⟨rfl, trivial⟩ (JA.one 12 (by kernel_rfl) (JK.stBox ttOk rfl rfl rfl rfl rfl rfl rfl rfl (JK.boxes (B' := (.new 4 45 (cl45 (y14, x0.2.1, y18, x0.2.2.2.1, x0.2.2.2.2) a16 c17 a20 c21 a10 c11) (.new 5 45 (cl45 ((0, 0, [], 0, 0, false), 0, [], [], 0) none 0 none 0 none 0) .nil))) ⟨rfl, rfl, rfl, rfl, rfl, rfl, rfl, rfl, trivial⟩ (JA.nextL rfl (JA.regL ttOk panic_cx 1 [13] rfl (by kernel_rfl) [] [(14, .bp 4 8)] rfl ⟨rfl, trivial⟩ (JA.one 14 (by kernel_rfl) (JK.stBox ttOk rfl rfl rfl rfl rfl rfl rfl rfl (JK.boxes (B' := (.new 4 45 (cl45 (y14, x0.2.1, y18, y22, x0.2.2.2.2) a16 c17 a20 c21 a24 c25) (.new 5 45 (cl45 ((0, 0, [], 0, 0, false), 0, [], [], 0) none 0 none 0 none 0) .nil))) ⟨rfl, rfl, rfl, rfl, rfl, rfl, rfl, rfl, trivial⟩ (JA.nextL rfl (JA.done (by kernel_rfl) (JS.boxes (B' := (.new 4 45 (cl45 (y14, x0.2.1, y18, y22, x0.2.2.2.2) a16 c17 a20 c21 a24 c25) (.new 5 45 (cl45 ((0, 0, [], 0, 0, false), 0, [], [], 0) none 0 none 0 none 0) .nil))) ⟨rfl, rfl, rfl, rfl, rfl, rfl, rfl, rfl, trivial⟩ (JS.seq (JS.region (JO.regB ttOk 2 [] [] [] (.new 5 45 (cl45 (y14, x0.2.1, y18, y22, x0.2.2.2.2) a16 c17 a20 c21 a24 c25) .nil) rfl ⟨trivial, ⟨rfl, rfl, rfl, rfl, trivial⟩⟩ (JO.done rfl ?_))))))))))))))))))))
    cases h
    exact JS.ret ttOk (a16, c17, a20, c21, a24, c25) trivial rfl rfl [2, 1, 0] rfl

def M_i_isDigit (x0 : Int) : Option Bool :=
  (bindO (M_i_in x0 48 57) fun (y2 : Bool) =>
  some y2)

theorem ok_i_isDigit (x0 : Int) (r : Bool) (h : M_i_isDigit x0 = some r) :
    FC Try.prog 76 [.int .i64 x0] [] (fun _ : Unit => True) (fun _ => .bool r) (fun _ => []) :=
  by
    refine FC.of (T := TTx) Try.call76 Try.func76 rfl rfl fun w0 => ?_
    unfold M_i_isDigit at h
    refine JS.seq (JS.region (JO.reg ttOk 1 [] [] [] _ rfl ⟨trivial, rfl⟩ (JO.done rfl (JS.seq (JS.region (JO.reg ttOk 1 [] [] [(3, .v (.int .i64 x0))] _ rfl ⟨⟨rfl, trivial⟩, rfl⟩ ?_))))))
    obtain ⟨y2, hy3, h⟩ := bindO_some h
    refine JO.call rfl rfl rfl rfl (ok_i_in x0 48 57 _ hy3) rfl [] rfl rfl fun _ _ => JO.reg ttOk 1 [] [] [(2, .v (.bool y2))] _ rfl ⟨⟨rfl, trivial⟩, rfl⟩ (JO.done rfl ?_)
    cases h
    exact JS.ret ttOk () trivial rfl rfl [] rfl

def M_i_Vt_arg (x0 : (Int × Int × List Int × Int × Int × Bool) × Int × List Int × List UInt8 × Int) (x1 : Int) : Option (Int × (Int × Int × List Int × Int × Int × Bool) × Int × List Int × List UInt8 × Int) :=
  (guardO (((decide ((x0.2.2.1.length : Int) ≤ x1)) = false) → 0 ≤ x1 ∧ x1 < (x0.2.2.1.length : Int)) <|
  (bif (bif (decide ((x0.2.2.1.length : Int) ≤ x1)) then true else (decide ((at' x0.2.2.1 x1) = 0))) then
  some (1, x0)
  else
  (guardO (0 ≤ x1 ∧ x1 < (x0.2.2.1.length : Int)) <|
  some ((at' x0.2.2.1 x1), x0))))

theorem ok_i_Vt_arg (x0 : (Int × Int × List Int × Int × Int × Bool) × Int × List Int × List UInt8 × Int) (x1 : Int) (a3 : Option Addr) (a4 : Option Addr) (c5 : Nat) (l6 : Nat) (hl7 : x0.1.2.2.1.length = l6) (a8 : Option Addr) (c9 : Nat) (l10 : Nat) (hl11 : x0.2.2.1.length = l10) (a12 : Option Addr) (c13 : Nat) (l14 : Nat) (hl15 : x0.2.2.2.1.length = l14) (r : Int × (Int × Int × List Int × Int × Int × Bool) × Int × List Int × List UInt8 × Int) (h : M_i_Vt_arg x0 x1 = some r) :
    FX Try.prog 104 [.pointer a3, .int .i64 x1] [] [⟨(.pair (.pair (.int .i64) (.pair (.int .i64) (.pair .val (.pair (.int .i64) (.pair (.int .i64) .bool))))) (.pair (.int .i64) (.pair .val (.pair .val (.int .i64))))), ⟨a3, 1, 1⟩, [((x0.1.1, x0.1.2.1, (Sl.v ⟨a4, l6, c5⟩), x0.1.2.2.2.1, x0.1.2.2.2.2.1, x0.1.2.2.2.2.2), x0.2.1, (Sl.v ⟨a8, l10, c9⟩), (Sl.v ⟨a12, l14, c13⟩), x0.2.2.2.2)]⟩, ⟨(.int .i64), ⟨a4, l6, c5⟩, x0.1.2.2.1⟩, ⟨(.int .i64), ⟨a8, l10, c9⟩, x0.2.2.1⟩, ⟨.byte, ⟨a12, l14, c13⟩, x0.2.2.2.1⟩] (fun _ : Option Addr × Nat × Option Addr × Nat × Option Addr × Nat => True) (fun q => .int .i64 r.1) (fun q => [⟨(.pair (.pair (.int .i64) (.pair (.int .i64) (.pair .val (.pair (.int .i64) (.pair (.int .i64) .bool))))) (.pair (.int .i64) (.pair .val (.pair .val (.int .i64))))), ⟨a3, 1, 1⟩, [((r.2.1.1, r.2.1.2.1, (Sl.v ⟨q.1, r.2.1.2.2.1.length, q.2.1⟩), r.2.1.2.2.2.1, r.2.1.2.2.2.2.1, r.2.1.2.2.2.2.2), r.2.2.1, (Sl.v ⟨q.2.2.1, r.2.2.2.1.length, q.2.2.2.1⟩), (Sl.v ⟨q.2.2.2.2.1, r.2.2.2.2.1.length, q.2.2.2.2.2⟩), r.2.2.2.2.2)]⟩, ⟨(.int .i64), ⟨q.1, r.2.1.2.2.1.length, q.2.1⟩, r.2.1.2.2.1⟩, ⟨(.int .i64), ⟨q.2.2.1, r.2.2.2.1.length, q.2.2.2.1⟩, r.2.2.2.1⟩, ⟨.byte, ⟨q.2.2.2.2.1, r.2.2.2.2.1.length, q.2.2.2.2.2⟩, r.2.2.2.2.1⟩]) :=
  by
    subst hl7
    subst hl11
    subst hl15
    refine FX.of (T := TTx) Try.call104 Try.func104 rfl rfl fun w0 L0 => ?_
    unfold M_i_Vt_arg at h
    refine JS.ptr 0 a3 rfl ?_
    refine JS.seq (JS.region (JO.reg ttOk 1 [] [] [] _ rfl ⟨trivial, rfl⟩ (JO.done rfl (JS.seq (JS.seq (JS.region (JO.know 0 rfl fun hs26 => JO.reg ttOk 4 [] [] [(5, .v (.int .i64 x1)), (8, .ep ⟨a3, 1, 1⟩ 7)] _ rfl ⟨(hs26.fa ptr0).1, hs26.fa ptr0, ⟨rfl, rfl, trivial⟩, rfl⟩ (JO.loadV ttOk rfl rfl rfl rfl rfl rfl 0 rfl rfl 0 7 ((x0.1.1, x0.1.2.1, (Sl.v ⟨a4, x0.1.2.2.1.length, c5⟩), x0.1.2.2.2.1, x0.1.2.2.2.2.1, x0.1.2.2.2.2.2), x0.2.1, (Sl.v ⟨a8, x0.2.2.1.length, c9⟩), (Sl.v ⟨a12, x0.2.2.2.1.length, c13⟩), x0.2.2.2.2) ⟨rfl, rfl⟩ rfl rfl rfl (JO.reg ttOk 6 [] [] [(12, .v (.bool (decide ((x0.2.2.1.length : Int) ≤ x1)))), (15, .cd [(12, false)] (.ep ⟨a3, 1, 1⟩ 7))] _ rfl ⟨(fun q27 => (hs26.fa ptr0).1), (fun q28 => hs26.fa ptr0), ⟨rfl, rfl, trivial⟩, rfl⟩ (JO.loadV ttOk rfl rfl rfl rfl rfl rfl 0 rfl rfl 0 7 ((x0.1.1, x0.1.2.1, (Sl.v ⟨a4, x0.1.2.2.1.length, c5⟩), x0.1.2.2.2.1, x0.1.2.2.2.2.1, x0.1.2.2.2.2.2), x0.2.1, (Sl.v ⟨a8, x0.2.2.1.length, c9⟩), (Sl.v ⟨a12, x0.2.2.2.1.length, c13⟩), x0.2.2.2.2) (fun q29 => ⟨rfl, rfl⟩) rfl rfl rfl (JO.know 2 rfl fun hs30 => ?_)))))))))))
    obtain ⟨g21, h⟩ := guardO_some h
    refine JO.reg ttOk 2 [] [] [(18, .cd [(12, false)] (.ep ⟨a8, x0.2.2.1.length, c9⟩ (Int.toNat x1 * 1)))] _ rfl ⟨(fun q31 => hs30.ix (g21 q31)), ⟨rfl, trivial⟩, rfl⟩ (JO.load ttOk rfl rfl rfl rfl rfl rfl rfl 2 rfl rfl (Int.toNat x1) 0 (at' x0.2.2.1 x1) (fun q32 => ⟨at_some (g21 q32), rfl⟩) rfl rfl (JO.reg ttOk 2 [] [] [(21, .v (.bool (bif (decide ((x0.2.2.1.length : Int) ≤ x1)) then true else (decide ((at' x0.2.2.1 x1) = 0)))))] _ rfl ⟨⟨rfl, trivial⟩, rfl⟩ (JO.done rfl ?_)))
    refine JS.cond rfl (fun ht33 => ?_) (fun ht33 => ?_)
    · have h := condT h ht33
      refine JS.seq (JS.region (JO.reg ttOk 1 [] [] [(4, .v (.int .i64 1))] _ rfl ⟨⟨rfl, trivial⟩, rfl⟩ (JO.done rfl ?_)))
      cases h
      exact JS.retX ttOk (a4, c5, a8, c9, a12, c13) trivial rfl rfl [0, 0, 0, 0] rfl
    have h := condF h ht33
    refine JS.skip (JS.seq (JS.region (JO.reg ttOk 3 [] [] [(24, .ep ⟨a3, 1, 1⟩ 7)] _ rfl ⟨(hs26.fa ptr0).1, hs26.fa ptr0, ⟨rfl, trivial⟩, rfl⟩ (JO.loadV ttOk rfl rfl rfl rfl rfl rfl 0 rfl rfl 0 7 ((x0.1.1, x0.1.2.1, (Sl.v ⟨a4, x0.1.2.2.1.length, c5⟩), x0.1.2.2.2.1, x0.1.2.2.2.2.1, x0.1.2.2.2.2.2), x0.2.1, (Sl.v ⟨a8, x0.2.2.1.length, c9⟩), (Sl.v ⟨a12, x0.2.2.2.1.length, c13⟩), x0.2.2.2.2) ⟨rfl, rfl⟩ rfl rfl rfl ?_))))
    obtain ⟨g24, h⟩ := guardO_some h
    refine JO.reg ttOk 2 [] [] [(27, .ep ⟨a8, x0.2.2.1.length, c9⟩ (Int.toNat x1 * 1))] _ rfl ⟨hs30.ix g24, ⟨rfl, trivial⟩, rfl⟩ (JO.load ttOk rfl rfl rfl rfl rfl rfl rfl 2 rfl rfl (Int.toNat x1) 0 (at' x0.2.2.1 x1) ⟨at_some g24, rfl⟩ rfl rfl (JO.reg ttOk 1 [] [] [(4, .v (.int .i64 (at' x0.2.2.1 x1)))] _ rfl ⟨⟨rfl, trivial⟩, rfl⟩ (JO.done rfl ?_)))
    cases h
    exact JS.retX ttOk (a4, c5, a8, c9, a12, c13) trivial rfl rfl [0, 0, 0, 0] rfl

def M_i_Grid_erase_L1 (x0 : Int × Int × List Int × Int × Int × Bool) (x2 : Int) (j67 : (List Int) → Option (Int × Int × List Int × Int × Int × Bool)) (k59 : (Int × List Int) → Option (Int × Int × List Int × Int × Int × Bool)) : (Int × List Int) → Option (Int × Int × List Int × Int × Int × Bool) := fun (x43, x46) =>
  (bif (decide (x43 < (min x2 (x0.2.2.1.length : Int)))) then
  (guardO (0 ≤ x43 ∧ x43 < (x46.length : Int)) <|
  k59 ((W (x43 + 1)), (List.set x46 (Int.toNat x43) 32)))
  else
  j67 x46)

def M_i_Grid_erase (x0 : Int × Int × List Int × Int × Int × Bool) (x1 : Int) (x2 : Int) : Option (Int × Int × List Int × Int × Int × Bool) :=
  (bif (decide ((min x2 (x0.2.2.1.length : Int)) ≤ (max x1 0))) then
  some x0
  else
  (joinO (fun (x15 : List Int) =>
  (joinO (fun (x31 : List Int) =>
  (joinO (fun (x64 : List Int) =>
  some (x0.1, x0.2.1, x64, x0.2.2.2.1, x0.2.2.2.2.1, x0.2.2.2.2.2)) fun j67 =>
  (fixF (M_i_Grid_erase_L1 x0 x2 j67) FUEL ((max x1 0), x31)))) fun j34 =>
  (guardO (((decide ((min x2 (x0.2.2.1.length : Int)) < (x15.length : Int))) = true) → 0 ≤ (min x2 (x0.2.2.1.length : Int)) ∧ (min x2 (x0.2.2.1.length : Int)) < (x15.length : Int)) <|
  (bif (bif (decide ((min x2 (x0.2.2.1.length : Int)) < (x15.length : Int))) then (decide ((at' x15 (min x2 (x0.2.2.1.length : Int))) = (-1))) else false) then
  (guardO (0 ≤ (min x2 (x0.2.2.1.length : Int)) ∧ (min x2 (x0.2.2.1.length : Int)) < (x15.length : Int)) <|
  j34 (List.set x15 (Int.toNat (min x2 (x0.2.2.1.length : Int))) 32))
  else
  j34 x15)))) fun j18 =>
  (guardO (0 ≤ (max x1 0) ∧ (max x1 0) < (x0.2.2.1.length : Int)) <|
  (bif (decide ((at' x0.2.2.1 (max x1 0)) = (-1))) then
  (guardO (0 ≤ (W ((max x1 0) - 1)) ∧ (W ((max x1 0) - 1)) < (x0.2.2.1.length : Int)) <|
  j18 (List.set x0.2.2.1 (Int.toNat (W ((max x1 0) - 1))) 32))
  else
  j18 x0.2.2.1))))

theorem ok_i_Grid_erase (x0 : Int × Int × List Int × Int × Int × Bool) (x1 : Int) (x2 : Int) (a4 : Option Addr) (a5 : Option Addr) (c6 : Nat) (l7 : Nat) (hl8 : x0.2.2.1.length = l7) (r : Int × Int × List Int × Int × Int × Bool) (h : M_i_Grid_erase x0 x1 x2 = some r) :
    FX Try.prog 67 [.pointer a4, .int .i64 x1, .int .i64 x2] [] [⟨(.pair (.int .i64) (.pair (.int .i64) (.pair .val (.pair (.int .i64) (.pair (.int .i64) .bool))))), ⟨a4, 1, 1⟩, [(x0.1, x0.2.1, (Sl.v ⟨a5, l7, c6⟩), x0.2.2.2.1, x0.2.2.2.2.1, x0.2.2.2.2.2)]⟩, ⟨(.int .i64), ⟨a5, l7, c6⟩, x0.2.2.1⟩] (fun _ : Option Addr × Nat => True) (fun q => .tuple #[]) (fun q => [⟨(.pair (.int .i64) (.pair (.int .i64) (.pair .val (.pair (.int .i64) (.pair (.int .i64) .bool))))), ⟨a4, 1, 1⟩, [(r.1, r.2.1, (Sl.v ⟨q.1, r.2.2.1.length, q.2⟩), r.2.2.2.1, r.2.2.2.2.1, r.2.2.2.2.2)]⟩, ⟨(.int .i64), ⟨q.1, r.2.2.1.length, q.2⟩, r.2.2.1⟩]) :=
  by
    subst hl8
    refine FX.of (T := TTx) Try.call67 Try.func67 rfl rfl fun w0 L0 => ?_
    unfold M_i_Grid_erase at h
    refine JS.ptr 0 a4 rfl ?_
    refine JS.seq (JS.know 0 rfl fun hs76 => JS.regionQ rfl (by kernel_rfl) (JQ.reg ttOk 6 [] [(8, .v (.int .i64 (max x1 0))), (9, .v (.int .i64 x2)), (12, .ep ⟨a4, 1, 1⟩ 2)] rfl ⟨(hs76.fa ptr0).1, hs76.fa ptr0, ⟨rfl, rfl, rfl, trivial⟩⟩ (JQ.loadV ttOk rfl rfl rfl rfl rfl rfl 0 rfl rfl 0 2 (x0.1, x0.2.1, (Sl.v ⟨a5, x0.2.2.1.length, c6⟩), x0.2.2.2.1, x0.2.2.2.2.1, x0.2.2.2.2.2) ⟨rfl, rfl⟩ rfl rfl rfl (JQ.reg ttOk 4 [] [(1, .v (.int .i64 (max x1 0))), (2, .v (.int .i64 (min x2 (x0.2.2.1.length : Int))))] rfl ⟨rfl, rfl, trivial⟩ (JQ.done rfl (JS.seq (JS.seq (JS.region (JO.reg ttOk 3 [] [] [(18, .v (.bool (decide ((min x2 (x0.2.2.1.length : Int)) ≤ (max x1 0)))))] _ rfl ⟨⟨rfl, trivial⟩, rfl⟩ (JO.done rfl ?_))))))))))
    refine JS.cond rfl (fun ht93 => ?_) (fun ht93 => ?_)
    · have h := condT h ht93
      cases h
      exact JS.retX ttOk (a5, c6) trivial rfl rfl [0, 0] rfl
    have h := condF h ht93
    refine JS.skip ?_
    obtain ⟨j18, hj92, h⟩ := joinO_some h
    refine JS.seqJ (ι := List Int × Option Addr × Nat) ⟨fun z => j18 z.1 = some r, fun z => [(0, .ep ⟨a4, 1, 1⟩ 0), (1, .v (.int .i64 (max x1 0))), (2, .v (.int .i64 (min x2 (x0.2.2.1.length : Int))))], fun z => .nil, fun z => [], fun z => [⟨(.int .i64), ⟨z.2.1, z.1.length, z.2.2⟩, z.1⟩, ⟨(.pair (.int .i64) (.pair (.int .i64) (.pair .val (.pair (.int .i64) (.pair (.int .i64) .bool))))), ⟨a4, 1, 1⟩, [(x0.1, x0.2.1, (Sl.v ⟨z.2.1, z.1.length, z.2.2⟩), x0.2.2.2.1, x0.2.2.2.2.1, x0.2.2.2.2.2)]⟩], fun z => 0⟩ ?_ ?_
    · refine JS.seq (JS.region (JO.reg ttOk 3 [] [] [(21, .ep ⟨a4, 1, 1⟩ 2)] _ rfl ⟨(hs76.fa ptr0).1, hs76.fa ptr0, ⟨rfl, trivial⟩, rfl⟩ (JO.loadV ttOk rfl rfl rfl rfl rfl rfl 0 rfl rfl 0 2 (x0.1, x0.2.1, (Sl.v ⟨a5, x0.2.2.1.length, c6⟩), x0.2.2.2.1, x0.2.2.2.2.1, x0.2.2.2.2.2) ⟨rfl, rfl⟩ rfl rfl rfl (JO.know 1 rfl fun hs77 => ?_))))
      obtain ⟨g12, h⟩ := guardO_some h
      refine JO.reg ttOk 2 [] [] [(24, .ep ⟨a5, x0.2.2.1.length, c6⟩ (Int.toNat (max x1 0) * 1))] _ rfl ⟨hs77.ix g12, ⟨rfl, trivial⟩, rfl⟩ (JO.load ttOk rfl rfl rfl rfl rfl rfl rfl 1 rfl rfl (Int.toNat (max x1 0)) 0 (at' x0.2.2.1 (max x1 0)) ⟨at_some g12, rfl⟩ rfl rfl (JO.reg ttOk 1 [] [] [(26, .v (.bool (decide ((at' x0.2.2.1 (max x1 0)) = (-1)))))] _ rfl ⟨⟨rfl, trivial⟩, rfl⟩ (JO.done rfl ?_)))
      refine JS.cond rfl (fun ht78 => ?_) (fun ht78 => ?_)
      · have h := condT h ht78
        refine JS.region (JO.reg ttOk 3 [] [] [(29, .ep ⟨a4, 1, 1⟩ 2)] _ rfl ⟨(hs76.fa ptr0).1, hs76.fa ptr0, ⟨rfl, trivial⟩, rfl⟩ (JO.loadV ttOk rfl rfl rfl rfl rfl rfl 0 rfl rfl 0 2 (x0.1, x0.2.1, (Sl.v ⟨a5, x0.2.2.1.length, c6⟩), x0.2.2.2.1, x0.2.2.2.2.1, x0.2.2.2.2.2) ⟨rfl, rfl⟩ rfl rfl rfl ?_))
        obtain ⟨g13, h⟩ := guardO_some h
        refine JO.reg ttOk 3 [(W ((max x1 0) - 1))] [] [(33, .ep ⟨a5, x0.2.2.1.length, c6⟩ (Int.toNat (W ((max x1 0) - 1)) * 1))] _ rfl ⟨⟨trivial, rfl⟩, hs77.ix g13, ⟨rfl, trivial⟩, rfl⟩ (JO.storeE ttOk rfl rfl rfl rfl rfl rfl rfl rfl rfl [1] (fs := []) rfl (Int.toNat (W ((max x1 0) - 1))) 0 (at' x0.2.2.1 (W ((max x1 0) - 1))) 32 ⟨at_some g13, rfl⟩ ⟨rfl, rfl, rfl⟩ (JO.done rfl (JS.endJ ((List.set x0.2.2.1 (Int.toNat (W ((max x1 0) - 1))) 32), a5, c6) h ⟨rfl, rfl, rfl, trivial⟩ trivial [] rfl [0, 0] (by simp only [List.length_set, List.length_replicate, pickO, getF, cl26, cl45]; rfl))))
      have h := condF h ht78
      refine JS.skip (JS.endJ (x0.2.2.1, a5, c6) h ⟨rfl, rfl, rfl, trivial⟩ trivial [] rfl [1, 0] rfl)
    rintro ⟨x15, a16, c17⟩ h
    subst hj92
    obtain ⟨j34, hj91, h⟩ := joinO_some h
    refine JS.seqJ (ι := List Int × Option Addr × Nat) ⟨fun z => j34 z.1 = some r, fun z => [(0, .ep ⟨a4, 1, 1⟩ 0), (1, .v (.int .i64 (max x1 0))), (2, .v (.int .i64 (min x2 (x0.2.2.1.length : Int))))], fun z => .nil, fun z => [], fun z => [⟨(.int .i64), ⟨z.2.1, z.1.length, z.2.2⟩, z.1⟩, ⟨(.pair (.int .i64) (.pair (.int .i64) (.pair .val (.pair (.int .i64) (.pair (.int .i64) .bool))))), ⟨a4, 1, 1⟩, [(x0.1, x0.2.1, (Sl.v ⟨z.2.1, z.1.length, z.2.2⟩), x0.2.2.2.1, x0.2.2.2.2.1, x0.2.2.2.2.2)]⟩], fun z => 0⟩ ?_ ?_
    · refine JS.seq (JS.region (JO.know 1 rfl fun hs79 => JO.reg ttOk 4 [] [] [(34, .v (.int .i64 (min x2 (x0.2.2.1.length : Int)))), (37, .ep ⟨a4, 1, 1⟩ 2)] _ rfl ⟨(hs79.fa ptr0).1, hs79.fa ptr0, ⟨rfl, rfl, trivial⟩, rfl⟩ (JO.loadV ttOk rfl rfl rfl rfl rfl rfl 1 rfl rfl 0 2 (x0.1, x0.2.1, (Sl.v ⟨a16, x15.length, c17⟩), x0.2.2.2.1, x0.2.2.2.2.1, x0.2.2.2.2.2) ⟨rfl, rfl⟩ rfl rfl rfl (JO.reg ttOk 6 [] [] [(41, .v (.bool (decide ((min x2 (x0.2.2.1.length : Int)) < (x15.length : Int))))), (44, .cd [(41, true)] (.ep ⟨a4, 1, 1⟩ 2))] _ rfl ⟨(fun q80 => (hs79.fa ptr0).1), (fun q81 => hs79.fa ptr0), ⟨rfl, rfl, trivial⟩, rfl⟩ (JO.loadV ttOk rfl rfl rfl rfl rfl rfl 1 rfl rfl 0 2 (x0.1, x0.2.1, (Sl.v ⟨a16, x15.length, c17⟩), x0.2.2.2.1, x0.2.2.2.2.1, x0.2.2.2.2.2) (fun q82 => ⟨rfl, rfl⟩) rfl rfl rfl (JO.know 0 rfl fun hs83 => ?_))))))
      obtain ⟨g26, h⟩ := guardO_some h
      refine JO.reg ttOk 2 [] [] [(47, .cd [(41, true)] (.ep ⟨a16, x15.length, c17⟩ (Int.toNat (min x2 (x0.2.2.1.length : Int)) * 1)))] _ rfl ⟨(fun q84 => hs83.ix (g26 q84)), ⟨rfl, trivial⟩, rfl⟩ (JO.load ttOk rfl rfl rfl rfl rfl rfl rfl 0 rfl rfl (Int.toNat (min x2 (x0.2.2.1.length : Int))) 0 (at' x15 (min x2 (x0.2.2.1.length : Int))) (fun q85 => ⟨at_some (g26 q85), rfl⟩) rfl rfl (JO.reg ttOk 2 [] [] [(50, .v (.bool (bif (decide ((min x2 (x0.2.2.1.length : Int)) < (x15.length : Int))) then (decide ((at' x15 (min x2 (x0.2.2.1.length : Int))) = (-1))) else false)))] _ rfl ⟨⟨rfl, trivial⟩, rfl⟩ (JO.done rfl ?_)))
      refine JS.cond rfl (fun ht86 => ?_) (fun ht86 => ?_)
      · have h := condT h ht86
        refine JS.region (JO.reg ttOk 3 [] [] [(53, .ep ⟨a4, 1, 1⟩ 2)] _ rfl ⟨(hs79.fa ptr0).1, hs79.fa ptr0, ⟨rfl, trivial⟩, rfl⟩ (JO.loadV ttOk rfl rfl rfl rfl rfl rfl 1 rfl rfl 0 2 (x0.1, x0.2.1, (Sl.v ⟨a16, x15.length, c17⟩), x0.2.2.2.1, x0.2.2.2.2.1, x0.2.2.2.2.2) ⟨rfl, rfl⟩ rfl rfl rfl ?_))
        obtain ⟨g29, h⟩ := guardO_some h
        refine JO.reg ttOk 2 [] [] [(56, .ep ⟨a16, x15.length, c17⟩ (Int.toNat (min x2 (x0.2.2.1.length : Int)) * 1))] _ rfl ⟨hs83.ix g29, ⟨rfl, trivial⟩, rfl⟩ (JO.storeE ttOk rfl rfl rfl rfl rfl rfl rfl rfl rfl [0] (fs := []) rfl (Int.toNat (min x2 (x0.2.2.1.length : Int))) 0 (at' x15 (min x2 (x0.2.2.1.length : Int))) 32 ⟨at_some g29, rfl⟩ ⟨rfl, rfl, rfl⟩ (JO.done rfl (JS.endJ ((List.set x15 (Int.toNat (min x2 (x0.2.2.1.length : Int))) 32), a16, c17) h ⟨rfl, rfl, rfl, trivial⟩ trivial [] rfl [0, 0] (by simp only [List.length_set, List.length_replicate, pickO, getF, cl26, cl45]; rfl))))
      have h := condF h ht86
      refine JS.skip (JS.endJ (x15, a16, c17) h ⟨rfl, rfl, rfl, trivial⟩ trivial [] rfl [0, 0] rfl)
    rintro ⟨x31, a32, c33⟩ h
    subst hj91
    refine JS.seq (JS.region (JO.reg ttOk 2 [] [] [(6, .v (.int .i64 (max x1 0)))] _ rfl ⟨⟨rfl, trivial⟩, rfl⟩ (JO.done rfl ?_)))
    obtain ⟨j67, hj90, h⟩ := joinO_some h
    refine JS.blockJ (ι := List Int × Option Addr × Nat) ⟨fun z => j67 z.1 = some r, fun z => [], fun z => .nil, fun z => [], fun z => [⟨(.int .i64), ⟨z.2.1, z.1.length, z.2.2⟩, z.1⟩, ⟨(.pair (.int .i64) (.pair (.int .i64) (.pair .val (.pair (.int .i64) (.pair (.int .i64) .bool))))), ⟨a4, 1, 1⟩, [(x0.1, x0.2.1, (Sl.v ⟨z.2.1, z.1.length, z.2.2⟩), x0.2.2.2.1, x0.2.2.2.2.1, x0.2.2.2.2.2)]⟩], fun z => 0⟩ ?_ ?_
    · refine JS.loop (ι := Nat × Int × List Int × Option Addr × Nat) ⟨fun z => fixF (M_i_Grid_erase_L1 x0 x2 j67) z.1 (z.2.1, z.2.2.1) = some r, fun z => [(0, .ep ⟨a4, 1, 1⟩ 0), (2, .v (.int .i64 (min x2 (x0.2.2.1.length : Int)))), (6, .v (.int .i64 z.2.1))], fun z => .nil, fun z => [], fun z => [⟨(.int .i64), ⟨z.2.2.2.1, z.2.2.1.length, z.2.2.2.2⟩, z.2.2.1⟩, ⟨(.pair (.int .i64) (.pair (.int .i64) (.pair .val (.pair (.int .i64) (.pair (.int .i64) .bool))))), ⟨a4, 1, 1⟩, [(x0.1, x0.2.1, (Sl.v ⟨z.2.2.2.1, z.2.2.1.length, z.2.2.2.2⟩), x0.2.2.2.1, x0.2.2.2.2.1, x0.2.2.2.2.2)]⟩], fun z => z.1⟩ (FUEL, (max x1 0), x31, a32, c33) h ⟨rfl, rfl, rfl, trivial⟩ trivial [] rfl [0, 0] rfl ?_
      rintro ⟨n60, x43, x46, a47, c48⟩ h
      obtain ⟨n60, rfl, h⟩ := fixF_some h
      rw [M_i_Grid_erase_L1] at h
      refine JS.seq (JS.seq (JS.region (JO.reg ttOk 3 [] [] [(60, .v (.bool (decide (x43 < (min x2 (x0.2.2.1.length : Int))))))] _ rfl ⟨⟨rfl, trivial⟩, rfl⟩ (JO.done rfl ?_))))
      refine JS.cond rfl (fun ht89 => ?_) (fun ht89 => ?_)
      · have h := condT h ht89
        refine JS.skip (JS.seq (JS.block (JS.region (JO.know 1 rfl fun hs87 => JO.reg ttOk 3 [] [] [(65, .ep ⟨a4, 1, 1⟩ 2)] _ rfl ⟨(hs87.fa ptr0).1, hs87.fa ptr0, ⟨rfl, trivial⟩, rfl⟩ (JO.loadV ttOk rfl rfl rfl rfl rfl rfl 1 rfl rfl 0 2 (x0.1, x0.2.1, (Sl.v ⟨a47, x46.length, c48⟩), x0.2.2.2.1, x0.2.2.2.2.1, x0.2.2.2.2.2) ⟨rfl, rfl⟩ rfl rfl rfl (JO.know 0 rfl fun hs88 => ?_))))))
        obtain ⟨g54, h⟩ := guardO_some h
        refine JO.reg ttOk 2 [] [] [(68, .ep ⟨a47, x46.length, c48⟩ (Int.toNat x43 * 1))] _ rfl ⟨hs88.ix g54, ⟨rfl, trivial⟩, rfl⟩ (JO.storeE ttOk rfl rfl rfl rfl rfl rfl rfl rfl rfl [0] (fs := []) rfl (Int.toNat x43) 0 (at' x46 x43) 32 ⟨at_some g54, rfl⟩ ⟨rfl, rfl, rfl⟩ (JO.done rfl (JS.endB (JS.region (JO.reg ttOk 3 [(W (x43 + 1))] [] [(6, .v (.int .i64 (W (x43 + 1))))] _ rfl ⟨⟨trivial, rfl⟩, ⟨rfl, trivial⟩, rfl⟩ (JO.done rfl (JS.endL (n60, (W (x43 + 1)), (List.set x46 (Int.toNat x43) 32), a47, c48) h (Nat.lt_succ_self _) ⟨rfl, rfl, rfl, trivial⟩ trivial [] rfl [0, 0] (by simp only [List.length_set, List.length_replicate, pickO, getF, cl26, cl45]; rfl))))))))
      have h := condF h ht89
      refine JS.exit rfl (JS.endJ (x46, a47, c48) h trivial trivial [] rfl [0, 0] rfl)
    rintro ⟨x64, a65, c66⟩ h
    subst hj90
    cases h
    exact JS.fallX ttOk (a65, c66) trivial rfl rfl [1, 0] rfl

def M_i_Grid_erase_in45_L1 (x0 : (Int × Int × List Int × Int × Int × Bool) × Int × List Int × List UInt8 × Int) (x2 : Int) (j83 : (List Int) → Option ((Int × Int × List Int × Int × Int × Bool) × Int × List Int × List UInt8 × Int)) (k75 : (Int × List Int) → Option ((Int × Int × List Int × Int × Int × Bool) × Int × List Int × List UInt8 × Int)) : (Int × List Int) → Option ((Int × Int × List Int × Int × Int × Bool) × Int × List Int × List UInt8 × Int) := fun (x51, x54) =>
  (bif (decide (x51 < (min x2 (x0.1.2.2.1.length : Int)))) then
  (guardO (0 ≤ x51 ∧ x51 < (x54.length : Int)) <|
  k75 ((W (x51 + 1)), (List.set x54 (Int.toNat x51) 32)))
  else
  j83 x54)

def M_i_Grid_erase_in45 (x0 : (Int × Int × List Int × Int × Int × Bool) × Int × List Int × List UInt8 × Int) (x1 : Int) (x2 : Int) : Option ((Int × Int × List Int × Int × Int × Bool) × Int × List Int × List UInt8 × Int) :=
  (bif (decide ((min x2 (x0.1.2.2.1.length : Int)) ≤ (max x1 0))) then
  some x0
  else
  (joinO (fun (x23 : List Int) =>
  (joinO (fun (x39 : List Int) =>
  (joinO (fun (x80 : List Int) =>
  some ((x0.1.1, x0.1.2.1, x80, x0.1.2.2.2.1, x0.1.2.2.2.2.1, x0.1.2.2.2.2.2), x0.2.1, x0.2.2.1, x0.2.2.2.1, x0.2.2.2.2)) fun j83 =>
  (fixF (M_i_Grid_erase_in45_L1 x0 x2 j83) FUEL ((max x1 0), x39)))) fun j42 =>
  (guardO (((decide ((min x2 (x0.1.2.2.1.length : Int)) < (x23.length : Int))) = true) → 0 ≤ (min x2 (x0.1.2.2.1.length : Int)) ∧ (min x2 (x0.1.2.2.1.length : Int)) < (x23.length : Int)) <|
  (bif (bif (decide ((min x2 (x0.1.2.2.1.length : Int)) < (x23.length : Int))) then (decide ((at' x23 (min x2 (x0.1.2.2.1.length : Int))) = (-1))) else false) then
  (guardO (0 ≤ (min x2 (x0.1.2.2.1.length : Int)) ∧ (min x2 (x0.1.2.2.1.length : Int)) < (x23.length : Int)) <|
  j42 (List.set x23 (Int.toNat (min x2 (x0.1.2.2.1.length : Int))) 32))
  else
  j42 x23)))) fun j26 =>
  (guardO (0 ≤ (max x1 0) ∧ (max x1 0) < (x0.1.2.2.1.length : Int)) <|
  (bif (decide ((at' x0.1.2.2.1 (max x1 0)) = (-1))) then
  (guardO (0 ≤ (W ((max x1 0) - 1)) ∧ (W ((max x1 0) - 1)) < (x0.1.2.2.1.length : Int)) <|
  j26 (List.set x0.1.2.2.1 (Int.toNat (W ((max x1 0) - 1))) 32))
  else
  j26 x0.1.2.2.1))))

theorem ok_i_Grid_erase_in45 (x0 : (Int × Int × List Int × Int × Int × Bool) × Int × List Int × List UInt8 × Int) (x1 : Int) (x2 : Int) (a4 : Option Addr) (a5 : Option Addr) (c6 : Nat) (l7 : Nat) (hl8 : x0.1.2.2.1.length = l7) (a9 : Option Addr) (c10 : Nat) (l11 : Nat) (hl12 : x0.2.2.1.length = l11) (a13 : Option Addr) (c14 : Nat) (l15 : Nat) (hl16 : x0.2.2.2.1.length = l15) (r : (Int × Int × List Int × Int × Int × Bool) × Int × List Int × List UInt8 × Int) (h : M_i_Grid_erase_in45 x0 x1 x2 = some r) :
    FX Try.prog 67 [.pointer a4, .int .i64 x1, .int .i64 x2] [] [⟨(.pair (.pair (.int .i64) (.pair (.int .i64) (.pair .val (.pair (.int .i64) (.pair (.int .i64) .bool))))) (.pair (.int .i64) (.pair .val (.pair .val (.int .i64))))), ⟨a4, 1, 1⟩, [((x0.1.1, x0.1.2.1, (Sl.v ⟨a5, l7, c6⟩), x0.1.2.2.2.1, x0.1.2.2.2.2.1, x0.1.2.2.2.2.2), x0.2.1, (Sl.v ⟨a9, l11, c10⟩), (Sl.v ⟨a13, l15, c14⟩), x0.2.2.2.2)]⟩, ⟨(.int .i64), ⟨a5, l7, c6⟩, x0.1.2.2.1⟩, ⟨(.int .i64), ⟨a9, l11, c10⟩, x0.2.2.1⟩, ⟨.byte, ⟨a13, l15, c14⟩, x0.2.2.2.1⟩] (fun _ : Option Addr × Nat × Option Addr × Nat × Option Addr × Nat => True) (fun q => .tuple #[]) (fun q => [⟨(.pair (.pair (.int .i64) (.pair (.int .i64) (.pair .val (.pair (.int .i64) (.pair (.int .i64) .bool))))) (.pair (.int .i64) (.pair .val (.pair .val (.int .i64))))), ⟨a4, 1, 1⟩, [((r.1.1, r.1.2.1, (Sl.v ⟨q.1, r.1.2.2.1.length, q.2.1⟩), r.1.2.2.2.1, r.1.2.2.2.2.1, r.1.2.2.2.2.2), r.2.1, (Sl.v ⟨q.2.2.1, r.2.2.1.length, q.2.2.2.1⟩), (Sl.v ⟨q.2.2.2.2.1, r.2.2.2.1.length, q.2.2.2.2.2⟩), r.2.2.2.2)]⟩, ⟨(.int .i64), ⟨q.1, r.1.2.2.1.length, q.2.1⟩, r.1.2.2.1⟩, ⟨(.int .i64), ⟨q.2.2.1, r.2.2.1.length, q.2.2.2.1⟩, r.2.2.1⟩, ⟨.byte, ⟨q.2.2.2.2.1, r.2.2.2.1.length, q.2.2.2.2.2⟩, r.2.2.2.1⟩]) :=
  by
    subst hl8
    subst hl12
    subst hl16
    refine FX.of (T := TTx) Try.call67 Try.func67 rfl rfl fun w0 L0 => ?_
    unfold M_i_Grid_erase_in45 at h
    refine JS.ptr 0 a4 rfl ?_
    refine JS.seq (JS.know 0 rfl fun hs92 => JS.regionQ rfl (by kernel_rfl) (JQ.reg ttOk 6 [] [(8, .v (.int .i64 (max x1 0))), (9, .v (.int .i64 x2)), (12, .ep ⟨a4, 1, 1⟩ 2)] rfl ⟨(hs92.fa ptr0).1, hs92.fa ptr0, ⟨rfl, rfl, rfl, trivial⟩⟩ (JQ.loadV ttOk rfl rfl rfl rfl rfl rfl 0 rfl rfl 0 2 ((x0.1.1, x0.1.2.1, (Sl.v ⟨a5, x0.1.2.2.1.length, c6⟩), x0.1.2.2.2.1, x0.1.2.2.2.2.1, x0.1.2.2.2.2.2), x0.2.1, (Sl.v ⟨a9, x0.2.2.1.length, c10⟩), (Sl.v ⟨a13, x0.2.2.2.1.length, c14⟩), x0.2.2.2.2) ⟨rfl, rfl⟩ rfl rfl rfl (JQ.reg ttOk 4 [] [(1, .v (.int .i64 (max x1 0))), (2, .v (.int .i64 (min x2 (x0.1.2.2.1.length : Int))))] rfl ⟨rfl, rfl, trivial⟩ (JQ.done rfl (JS.seq (JS.seq (JS.region (JO.reg ttOk 3 [] [] [(18, .v (.bool (decide ((min x2 (x0.1.2.2.1.length : Int)) ≤ (max x1 0)))))] _ rfl ⟨⟨rfl, trivial⟩, rfl⟩ (JO.done rfl ?_))))))))))
    refine JS.cond rfl (fun ht109 => ?_) (fun ht109 => ?_)
    · have h := condT h ht109
      cases h
      exact JS.retX ttOk (a5, c6, a9, c10, a13, c14) trivial rfl rfl [0, 0, 0, 0] rfl
    have h := condF h ht109
    refine JS.skip ?_
    obtain ⟨j26, hj108, h⟩ := joinO_some h
    refine JS.seqJ (ι := List Int × Option Addr × Nat) ⟨fun z => j26 z.1 = some r, fun z => [(0, .ep ⟨a4, 1, 1⟩ 0), (1, .v (.int .i64 (max x1 0))), (2, .v (.int .i64 (min x2 (x0.1.2.2.1.length : Int))))], fun z => .nil, fun z => [], fun z => [⟨(.int .i64), ⟨z.2.1, z.1.length, z.2.2⟩, z.1⟩, ⟨(.pair (.pair (.int .i64) (.pair (.int .i64) (.pair .val (.pair (.int .i64) (.pair (.int .i64) .bool))))) (.pair (.int .i64) (.pair .val (.pair .val (.int .i64))))), ⟨a4, 1, 1⟩, [((x0.1.1, x0.1.2.1, (Sl.v ⟨z.2.1, z.1.length, z.2.2⟩), x0.1.2.2.2.1, x0.1.2.2.2.2.1, x0.1.2.2.2.2.2), x0.2.1, (Sl.v ⟨a9, x0.2.2.1.length, c10⟩), (Sl.v ⟨a13, x0.2.2.2.1.length, c14⟩), x0.2.2.2.2)]⟩, ⟨(.int .i64), ⟨a9, x0.2.2.1.length, c10⟩, x0.2.2.1⟩, ⟨.byte, ⟨a13, x0.2.2.2.1.length, c14⟩, x0.2.2.2.1⟩], fun z => 0⟩ ?_ ?_
    · refine JS.seq (JS.region (JO.reg ttOk 3 [] [] [(21, .ep ⟨a4, 1, 1⟩ 2)] _ rfl ⟨(hs92.fa ptr0).1, hs92.fa ptr0, ⟨rfl, trivial⟩, rfl⟩ (JO.loadV ttOk rfl rfl rfl rfl rfl rfl 0 rfl rfl 0 2 ((x0.1.1, x0.1.2.1, (Sl.v ⟨a5, x0.1.2.2.1.length, c6⟩), x0.1.2.2.2.1, x0.1.2.2.2.2.1, x0.1.2.2.2.2.2), x0.2.1, (Sl.v ⟨a9, x0.2.2.1.length, c10⟩), (Sl.v ⟨a13, x0.2.2.2.1.length, c14⟩), x0.2.2.2.2) ⟨rfl, rfl⟩ rfl rfl rfl (JO.know 1 rfl fun hs93 => ?_))))
      obtain ⟨g20, h⟩ := guardO_some h
      refine JO.reg ttOk 2 [] [] [(24, .ep ⟨a5, x0.1.2.2.1.length, c6⟩ (Int.toNat (max x1 0) * 1))] _ rfl ⟨hs93.ix g20, ⟨rfl, trivial⟩, rfl⟩ (JO.load ttOk rfl rfl rfl rfl rfl rfl rfl 1 rfl rfl (Int.toNat (max x1 0)) 0 (at' x0.1.2.2.1 (max x1 0)) ⟨at_some g20, rfl⟩ rfl rfl (JO.reg ttOk 1 [] [] [(26, .v (.bool (decide ((at' x0.1.2.2.1 (max x1 0)) = (-1)))))] _ rfl ⟨⟨rfl, trivial⟩, rfl⟩ (JO.done rfl ?_)))
      refine JS.cond rfl (fun ht94 => ?_) (fun ht94 => ?_)
      · have h := condT h ht94
        refine JS.region (JO.reg ttOk 3 [] [] [(29, .ep ⟨a4, 1, 1⟩ 2)] _ rfl ⟨(hs92.fa ptr0).1, hs92.fa ptr0, ⟨rfl, trivial⟩, rfl⟩ (JO.loadV ttOk rfl rfl rfl rfl rfl rfl 0 rfl rfl 0 2 ((x0.1.1, x0.1.2.1, (Sl.v ⟨a5, x0.1.2.2.1.length, c6⟩), x0.1.2.2.2.1, x0.1.2.2.2.2.1, x0.1.2.2.2.2.2), x0.2.1, (Sl.v ⟨a9, x0.2.2.1.length, c10⟩), (Sl.v ⟨a13, x0.2.2.2.1.length, c14⟩), x0.2.2.2.2) ⟨rfl, rfl⟩ rfl rfl rfl ?_))
        obtain ⟨g21, h⟩ := guardO_some h
        refine JO.reg ttOk 3 [(W ((max x1 0) - 1))] [] [(33, .ep ⟨a5, x0.1.2.2.1.length, c6⟩ (Int.toNat (W ((max x1 0) - 1)) * 1))] _ rfl ⟨⟨trivial, rfl⟩, hs93.ix g21, ⟨rfl, trivial⟩, rfl⟩ (JO.storeE ttOk rfl rfl rfl rfl rfl rfl rfl rfl rfl [1] (fs := []) rfl (Int.toNat (W ((max x1 0) - 1))) 0 (at' x0.1.2.2.1 (W ((max x1 0) - 1))) 32 ⟨at_some g21, rfl⟩ ⟨rfl, rfl, rfl⟩ (JO.done rfl (JS.endJA ((List.set x0.1.2.2.1 (Int.toNat (W ((max x1 0) - 1))) 32), a5, c6) h ⟨rfl, rfl, rfl, trivial⟩ trivial [] rfl [0, 1, 2, 3] (by simp only [List.length_set, List.length_replicate, pickO, getF, cl26, cl45]; rfl) rfl)))
      have h := condF h ht94
      refine JS.skip (JS.endJA (x0.1.2.2.1, a5, c6) h ⟨rfl, rfl, rfl, trivial⟩ trivial [] rfl [1, 0, 2, 3] rfl rfl)
    rintro ⟨x23, a24, c25⟩ h
    subst hj108
    obtain ⟨j42, hj107, h⟩ := joinO_some h
    refine JS.seqJ (ι := List Int × Option Addr × Nat) ⟨fun z => j42 z.1 = some r, fun z => [(0, .ep ⟨a4, 1, 1⟩ 0), (1, .v (.int .i64 (max x1 0))), (2, .v (.int .i64 (min x2 (x0.1.2.2.1.length : Int))))], fun z => .nil, fun z => [], fun z => [⟨(.int .i64), ⟨z.2.1, z.1.length, z.2.2⟩, z.1⟩, ⟨(.pair (.pair (.int .i64) (.pair (.int .i64) (.pair .val (.pair (.int .i64) (.pair (.int .i64) .bool))))) (.pair (.int .i64) (.pair .val (.pair .val (.int .i64))))), ⟨a4, 1, 1⟩, [((x0.1.1, x0.1.2.1, (Sl.v ⟨z.2.1, z.1.length, z.2.2⟩), x0.1.2.2.2.1, x0.1.2.2.2.2.1, x0.1.2.2.2.2.2), x0.2.1, (Sl.v ⟨a9, x0.2.2.1.length, c10⟩), (Sl.v ⟨a13, x0.2.2.2.1.length, c14⟩), x0.2.2.2.2)]⟩, ⟨(.int .i64), ⟨a9, x0.2.2.1.length, c10⟩, x0.2.2.1⟩, ⟨.byte, ⟨a13, x0.2.2.2.1.length, c14⟩, x0.2.2.2.1⟩], fun z => 0⟩ ?_ ?_
    · refine JS.seq (JS.region (JO.know 1 rfl fun hs95 => JO.reg ttOk 4 [] [] [(34, .v (.int .i64 (min x2 (x0.1.2.2.1.length : Int)))), (37, .ep ⟨a4, 1, 1⟩ 2)] _ rfl ⟨(hs95.fa ptr0).1, hs95.fa ptr0, ⟨rfl, rfl, trivial⟩, rfl⟩ (JO.loadV ttOk rfl rfl rfl rfl rfl rfl 1 rfl rfl 0 2 ((x0.1.1, x0.1.2.1, (Sl.v ⟨a24, x23.length, c25⟩), x0.1.2.2.2.1, x0.1.2.2.2.2.1, x0.1.2.2.2.2.2), x0.2.1, (Sl.v ⟨a9, x0.2.2.1.length, c10⟩), (Sl.v ⟨a13, x0.2.2.2.1.length, c14⟩), x0.2.2.2.2) ⟨rfl, rfl⟩ rfl rfl rfl (JO.reg ttOk 6 [] [] [(41, .v (.bool (decide ((min x2 (x0.1.2.2.1.length : Int)) < (x23.length : Int))))), (44, .cd [(41, true)] (.ep ⟨a4, 1, 1⟩ 2))] _ rfl ⟨(fun q96 => (hs95.fa ptr0).1), (fun q97 => hs95.fa ptr0), ⟨rfl, rfl, trivial⟩, rfl⟩ (JO.loadV ttOk rfl rfl rfl rfl rfl rfl 1 rfl rfl 0 2 ((x0.1.1, x0.1.2.1, (Sl.v ⟨a24, x23.length, c25⟩), x0.1.2.2.2.1, x0.1.2.2.2.2.1, x0.1.2.2.2.2.2), x0.2.1, (Sl.v ⟨a9, x0.2.2.1.length, c10⟩), (Sl.v ⟨a13, x0.2.2.2.1.length, c14⟩), x0.2.2.2.2) (fun q98 => ⟨rfl, rfl⟩) rfl rfl rfl (JO.know 0 rfl fun hs99 => ?_))))))
      obtain ⟨g34, h⟩ := guardO_some h
      refine JO.reg ttOk 2 [] [] [(47, .cd [(41, true)] (.ep ⟨a24, x23.length, c25⟩ (Int.toNat (min x2 (x0.1.2.2.1.length : Int)) * 1)))] _ rfl ⟨(fun q100 => hs99.ix (g34 q100)), ⟨rfl, trivial⟩, rfl⟩ (JO.load ttOk rfl rfl rfl rfl rfl rfl rfl 0 rfl rfl (Int.toNat (min x2 (x0.1.2.2.1.length : Int))) 0 (at' x23 (min x2 (x0.1.2.2.1.length : Int))) (fun q101 => ⟨at_some (g34 q101), rfl⟩) rfl rfl (JO.reg ttOk 2 [] [] [(50, .v (.bool (bif (decide ((min x2 (x0.1.2.2.1.length : Int)) < (x23.length : Int))) then (decide ((at' x23 (min x2 (x0.1.2.2.1.length : Int))) = (-1))) else false)))] _ rfl ⟨⟨rfl, trivial⟩, rfl⟩ (JO.done rfl ?_)))
      refine JS.cond rfl (fun ht102 => ?_) (fun ht102 => ?_)
      · have h := condT h ht102
        refine JS.region (JO.reg ttOk 3 [] [] [(53, .ep ⟨a4, 1, 1⟩ 2)] _ rfl ⟨(hs95.fa ptr0).1, hs95.fa ptr0, ⟨rfl, trivial⟩, rfl⟩ (JO.loadV ttOk rfl rfl rfl rfl rfl rfl 1 rfl rfl 0 2 ((x0.1.1, x0.1.2.1, (Sl.v ⟨a24, x23.length, c25⟩), x0.1.2.2.2.1, x0.1.2.2.2.2.1, x0.1.2.2.2.2.2), x0.2.1, (Sl.v ⟨a9, x0.2.2.1.length, c10⟩), (Sl.v ⟨a13, x0.2.2.2.1.length, c14⟩), x0.2.2.2.2) ⟨rfl, rfl⟩ rfl rfl rfl ?_))
        obtain ⟨g37, h⟩ := guardO_some h
        refine JO.reg ttOk 2 [] [] [(56, .ep ⟨a24, x23.length, c25⟩ (Int.toNat (min x2 (x0.1.2.2.1.length : Int)) * 1))] _ rfl ⟨hs99.ix g37, ⟨rfl, trivial⟩, rfl⟩ (JO.storeE ttOk rfl rfl rfl rfl rfl rfl rfl rfl rfl [0] (fs := []) rfl (Int.toNat (min x2 (x0.1.2.2.1.length : Int))) 0 (at' x23 (min x2 (x0.1.2.2.1.length : Int))) 32 ⟨at_some g37, rfl⟩ ⟨rfl, rfl, rfl⟩ (JO.done rfl (JS.endJA ((List.set x23 (Int.toNat (min x2 (x0.1.2.2.1.length : Int))) 32), a24, c25) h ⟨rfl, rfl, rfl, trivial⟩ trivial [] rfl [0, 1, 2, 3] (by simp only [List.length_set, List.length_replicate, pickO, getF, cl26, cl45]; rfl) rfl)))
      have h := condF h ht102
      refine JS.skip (JS.endJA (x23, a24, c25) h ⟨rfl, rfl, rfl, trivial⟩ trivial [] rfl [0, 1, 2, 3] rfl rfl)
    rintro ⟨x39, a40, c41⟩ h
    subst hj107
    refine JS.seq (JS.region (JO.reg ttOk 2 [] [] [(6, .v (.int .i64 (max x1 0)))] _ rfl ⟨⟨rfl, trivial⟩, rfl⟩ (JO.done rfl ?_)))
    obtain ⟨j83, hj106, h⟩ := joinO_some h
    refine JS.blockJ (ι := List Int × Option Addr × Nat) ⟨fun z => j83 z.1 = some r, fun z => [], fun z => .nil, fun z => [], fun z => [⟨(.int .i64), ⟨z.2.1, z.1.length, z.2.2⟩, z.1⟩, ⟨(.pair (.pair (.int .i64) (.pair (.int .i64) (.pair .val (.pair (.int .i64) (.pair (.int .i64) .bool))))) (.pair (.int .i64) (.pair .val (.pair .val (.int .i64))))), ⟨a4, 1, 1⟩, [((x0.1.1, x0.1.2.1, (Sl.v ⟨z.2.1, z.1.length, z.2.2⟩), x0.1.2.2.2.1, x0.1.2.2.2.2.1, x0.1.2.2.2.2.2), x0.2.1, (Sl.v ⟨a9, x0.2.2.1.length, c10⟩), (Sl.v ⟨a13, x0.2.2.2.1.length, c14⟩), x0.2.2.2.2)]⟩, ⟨(.int .i64), ⟨a9, x0.2.2.1.length, c10⟩, x0.2.2.1⟩, ⟨.byte, ⟨a13, x0.2.2.2.1.length, c14⟩, x0.2.2.2.1⟩], fun z => 0⟩ ?_ ?_
    · refine JS.loop (ι := Nat × Int × List Int × Option Addr × Nat) ⟨fun z => fixF (M_i_Grid_erase_in45_L1 x0 x2 j83) z.1 (z.2.1, z.2.2.1) = some r, fun z => [(0, .ep ⟨a4, 1, 1⟩ 0), (2, .v (.int .i64 (min x2 (x0.1.2.2.1.length : Int)))), (6, .v (.int .i64 z.2.1))], fun z => .nil, fun z => [], fun z => [⟨(.int .i64), ⟨z.2.2.2.1, z.2.2.1.length, z.2.2.2.2⟩, z.2.2.1⟩, ⟨(.pair (.pair (.int .i64) (.pair (.int .i64) (.pair .val (.pair (.int .i64) (.pair (.int .i64) .bool))))) (.pair (.int .i64) (.pair .val (.pair .val (.int .i64))))), ⟨a4, 1, 1⟩, [((x0.1.1, x0.1.2.1, (Sl.v ⟨z.2.2.2.1, z.2.2.1.length, z.2.2.2.2⟩), x0.1.2.2.2.1, x0.1.2.2.2.2.1, x0.1.2.2.2.2.2), x0.2.1, (Sl.v ⟨a9, x0.2.2.1.length, c10⟩), (Sl.v ⟨a13, x0.2.2.2.1.length, c14⟩), x0.2.2.2.2)]⟩, ⟨(.int .i64), ⟨a9, x0.2.2.1.length, c10⟩, x0.2.2.1⟩, ⟨.byte, ⟨a13, x0.2.2.2.1.length, c14⟩, x0.2.2.2.1⟩], fun z => z.1⟩ (FUEL, (max x1 0), x39, a40, c41) h ⟨rfl, rfl, rfl, trivial⟩ trivial [] rfl [0, 0, 0, 0] rfl ?_
      rintro ⟨n76, x51, x54, a55, c56⟩ h
      obtain ⟨n76, rfl, h⟩ := fixF_some h
      rw [M_i_Grid_erase_in45_L1] at h
      refine JS.seq (JS.seq (JS.region (JO.reg ttOk 3 [] [] [(60, .v (.bool (decide (x51 < (min x2 (x0.1.2.2.1.length : Int))))))] _ rfl ⟨⟨rfl, trivial⟩, rfl⟩ (JO.done rfl ?_))))
      refine JS.cond rfl (fun ht105 => ?_) (fun ht105 => ?_)
      · have h := condT h ht105
        refine JS.skip (JS.seq (JS.block (JS.region (JO.know 1 rfl fun hs103 => JO.reg ttOk 3 [] [] [(65, .ep ⟨a4, 1, 1⟩ 2)] _ rfl ⟨(hs103.fa ptr0).1, hs103.fa ptr0, ⟨rfl, trivial⟩, rfl⟩ (JO.loadV ttOk rfl rfl rfl rfl rfl rfl 1 rfl rfl 0 2 ((x0.1.1, x0.1.2.1, (Sl.v ⟨a55, x54.length, c56⟩), x0.1.2.2.2.1, x0.1.2.2.2.2.1, x0.1.2.2.2.2.2), x0.2.1, (Sl.v ⟨a9, x0.2.2.1.length, c10⟩), (Sl.v ⟨a13, x0.2.2.2.1.length, c14⟩), x0.2.2.2.2) ⟨rfl, rfl⟩ rfl rfl rfl (JO.know 0 rfl fun hs104 => ?_))))))
        obtain ⟨g70, h⟩ := guardO_some h
        refine JO.reg ttOk 2 [] [] [(68, .ep ⟨a55, x54.length, c56⟩ (Int.toNat x51 * 1))] _ rfl ⟨hs104.ix g70, ⟨rfl, trivial⟩, rfl⟩ (JO.storeE ttOk rfl rfl rfl rfl rfl rfl rfl rfl rfl [0] (fs := []) rfl (Int.toNat x51) 0 (at' x54 x51) 32 ⟨at_some g70, rfl⟩ ⟨rfl, rfl, rfl⟩ (JO.done rfl (JS.endB (JS.region (JO.reg ttOk 3 [(W (x51 + 1))] [] [(6, .v (.int .i64 (W (x51 + 1))))] _ rfl ⟨⟨trivial, rfl⟩, ⟨rfl, trivial⟩, rfl⟩ (JO.done rfl (JS.endLA (n76, (W (x51 + 1)), (List.set x54 (Int.toNat x51) 32), a55, c56) h (Nat.lt_succ_self _) ⟨rfl, rfl, rfl, trivial⟩ trivial [] rfl [0, 1, 2, 3] (by simp only [List.length_set, List.length_replicate, pickO, getF, cl26, cl45]; rfl) rfl)))))))
      have h := condF h ht105
      refine JS.exit rfl (JS.endJA (x54, a55, c56) h trivial trivial [] rfl [0, 1, 2, 3] rfl rfl)
    rintro ⟨x80, a81, c82⟩ h
    subst hj106
    cases h
    exact JS.fallX ttOk (a81, c82, a9, c10, a13, c14) trivial rfl rfl [1, 0, 0, 0] rfl

def M_i_Vt_clear (x0 : (Int × Int × List Int × Int × Int × Bool) × Int × List Int × List UInt8 × Int) (x1 : Int) (x2 : Int) : Option ((Int × Int × List Int × Int × Int × Bool) × Int × List Int × List UInt8 × Int) :=
  (joinO (fun (x21 : Int) =>
  (joinO (fun ((x55, x56, x57, x60, x61, x62, x63, x64, x67, x70) : Int × Int × List Int × Int × Int × Bool × Int × List Int × List UInt8 × Int) =>
  some ((x55, x56, x57, x60, x61, x62), x63, x64, x67, x70)) fun j71 =>
  (bif (decide (x21 = 0)) then
  (bindO (M_i_Grid_erase_in45 x0 (W ((W (x0.1.2.2.2.2.1 * x0.1.1)) + x0.1.2.2.2.1)) x2) fun (y28 : (Int × Int × List Int × Int × Int × Bool) × Int × List Int × List UInt8 × Int) =>
  j71 (y28.1.1, y28.1.2.1, y28.1.2.2.1, y28.1.2.2.2.1, y28.1.2.2.2.2.1, y28.1.2.2.2.2.2, y28.2.1, y28.2.2.1, y28.2.2.2.1, y28.2.2.2.2))
  else
  (bif (decide (x21 = 1)) then
  (bindO (M_i_Grid_erase_in45 x0 x1 (W ((W ((W (x0.1.2.2.2.2.1 * x0.1.1)) + x0.1.2.2.2.1)) + 1))) fun (y36 : (Int × Int × List Int × Int × Int × Bool) × Int × List Int × List UInt8 × Int) =>
  j71 (y36.1.1, y36.1.2.1, y36.1.2.2.1, y36.1.2.2.2.1, y36.1.2.2.2.2.1, y36.1.2.2.2.2.2, y36.2.1, y36.2.2.1, y36.2.2.2.1, y36.2.2.2.2))
  else
  (bif (decide (x21 = 2)) then
  (bindO (M_i_Grid_erase_in45 x0 x1 x2) fun (y44 : (Int × Int × List Int × Int × Int × Bool) × Int × List Int × List UInt8 × Int) =>
  j71 (y44.1.1, y44.1.2.1, y44.1.2.2.1, y44.1.2.2.2.1, y44.1.2.2.2.2.1, y44.1.2.2.2.2.2, y44.2.1, y44.2.2.1, y44.2.2.2.1, y44.2.2.2.2))
  else
  j71 (x0.1.1, x0.1.2.1, x0.1.2.2.1, x0.1.2.2.2.1, x0.1.2.2.2.2.1, x0.1.2.2.2.2.2, x0.2.1, x0.2.2.1, x0.2.2.2.1, x0.2.2.2.2)))))) fun j22 =>
  (bif (decide (0 < (x0.2.2.1.length : Int))) then
  (guardO (0 ≤ (0 : Int) ∧ 0 < (x0.2.2.1.length : Int)) <|
  j22 (at' x0.2.2.1 0))
  else
  j22 0))

theorem ok_i_Vt_clear (x0 : (Int × Int × List Int × Int × Int × Bool) × Int × List Int × List UInt8 × Int) (x1 : Int) (x2 : Int) (a4 : Option Addr) (a5 : Option Addr) (c6 : Nat) (l7 : Nat) (hl8 : x0.1.2.2.1.length = l7) (a9 : Option Addr) (c10 : Nat) (l11 : Nat) (hl12 : x0.2.2.1.length = l11) (a13 : Option Addr) (c14 : Nat) (l15 : Nat) (hl16 : x0.2.2.2.1.length = l15) (r : (Int × Int × List Int × Int × Int × Bool) × Int × List Int × List UInt8 × Int) (h : M_i_Vt_clear x0 x1 x2 = some r) :
    FX Try.prog 105 [.pointer a4, .int .i64 x1, .int .i64 x2] [] [⟨(.pair (.pair (.int .i64) (.pair (.int .i64) (.pair .val (.pair (.int .i64) (.pair (.int .i64) .bool))))) (.pair (.int .i64) (.pair .val (.pair .val (.int .i64))))), ⟨a4, 1, 1⟩, [((x0.1.1, x0.1.2.1, (Sl.v ⟨a5, l7, c6⟩), x0.1.2.2.2.1, x0.1.2.2.2.2.1, x0.1.2.2.2.2.2), x0.2.1, (Sl.v ⟨a9, l11, c10⟩), (Sl.v ⟨a13, l15, c14⟩), x0.2.2.2.2)]⟩, ⟨(.int .i64), ⟨a5, l7, c6⟩, x0.1.2.2.1⟩, ⟨(.int .i64), ⟨a9, l11, c10⟩, x0.2.2.1⟩, ⟨.byte, ⟨a13, l15, c14⟩, x0.2.2.2.1⟩] (fun _ : Option Addr × Nat × Option Addr × Nat × Option Addr × Nat => True) (fun q => .tuple #[]) (fun q => [⟨(.pair (.pair (.int .i64) (.pair (.int .i64) (.pair .val (.pair (.int .i64) (.pair (.int .i64) .bool))))) (.pair (.int .i64) (.pair .val (.pair .val (.int .i64))))), ⟨a4, 1, 1⟩, [((r.1.1, r.1.2.1, (Sl.v ⟨q.1, r.1.2.2.1.length, q.2.1⟩), r.1.2.2.2.1, r.1.2.2.2.2.1, r.1.2.2.2.2.2), r.2.1, (Sl.v ⟨q.2.2.1, r.2.2.1.length, q.2.2.2.1⟩), (Sl.v ⟨q.2.2.2.2.1, r.2.2.2.1.length, q.2.2.2.2.2⟩), r.2.2.2.2)]⟩, ⟨(.int .i64), ⟨q.1, r.1.2.2.1.length, q.2.1⟩, r.1.2.2.1⟩, ⟨(.int .i64), ⟨q.2.2.1, r.2.2.1.length, q.2.2.2.1⟩, r.2.2.1⟩, ⟨.byte, ⟨q.2.2.2.2.1, r.2.2.2.1.length, q.2.2.2.2.2⟩, r.2.2.2.1⟩]) :=
  by
    subst hl8
    subst hl12
    subst hl16
    refine FX.of (T := TTx) Try.call105 Try.func105 rfl rfl fun w0 L0 => ?_
    unfold M_i_Vt_clear at h
    refine JS.ptr 0 a4 rfl ?_
    refine JS.seq (JS.region (JO.reg ttOk 1 [] [] [(6, .v (.int .i64 0))] _ rfl ⟨⟨rfl, trivial⟩, rfl⟩ (JO.done rfl ?_)))
    obtain ⟨j22, hj86, h⟩ := joinO_some h
    refine JS.seqJ (ι := Int) ⟨fun z => j22 z = some r, fun z => [(0, .ep ⟨a4, 1, 1⟩ 0), (1, .v (.int .i64 x1)), (2, .v (.int .i64 x2)), (6, .v (.int .i64 z))], fun z => .nil, fun z => [], fun z => [⟨(.pair (.pair (.int .i64) (.pair (.int .i64) (.pair .val (.pair (.int .i64) (.pair (.int .i64) .bool))))) (.pair (.int .i64) (.pair .val (.pair .val (.int .i64))))), ⟨a4, 1, 1⟩, [((x0.1.1, x0.1.2.1, (Sl.v ⟨a5, x0.1.2.2.1.length, c6⟩), x0.1.2.2.2.1, x0.1.2.2.2.2.1, x0.1.2.2.2.2.2), x0.2.1, (Sl.v ⟨a9, x0.2.2.1.length, c10⟩), (Sl.v ⟨a13, x0.2.2.2.1.length, c14⟩), x0.2.2.2.2)]⟩, ⟨(.int .i64), ⟨a5, x0.1.2.2.1.length, c6⟩, x0.1.2.2.1⟩, ⟨(.int .i64), ⟨a9, x0.2.2.1.length, c10⟩, x0.2.2.1⟩, ⟨.byte, ⟨a13, x0.2.2.2.1.length, c14⟩, x0.2.2.2.1⟩], fun z => 0⟩ ?_ ?_
    · refine JS.seq (JS.region (JO.know 0 rfl fun hs77 => JO.reg ttOk 3 [] [] [(10, .ep ⟨a4, 1, 1⟩ 7)] _ rfl ⟨(hs77.fa ptr0).1, hs77.fa ptr0, ⟨rfl, trivial⟩, rfl⟩ (JO.loadV ttOk rfl rfl rfl rfl rfl rfl 0 rfl rfl 0 7 ((x0.1.1, x0.1.2.1, (Sl.v ⟨a5, x0.1.2.2.1.length, c6⟩), x0.1.2.2.2.1, x0.1.2.2.2.2.1, x0.1.2.2.2.2.2), x0.2.1, (Sl.v ⟨a9, x0.2.2.1.length, c10⟩), (Sl.v ⟨a13, x0.2.2.2.1.length, c14⟩), x0.2.2.2.2) ⟨rfl, rfl⟩ rfl rfl rfl (JO.reg ttOk 2 [] [] [(13, .v (.bool (decide (0 < (x0.2.2.1.length : Int)))))] _ rfl ⟨⟨rfl, trivial⟩, rfl⟩ (JO.done rfl ?_)))))
      refine JS.cond rfl (fun ht79 => ?_) (fun ht79 => ?_)
      · have h := condT h ht79
        refine JS.region (JO.reg ttOk 3 [] [] [(16, .ep ⟨a4, 1, 1⟩ 7)] _ rfl ⟨(hs77.fa ptr0).1, hs77.fa ptr0, ⟨rfl, trivial⟩, rfl⟩ (JO.loadV ttOk rfl rfl rfl rfl rfl rfl 0 rfl rfl 0 7 ((x0.1.1, x0.1.2.1, (Sl.v ⟨a5, x0.1.2.2.1.length, c6⟩), x0.1.2.2.2.1, x0.1.2.2.2.2.1, x0.1.2.2.2.2.2), x0.2.1, (Sl.v ⟨a9, x0.2.2.1.length, c10⟩), (Sl.v ⟨a13, x0.2.2.2.1.length, c14⟩), x0.2.2.2.2) ⟨rfl, rfl⟩ rfl rfl rfl (JO.know 2 rfl fun hs78 => ?_)))
        obtain ⟨g19, h⟩ := guardO_some h
        refine JO.reg ttOk 1 [] [] [(18, .ep ⟨a9, x0.2.2.1.length, c10⟩ (Int.toNat 0 * 1))] _ rfl ⟨hs78.ix g19, ⟨rfl, trivial⟩, rfl⟩ (JO.load ttOk rfl rfl rfl rfl rfl rfl rfl 2 rfl rfl (Int.toNat 0) 0 (at' x0.2.2.1 0) ⟨at_some g19, rfl⟩ rfl rfl (JO.reg ttOk 1 [] [] [(6, .v (.int .i64 (at' x0.2.2.1 0)))] _ rfl ⟨⟨rfl, trivial⟩, rfl⟩ (JO.done rfl (JS.endJA (at' x0.2.2.1 0) h ⟨rfl, rfl, rfl, rfl, trivial⟩ trivial [] rfl [0, 1, 2, 3] rfl rfl))))
      have h := condF h ht79
      refine JS.skip (JS.endJA 0 h ⟨rfl, rfl, rfl, rfl, trivial⟩ trivial [] rfl [0, 1, 2, 3] rfl rfl)
    rintro x21 h
    subst hj86
    refine JS.seq (JS.know 0 rfl fun hs81 => JS.regionQ rfl (by kernel_rfl) (JQ.reg ttOk 4 [] [(23, .ep ⟨a4, 1, 1⟩ 4)] rfl ⟨(hs81.fa ptr0).1, hs81.fa ptr0, hs81.fa ptr0, ⟨rfl, trivial⟩⟩ (JQ.loadV ttOk rfl rfl rfl rfl rfl rfl 0 rfl rfl 0 4 ((x0.1.1, x0.1.2.1, (Sl.v ⟨a5, x0.1.2.2.1.length, c6⟩), x0.1.2.2.2.1, x0.1.2.2.2.2.1, x0.1.2.2.2.2.2), x0.2.1, (Sl.v ⟨a9, x0.2.2.1.length, c10⟩), (Sl.v ⟨a13, x0.2.2.2.1.length, c14⟩), x0.2.2.2.2) ⟨rfl, rfl⟩ rfl rfl rfl (JQ.reg ttOk 4 [] [(28, .ep ⟨a4, 1, 1⟩ 0)] rfl ⟨(hs81.fa ptr0).1, hs81.fa ptr0, hs81.fa ptr0, ⟨rfl, trivial⟩⟩ (JQ.loadV ttOk rfl rfl rfl rfl rfl rfl 0 rfl rfl 0 0 ((x0.1.1, x0.1.2.1, (Sl.v ⟨a5, x0.1.2.2.1.length, c6⟩), x0.1.2.2.2.1, x0.1.2.2.2.2.1, x0.1.2.2.2.2.2), x0.2.1, (Sl.v ⟨a9, x0.2.2.1.length, c10⟩), (Sl.v ⟨a13, x0.2.2.2.1.length, c14⟩), x0.2.2.2.2) ⟨rfl, rfl⟩ rfl rfl rfl (JQ.reg ttOk 5 [(W (x0.1.2.2.2.2.1 * x0.1.1))] [(30, .v (.int .i64 (W (x0.1.2.2.2.2.1 * x0.1.1)))), (34, .ep ⟨a4, 1, 1⟩ 3)] rfl ⟨⟨trivial, rfl⟩, (hs81.fa ptr0).1, hs81.fa ptr0, hs81.fa ptr0, ⟨rfl, rfl, trivial⟩⟩ (JQ.loadV ttOk rfl rfl rfl rfl rfl rfl 0 rfl rfl 0 3 ((x0.1.1, x0.1.2.1, (Sl.v ⟨a5, x0.1.2.2.1.length, c6⟩), x0.1.2.2.2.1, x0.1.2.2.2.2.1, x0.1.2.2.2.2.2), x0.2.1, (Sl.v ⟨a9, x0.2.2.1.length, c10⟩), (Sl.v ⟨a13, x0.2.2.2.1.length, c14⟩), x0.2.2.2.2) ⟨rfl, rfl⟩ rfl rfl rfl (JQ.reg ttOk 2 [(W ((W (x0.1.2.2.2.2.1 * x0.1.1)) + x0.1.2.2.2.1))] [(7, .v (.int .i64 (W ((W (x0.1.2.2.2.2.1 * x0.1.1)) + x0.1.2.2.2.1))))] rfl ⟨⟨trivial, rfl⟩, ⟨rfl, trivial⟩⟩ (JQ.done rfl (JS.seq (JS.region (JO.reg ttOk 1 [] [] [(37, .v (.int .i64 x21))] _ rfl ⟨⟨rfl, trivial⟩, rfl⟩ (JO.done rfl ?_)))))))))))))
    obtain ⟨j71, hj85, h⟩ := joinO_some h
    refine JS.blockJ (ι := Int × Int × List Int × Int × Int × Bool × Int × List Int × List UInt8 × Int × Option Addr × Nat × Option Addr × Nat × Option Addr × Nat) ⟨fun z => j71 (z.1, z.2.1, z.2.2.1, z.2.2.2.1, z.2.2.2.2.1, z.2.2.2.2.2.1, z.2.2.2.2.2.2.1, z.2.2.2.2.2.2.2.1, z.2.2.2.2.2.2.2.2.1, z.2.2.2.2.2.2.2.2.2.1) = some r, fun z => [], fun z => .nil, fun z => [], fun z => [⟨(.int .i64), ⟨z.2.2.2.2.2.2.2.2.2.2.1, z.2.2.1.length, z.2.2.2.2.2.2.2.2.2.2.2.1⟩, z.2.2.1⟩, ⟨(.int .i64), ⟨z.2.2.2.2.2.2.2.2.2.2.2.2.1, z.2.2.2.2.2.2.2.1.length, z.2.2.2.2.2.2.2.2.2.2.2.2.2.1⟩, z.2.2.2.2.2.2.2.1⟩, ⟨.byte, ⟨z.2.2.2.2.2.2.2.2.2.2.2.2.2.2.1, z.2.2.2.2.2.2.2.2.1.length, z.2.2.2.2.2.2.2.2.2.2.2.2.2.2.2⟩, z.2.2.2.2.2.2.2.2.1⟩, ⟨(.pair (.pair (.int .i64) (.pair (.int .i64) (.pair .val (.pair (.int .i64) (.pair (.int .i64) .bool))))) (.pair (.int .i64) (.pair .val (.pair .val (.int .i64))))), ⟨a4, 1, 1⟩, [((z.1, z.2.1, (Sl.v ⟨z.2.2.2.2.2.2.2.2.2.2.1, z.2.2.1.length, z.2.2.2.2.2.2.2.2.2.2.2.1⟩), z.2.2.2.1, z.2.2.2.2.1, z.2.2.2.2.2.1), z.2.2.2.2.2.2.1, (Sl.v ⟨z.2.2.2.2.2.2.2.2.2.2.2.2.1, z.2.2.2.2.2.2.2.1.length, z.2.2.2.2.2.2.2.2.2.2.2.2.2.1⟩), (Sl.v ⟨z.2.2.2.2.2.2.2.2.2.2.2.2.2.2.1, z.2.2.2.2.2.2.2.2.1.length, z.2.2.2.2.2.2.2.2.2.2.2.2.2.2.2⟩), z.2.2.2.2.2.2.2.2.2.1)]⟩], fun z => 0⟩ ?_ ?_
    · refine JS.seq (JS.region (JO.reg ttOk 2 [] [] [(38, .v (.bool (decide (x21 = 0))))] _ rfl ⟨⟨rfl, trivial⟩, rfl⟩ (JO.done rfl ?_)))
      refine JS.cond rfl (fun ht84 => ?_) (fun ht84 => ?_)
      · have h := condT h ht84
        refine JS.region (JO.reg ttOk 5 [] [] [(42, .ep ⟨a4, 1, 1⟩ 0), (43, .v (.int .i64 (W ((W (x0.1.2.2.2.2.1 * x0.1.1)) + x0.1.2.2.2.1)))), (44, .v (.int .i64 x2))] _ rfl ⟨(hs81.fa ptr0).1, hs81.fa ptr0, ⟨rfl, rfl, rfl, trivial⟩, rfl⟩ ?_)
        obtain ⟨y28, hy29, h⟩ := bindO_some h
        refine JO.callX rfl rfl rfl rfl (ok_i_Grid_erase_in45 x0 (W ((W (x0.1.2.2.2.2.1 * x0.1.1)) + x0.1.2.2.2.1)) x2 a4 a5 c6 x0.1.2.2.1.length rfl a9 c10 x0.2.2.1.length rfl a13 c14 x0.2.2.2.1.length rfl _ hy29) rfl [0, 0, 0, 0] rfl [] rfl rfl ?_
        rintro ⟨a30, c31, a32, c33, a34, c35⟩ -
        refine JO.done rfl (JS.endB (JS.endJA (y28.1.1, y28.1.2.1, y28.1.2.2.1, y28.1.2.2.2.1, y28.1.2.2.2.2.1, y28.1.2.2.2.2.2, y28.2.1, y28.2.2.1, y28.2.2.2.1, y28.2.2.2.2, a30, c31, a32, c33, a34, c35) h trivial trivial [] rfl [1, 2, 3, 0] rfl rfl))
      have h := condF h ht84
      refine JS.seq (JS.region (JO.reg ttOk 2 [] [] [(46, .v (.bool (decide (x21 = 1))))] _ rfl ⟨⟨rfl, trivial⟩, rfl⟩ (JO.done rfl ?_)))
      refine JS.cond rfl (fun ht83 => ?_) (fun ht83 => ?_)
      · have h := condT h ht83
        refine JS.region (JO.reg ttOk 6 [(W ((W ((W (x0.1.2.2.2.2.1 * x0.1.1)) + x0.1.2.2.2.1)) + 1))] [] [(50, .ep ⟨a4, 1, 1⟩ 0), (51, .v (.int .i64 x1)), (53, .v (.int .i64 (W ((W ((W (x0.1.2.2.2.2.1 * x0.1.1)) + x0.1.2.2.2.1)) + 1))))] _ rfl ⟨(hs81.fa ptr0).1, hs81.fa ptr0, ⟨trivial, rfl⟩, ⟨rfl, rfl, rfl, trivial⟩, rfl⟩ ?_)
        obtain ⟨y36, hy37, h⟩ := bindO_some h
        refine JO.callX rfl rfl rfl rfl (ok_i_Grid_erase_in45 x0 x1 (W ((W ((W (x0.1.2.2.2.2.1 * x0.1.1)) + x0.1.2.2.2.1)) + 1)) a4 a5 c6 x0.1.2.2.1.length rfl a9 c10 x0.2.2.1.length rfl a13 c14 x0.2.2.2.1.length rfl _ hy37) rfl [0, 0, 0, 0] rfl [] rfl rfl ?_
        rintro ⟨a38, c39, a40, c41, a42, c43⟩ -
        refine JO.done rfl (JS.endB (JS.endJA (y36.1.1, y36.1.2.1, y36.1.2.2.1, y36.1.2.2.2.1, y36.1.2.2.2.2.1, y36.1.2.2.2.2.2, y36.2.1, y36.2.2.1, y36.2.2.2.1, y36.2.2.2.2, a38, c39, a40, c41, a42, c43) h trivial trivial [] rfl [1, 2, 3, 0] rfl rfl))
      have h := condF h ht83
      refine JS.seq (JS.region (JO.reg ttOk 2 [] [] [(55, .v (.bool (decide (x21 = 2))))] _ rfl ⟨⟨rfl, trivial⟩, rfl⟩ (JO.done rfl ?_)))
      refine JS.cond rfl (fun ht82 => ?_) (fun ht82 => ?_)
      · have h := condT h ht82
        refine JS.region (JO.reg ttOk 5 [] [] [(59, .ep ⟨a4, 1, 1⟩ 0), (60, .v (.int .i64 x1)), (61, .v (.int .i64 x2))] _ rfl ⟨(hs81.fa ptr0).1, hs81.fa ptr0, ⟨rfl, rfl, rfl, trivial⟩, rfl⟩ ?_)
        obtain ⟨y44, hy45, h⟩ := bindO_some h
        refine JO.callX rfl rfl rfl rfl (ok_i_Grid_erase_in45 x0 x1 x2 a4 a5 c6 x0.1.2.2.1.length rfl a9 c10 x0.2.2.1.length rfl a13 c14 x0.2.2.2.1.length rfl _ hy45) rfl [0, 0, 0, 0] rfl [] rfl rfl ?_
        rintro ⟨a46, c47, a48, c49, a50, c51⟩ -
        refine JO.done rfl (JS.endB (JS.endJA (y44.1.1, y44.1.2.1, y44.1.2.2.1, y44.1.2.2.2.1, y44.1.2.2.2.2.1, y44.1.2.2.2.2.2, y44.2.1, y44.2.2.1, y44.2.2.2.1, y44.2.2.2.2, a46, c47, a48, c49, a50, c51) h trivial trivial [] rfl [1, 2, 3, 0] rfl rfl))
      have h := condF h ht82
      refine JS.skip (JS.endB (JS.endJA (x0.1.1, x0.1.2.1, x0.1.2.2.1, x0.1.2.2.2.1, x0.1.2.2.2.2.1, x0.1.2.2.2.2.2, x0.2.1, x0.2.2.1, x0.2.2.2.1, x0.2.2.2.2, a5, c6, a9, c10, a13, c14) h trivial trivial [] rfl [1, 2, 3, 0] rfl rfl))
    rintro ⟨x55, x56, x57, x60, x61, x62, x63, x64, x67, x70, a58, c59, a65, c66, a68, c69⟩ h
    subst hj85
    cases h
    exact JS.fallX ttOk (a58, c59, a65, c66, a68, c69) trivial rfl rfl [3, 0, 0, 0] rfl

def M_i_Grid_moveTo (x0 : Int × Int × List Int × Int × Int × Bool) (x1 : Int) (x2 : Int) : Option (Int × Int × List Int × Int × Int × Bool) :=
  some (x0.1, x0.2.1, x0.2.2.1, (max (0 : Int) (min x1 (W (x0.1 - 1)))), (max (0 : Int) (min x2 (W (x0.2.1 - 1)))), false)

theorem ok_i_Grid_moveTo (x0 : Int × Int × List Int × Int × Int × Bool) (x1 : Int) (x2 : Int) (a4 : Option Addr) (a5 : Option Addr) (c6 : Nat) (l7 : Nat) (hl8 : x0.2.2.1.length = l7) (r : Int × Int × List Int × Int × Int × Bool) (h : M_i_Grid_moveTo x0 x1 x2 = some r) :
    FX Try.prog 99 [.pointer a4, .int .i64 x1, .int .i64 x2] [⟨(.int .i64), ⟨a5, l7, c6⟩, x0.2.2.1⟩] [⟨(.pair (.int .i64) (.pair (.int .i64) (.pair .val (.pair (.int .i64) (.pair (.int .i64) .bool))))), ⟨a4, 1, 1⟩, [(x0.1, x0.2.1, (Sl.v ⟨a5, l7, c6⟩), x0.2.2.2.1, x0.2.2.2.2.1, x0.2.2.2.2.2)]⟩] (fun _ : Unit => True) (fun _ => .tuple #[]) (fun _ => [⟨(.pair (.int .i64) (.pair (.int .i64) (.pair .val (.pair (.int .i64) (.pair (.int .i64) .bool))))), ⟨a4, 1, 1⟩, [(r.1, r.2.1, (Sl.v ⟨a5, l7, c6⟩), r.2.2.2.1, r.2.2.2.2.1, r.2.2.2.2.2)]⟩]) :=
  by
    subst hl8
    refine FX.of (T := TTx) Try.call99 Try.func99 rfl rfl fun w0 L0 => ?_
    unfold M_i_Grid_moveTo at h
    refine JS.ptr 0 a4 rfl ?_
    refine JS.know 1 rfl fun hs13 => ?_
    refine JS.regionA rfl .nil [1] [19, 20, 21, 22, 23, 24, 25, 26, 27] trivial rfl (fun be11 => ?_)
    refine JA.reg ttOk panic_cxX true 20 [0, 3, 4, 5, 6, 12, 13, 14] rfl (by kernel_rfl) [] [(6, .ep ⟨a4, 1, 1⟩ 0), (9, .v (.int .i64 x1)), (12, .ep ⟨a4, 1, 1⟩ 0), (20, .ep ⟨a4, 1, 1⟩ 1)] trivial [1] rfl rfl ⟨(hs13.fa ptr0).1, hs13.fa ptr0, (hs13.fa ptr0).1, hs13.fa ptr0, ⟨rfl, rfl, rfl, rfl, trivial⟩⟩ (JA.regL ttOk panic_cxX 17 [1, 2, 11] rfl (by kernel_rfl) [] [(7, .ep ⟨a4, 1, 1⟩ 0), (8, .ep ⟨a4, 1, 1⟩ 0), (17, .v (.int .i64 x2))] rfl ⟨rfl, rfl, rfl, trivial⟩ (JA.loadV ttOk panic_cxX 7 rfl (by kernel_rfl) rfl rfl rfl rfl rfl 0 rfl rfl 0 0 (x0.1, x0.2.1, (Sl.v ⟨a5, x0.2.2.1.length, c6⟩), x0.2.2.2.1, x0.2.2.2.2.1, x0.2.2.2.2.2) ⟨rfl, rfl⟩ rfl rfl rfl trivial [1] rfl (JA.reg ttOk panic_cxX true 13 [8, 9, 10] rfl (by kernel_rfl) [(W (x0.1 - 1))] [(16, .v (.int .i64 (max (0 : Int) (min x1 (W (x0.1 - 1))))))] trivial [1] rfl rfl ⟨⟨trivial, rfl⟩, ⟨rfl, trivial⟩⟩ (JA.loadV ttOk panic_cxX 15 rfl (by kernel_rfl) rfl rfl rfl rfl rfl 0 rfl rfl 0 1 (x0.1, x0.2.1, (Sl.v ⟨a5, x0.2.2.1.length, c6⟩), x0.2.2.2.1, x0.2.2.2.2.1, x0.2.2.2.2.2) ⟨rfl, rfl⟩ rfl rfl rfl trivial [1] rfl (JA.regL ttOk panic_cxX 7 [16, 17, 18, 19, 20] rfl (by kernel_rfl) [(W (x0.2.1 - 1))] [(24, .v (.int .i64 (max (0 : Int) (min x2 (W (x0.2.1 - 1)))))), (26, .ep ⟨a4, 1, 1⟩ 3)] rfl ⟨⟨trivial, rfl⟩, (hs13.fa ptr0).1, hs13.fa ptr0, ⟨rfl, rfl, trivial⟩⟩ (JA.one 21 (by kernel_rfl) (JK.storeE ttOk rfl rfl rfl rfl rfl rfl rfl rfl rfl [0] (fs := []) rfl 0 3 (x0.1, x0.2.1, (Sl.v ⟨a5, x0.2.2.1.length, c6⟩), x0.2.2.2.1, x0.2.2.2.2.1, x0.2.2.2.2.2) (x0.1, x0.2.1, (Sl.v ⟨a5, x0.2.2.1.length, c6⟩), (max (0 : Int) (min x1 (W (x0.1 - 1)))), x0.2.2.2.2.1, x0.2.2.2.2.2) ⟨rfl, rfl⟩ ⟨⟨⟨⟨⟨rfl, rfl, rfl⟩, rfl⟩, rfl⟩, rfl⟩, rfl⟩ (JA.nextL rfl (JA.regL ttOk panic_cxX 4 [22, 23] rfl (by kernel_rfl) [] [(28, .ep ⟨a4, 1, 1⟩ 4)] rfl ⟨(hs13.fa ptr0).1, hs13.fa ptr0, ⟨rfl, trivial⟩⟩ (JA.one 24 (by kernel_rfl) (JK.storeE ttOk rfl rfl rfl rfl rfl rfl rfl rfl rfl [0] (fs := []) rfl 0 4 (x0.1, x0.2.1, (Sl.v ⟨a5, x0.2.2.1.length, c6⟩), (max (0 : Int) (min x1 (W (x0.1 - 1)))), x0.2.2.2.2.1, x0.2.2.2.2.2) (x0.1, x0.2.1, (Sl.v ⟨a5, x0.2.2.1.length, c6⟩), (max (0 : Int) (min x1 (W (x0.1 - 1)))), (max (0 : Int) (min x2 (W (x0.2.1 - 1)))), x0.2.2.2.2.2) ⟨rfl, rfl⟩ ⟨⟨⟨⟨⟨⟨rfl, rfl, rfl⟩, rfl⟩, rfl⟩, rfl⟩, rfl⟩, rfl⟩ (JA.nextL rfl (JA.regL ttOk panic_cxX 1 [25, 26] rfl (by kernel_rfl) [] [(30, .ep ⟨a4, 1, 1⟩ 5)] rfl ⟨(hs13.fa ptr0).1, hs13.fa ptr0, ⟨rfl, trivial⟩⟩ (JA.one 27 (by kernel_rfl) (JK.storeE ttOk rfl rfl rfl rfl rfl rfl rfl rfl rfl [0] (fs := []) rfl 0 5 (x0.1, x0.2.1, (Sl.v ⟨a5, x0.2.2.1.length, c6⟩), (max (0 : Int) (min x1 (W (x0.1 - 1)))), (max (0 : Int) (min x2 (W (x0.2.1 - 1)))), x0.2.2.2.2.2) (x0.1, x0.2.1, (Sl.v ⟨a5, x0.2.2.1.length, c6⟩), (max (0 : Int) (min x1 (W (x0.1 - 1)))), (max (0 : Int) (min x2 (W (x0.2.1 - 1)))), false) ⟨rfl, rfl⟩ ⟨⟨⟨⟨⟨⟨rfl, rfl, rfl⟩, rfl⟩, rfl⟩, rfl⟩, rfl⟩, rfl⟩ (JA.nextL rfl (JA.done (by kernel_rfl) (JS.boxes (B' := .nil) trivial ?_))))))))))))))))))
    cases h
    exact JS.fallX ttOk () trivial rfl rfl [0] rfl

def M_i_Grid_moveTo_in45 (x0 : (Int × Int × List Int × Int × Int × Bool) × Int × List Int × List UInt8 × Int) (x1 : Int) (x2 : Int) : Option ((Int × Int × List Int × Int × Int × Bool) × Int × List Int × List UInt8 × Int) :=
  some ((x0.1.1, x0.1.2.1, x0.1.2.2.1, (max (0 : Int) (min x1 (W (x0.1.1 - 1)))), (max (0 : Int) (min x2 (W (x0.1.2.1 - 1)))), false), x0.2.1, x0.2.2.1, x0.2.2.2.1, x0.2.2.2.2)

theorem ok_i_Grid_moveTo_in45 (x0 : (Int × Int × List Int × Int × Int × Bool) × Int × List Int × List UInt8 × Int) (x1 : Int) (x2 : Int) (a4 : Option Addr) (a5 : Option Addr) (c6 : Nat) (l7 : Nat) (hl8 : x0.1.2.2.1.length = l7) (a9 : Option Addr) (c10 : Nat) (l11 : Nat) (hl12 : x0.2.2.1.length = l11) (a13 : Option Addr) (c14 : Nat) (l15 : Nat) (hl16 : x0.2.2.2.1.length = l15) (r : (Int × Int × List Int × Int × Int × Bool) × Int × List Int × List UInt8 × Int) (h : M_i_Grid_moveTo_in45 x0 x1 x2 = some r) :
    FX Try.prog 99 [.pointer a4, .int .i64 x1, .int .i64 x2] [] [⟨(.pair (.pair (.int .i64) (.pair (.int .i64) (.pair .val (.pair (.int .i64) (.pair (.int .i64) .bool))))) (.pair (.int .i64) (.pair .val (.pair .val (.int .i64))))), ⟨a4, 1, 1⟩, [((x0.1.1, x0.1.2.1, (Sl.v ⟨a5, l7, c6⟩), x0.1.2.2.2.1, x0.1.2.2.2.2.1, x0.1.2.2.2.2.2), x0.2.1, (Sl.v ⟨a9, l11, c10⟩), (Sl.v ⟨a13, l15, c14⟩), x0.2.2.2.2)]⟩, ⟨(.int .i64), ⟨a5, l7, c6⟩, x0.1.2.2.1⟩, ⟨(.int .i64), ⟨a9, l11, c10⟩, x0.2.2.1⟩, ⟨.byte, ⟨a13, l15, c14⟩, x0.2.2.2.1⟩] (fun _ : Option Addr × Nat × Option Addr × Nat × Option Addr × Nat => True) (fun q => .tuple #[]) (fun q => [⟨(.pair (.pair (.int .i64) (.pair (.int .i64) (.pair .val (.pair (.int .i64) (.pair (.int .i64) .bool))))) (.pair (.int .i64) (.pair .val (.pair .val (.int .i64))))), ⟨a4, 1, 1⟩, [((r.1.1, r.1.2.1, (Sl.v ⟨q.1, r.1.2.2.1.length, q.2.1⟩), r.1.2.2.2.1, r.1.2.2.2.2.1, r.1.2.2.2.2.2), r.2.1, (Sl.v ⟨q.2.2.1, r.2.2.1.length, q.2.2.2.1⟩), (Sl.v ⟨q.2.2.2.2.1, r.2.2.2.1.length, q.2.2.2.2.2⟩), r.2.2.2.2)]⟩, ⟨(.int .i64), ⟨q.1, r.1.2.2.1.length, q.2.1⟩, r.1.2.2.1⟩, ⟨(.int .i64), ⟨q.2.2.1, r.2.2.1.length, q.2.2.2.1⟩, r.2.2.1⟩, ⟨.byte, ⟨q.2.2.2.2.1, r.2.2.2.1.length, q.2.2.2.2.2⟩, r.2.2.2.1⟩]) :=
  by
    subst hl8
    subst hl12
    subst hl16
    refine FX.of (T := TTx) Try.call99 Try.func99 rfl rfl fun w0 L0 => ?_
    unfold M_i_Grid_moveTo_in45 at h
    refine JS.ptr 0 a4 rfl ?_
    refine JS.know 0 rfl fun hs21 => ?_
    refine JS.regionA rfl .nil [0] [19, 20, 21, 22, 23, 24, 25, 26, 27] trivial rfl (fun be19 => ?_)
    refine JA.reg ttOk panic_cxX true 20 [0, 3, 4, 5, 6, 12, 13, 14] rfl (by kernel_rfl) [] [(6, .ep ⟨a4, 1, 1⟩ 0), (9, .v (.int .i64 x1)), (12, .ep ⟨a4, 1, 1⟩ 0), (20, .ep ⟨a4, 1, 1⟩ 1)] trivial [0] rfl rfl ⟨(hs21.fa ptr0).1, hs21.fa ptr0, (hs21.fa ptr0).1, hs21.fa ptr0, ⟨rfl, rfl, rfl, rfl, trivial⟩⟩ (JA.regL ttOk panic_cxX 17 [1, 2, 11] rfl (by kernel_rfl) [] [(7, .ep ⟨a4, 1, 1⟩ 0), (8, .ep ⟨a4, 1, 1⟩ 0), (17, .v (.int .i64 x2))] rfl ⟨rfl, rfl, rfl, trivial⟩ (JA.loadV ttOk panic_cxX 7 rfl (by kernel_rfl) rfl rfl rfl rfl rfl 0 rfl rfl 0 0 ((x0.1.1, x0.1.2.1, (Sl.v ⟨a5, x0.1.2.2.1.length, c6⟩), x0.1.2.2.2.1, x0.1.2.2.2.2.1, x0.1.2.2.2.2.2), x0.2.1, (Sl.v ⟨a9, x0.2.2.1.length, c10⟩), (Sl.v ⟨a13, x0.2.2.2.1.length, c14⟩), x0.2.2.2.2) ⟨rfl, rfl⟩ rfl rfl rfl trivial [0] rfl (JA.reg ttOk panic_cxX true 13 [8, 9, 10] rfl (by kernel_rfl) [(W (x0.1.1 - 1))] [(16, .v (.int .i64 (max (0 : Int) (min x1 (W (x0.1.1 - 1))))))] trivial [0] rfl rfl ⟨⟨trivial, rfl⟩, ⟨rfl, trivial⟩⟩ (JA.loadV ttOk panic_cxX 15 rfl (by kernel_rfl) rfl rfl rfl rfl rfl 0 rfl rfl 0 1 ((x0.1.1, x0.1.2.1, (Sl.v ⟨a5, x0.1.2.2.1.length, c6⟩), x0.1.2.2.2.1, x0.1.2.2.2.2.1, x0.1.2.2.2.2.2), x0.2.1, (Sl.v ⟨a9, x0.2.2.1.length, c10⟩), (Sl.v ⟨a13, x0.2.2.2.1.length, c14⟩), x0.2.2.2.2) ⟨rfl, rfl⟩ rfl rfl rfl trivial [0] rfl (JA.regL ttOk panic_cxX 7 [16, 17, 18, 19, 20] rfl (by kernel_rfl) [(W (x0.1.2.1 - 1))] [(24, .v (.int .i64 (max (0 : Int) (min x2 (W (x0.1.2.1 - 1)))))), (26, .ep ⟨a4, 1, 1⟩ 3)] rfl ⟨⟨trivial, rfl⟩, (hs21.fa ptr0).1, hs21.fa ptr0, ⟨rfl, rfl, trivial⟩⟩ (JA.one 21 (by kernel_rfl) (JK.storeE ttOk rfl rfl rfl rfl rfl rfl rfl rfl rfl [0] (fs := []) rfl 0 3 ((x0.1.1, x0.1.2.1, (Sl.v ⟨a5, x0.1.2.2.1.length, c6⟩), x0.1.2.2.2.1, x0.1.2.2.2.2.1, x0.1.2.2.2.2.2), x0.2.1, (Sl.v ⟨a9, x0.2.2.1.length, c10⟩), (Sl.v ⟨a13, x0.2.2.2.1.length, c14⟩), x0.2.2.2.2) ((x0.1.1, x0.1.2.1, (Sl.v ⟨a5, x0.1.2.2.1.length, c6⟩), (max (0 : Int) (min x1 (W (x0.1.1 - 1)))), x0.1.2.2.2.2.1, x0.1.2.2.2.2.2), x0.2.1, (Sl.v ⟨a9, x0.2.2.1.length, c10⟩), (Sl.v ⟨a13, x0.2.2.2.1.length, c14⟩), x0.2.2.2.2) ⟨rfl, rfl⟩ ⟨⟨⟨⟨⟨⟨rfl, rfl, rfl⟩, rfl⟩, rfl⟩, rfl⟩, rfl⟩, rfl⟩ (JA.nextL rfl (JA.regL ttOk panic_cxX 4 [22, 23] rfl (by kernel_rfl) [] [(28, .ep ⟨a4, 1, 1⟩ 4)] rfl ⟨(hs21.fa ptr0).1, hs21.fa ptr0, ⟨rfl, trivial⟩⟩ (JA.one 24 (by kernel_rfl) (JK.storeE ttOk rfl rfl rfl rfl rfl rfl rfl rfl rfl [0] (fs := []) rfl 0 4 ((x0.1.1, x0.1.2.1, (Sl.v ⟨a5, x0.1.2.2.1.length, c6⟩), (max (0 : Int) (min x1 (W (x0.1.1 - 1)))), x0.1.2.2.2.2.1, x0.1.2.2.2.2.2), x0.2.1, (Sl.v ⟨a9, x0.2.2.1.length, c10⟩), (Sl.v ⟨a13, x0.2.2.2.1.length, c14⟩), x0.2.2.2.2) ((x0.1.1, x0.1.2.1, (Sl.v ⟨a5, x0.1.2.2.1.length, c6⟩), (max (0 : Int) (min x1 (W (x0.1.1 - 1)))), (max (0 : Int) (min x2 (W (x0.1.2.1 - 1)))), x0.1.2.2.2.2.2), x0.2.1, (Sl.v ⟨a9, x0.2.2.1.length, c10⟩), (Sl.v ⟨a13, x0.2.2.2.1.length, c14⟩), x0.2.2.2.2) ⟨rfl, rfl⟩ ⟨⟨⟨⟨⟨⟨⟨rfl, rfl, rfl⟩, rfl⟩, rfl⟩, rfl⟩, rfl⟩, rfl⟩, rfl⟩ (JA.nextL rfl (JA.regL ttOk panic_cxX 1 [25, 26] rfl (by kernel_rfl) [] [(30, .ep ⟨a4, 1, 1⟩ 5)] rfl ⟨(hs21.fa ptr0).1, hs21.fa ptr0, ⟨rfl, trivial⟩⟩ (JA.one 27 (by kernel_rfl) (JK.storeE ttOk rfl rfl rfl rfl rfl rfl rfl rfl rfl [0] (fs := []) rfl 0 5 ((x0.1.1, x0.1.2.1, (Sl.v ⟨a5, x0.1.2.2.1.length, c6⟩), (max (0 : Int) (min x1 (W (x0.1.1 - 1)))), (max (0 : Int) (min x2 (W (x0.1.2.1 - 1)))), x0.1.2.2.2.2.2), x0.2.1, (Sl.v ⟨a9, x0.2.2.1.length, c10⟩), (Sl.v ⟨a13, x0.2.2.2.1.length, c14⟩), x0.2.2.2.2) ((x0.1.1, x0.1.2.1, (Sl.v ⟨a5, x0.1.2.2.1.length, c6⟩), (max (0 : Int) (min x1 (W (x0.1.1 - 1)))), (max (0 : Int) (min x2 (W (x0.1.2.1 - 1)))), false), x0.2.1, (Sl.v ⟨a9, x0.2.2.1.length, c10⟩), (Sl.v ⟨a13, x0.2.2.2.1.length, c14⟩), x0.2.2.2.2) ⟨rfl, rfl⟩ ⟨⟨⟨⟨⟨⟨⟨rfl, rfl, rfl⟩, rfl⟩, rfl⟩, rfl⟩, rfl⟩, rfl⟩, rfl⟩ (JA.nextL rfl (JA.done (by kernel_rfl) (JS.boxes (B' := .nil) trivial ?_))))))))))))))))))
    cases h
    exact JS.fallX ttOk (a5, c6, a9, c10, a13, c14) trivial rfl rfl [0, 0, 0, 0] rfl

def M_i_Vt_control (x0 : (Int × Int × List Int × Int × Int × Bool) × Int × List Int × List UInt8 × Int) (x1 : Int) : Option ((Int × Int × List Int × Int × Int × Bool) × Int × List Int × List UInt8 × Int) :=
  (bindO (M_i_Vt_arg x0 0) fun (y17, y18) =>
  (joinO (fun ((x103, x104, x105, x108, x109, x110, x111, x112, x115, x118) : Int × Int × List Int × Int × Int × Bool × Int × List Int × List UInt8 × Int) =>
  some ((x103, x104, x105, x108, x109, x110), x111, x112, x115, x118)) fun j119 =>
  (bif (decide (x1 = 65)) then
  (bindO (M_i_Grid_moveTo_in45 y18 y18.1.2.2.2.1 (W (y18.1.2.2.2.2.1 - y17))) fun (y26 : (Int × Int × List Int × Int × Int × Bool) × Int × List Int × List UInt8 × Int) =>
  j119 (y26.1.1, y26.1.2.1, y26.1.2.2.1, y26.1.2.2.2.1, y26.1.2.2.2.2.1, y26.1.2.2.2.2.2, y26.2.1, y26.2.2.1, y26.2.2.2.1, y26.2.2.2.2))
  else
  (bif (decide (x1 = 66)) then
  (bindO (M_i_Grid_moveTo_in45 y18 y18.1.2.2.2.1 (W (y18.1.2.2.2.2.1 + y17))) fun (y35 : (Int × Int × List Int × Int × Int × Bool) × Int × List Int × List UInt8 × Int) =>
  j119 (y35.1.1, y35.1.2.1, y35.1.2.2.1, y35.1.2.2.2.1, y35.1.2.2.2.2.1, y35.1.2.2.2.2.2, y35.2.1, y35.2.2.1, y35.2.2.2.1, y35.2.2.2.2))
  else
  (bif (decide (x1 = 67)) then
  (bindO (M_i_Grid_moveTo_in45 y18 (W (y18.1.2.2.2.1 + y17)) y18.1.2.2.2.2.1) fun (y44 : (Int × Int × List Int × Int × Int × Bool) × Int × List Int × List UInt8 × Int) =>
  j119 (y44.1.1, y44.1.2.1, y44.1.2.2.1, y44.1.2.2.2.1, y44.1.2.2.2.2.1, y44.1.2.2.2.2.2, y44.2.1, y44.2.2.1, y44.2.2.2.1, y44.2.2.2.2))
  else
  (bif (decide (x1 = 68)) then
  (bindO (M_i_Grid_moveTo_in45 y18 (W (y18.1.2.2.2.1 - y17)) y18.1.2.2.2.2.1) fun (y53 : (Int × Int × List Int × Int × Int × Bool) × Int × List Int × List UInt8 × Int) =>
  j119 (y53.1.1, y53.1.2.1, y53.1.2.2.1, y53.1.2.2.2.1, y53.1.2.2.2.2.1, y53.1.2.2.2.2.2, y53.2.1, y53.2.2.1, y53.2.2.2.1, y53.2.2.2.2))
  else
  (bif (decide (x1 = 72)) then
  (bindO (M_i_Vt_arg y18 1) fun (y62, y63) =>
  (bindO (M_i_Grid_moveTo_in45 y63 (W (y62 - 1)) (W (y17 - 1))) fun (y71 : (Int × Int × List Int × Int × Int × Bool) × Int × List Int × List UInt8 × Int) =>
  j119 (y71.1.1, y71.1.2.1, y71.1.2.2.1, y71.1.2.2.2.1, y71.1.2.2.2.2.1, y71.1.2.2.2.2.2, y71.2.1, y71.2.2.1, y71.2.2.2.1, y71.2.2.2.2)))
  else
  (bif (decide (x1 = 74)) then
  (bindO (M_i_Vt_clear y18 0 (y18.1.2.2.1.length : Int)) fun (y79 : (Int × Int × List Int × Int × Int × Bool) × Int × List Int × List UInt8 × Int) =>
  j119 (y79.1.1, y79.1.2.1, y79.1.2.2.1, y79.1.2.2.2.1, y79.1.2.2.2.2.1, y79.1.2.2.2.2.2, y79.2.1, y79.2.2.1, y79.2.2.2.1, y79.2.2.2.2))
  else
  (bif (decide (x1 = 75)) then
  (bindO (M_i_Vt_clear y18 (W (y18.1.2.2.2.2.1 * y18.1.1)) (W ((W (y18.1.2.2.2.2.1 + 1)) * y18.1.1))) fun (y87 : (Int × Int × List Int × Int × Int × Bool) × Int × List Int × List UInt8 × Int) =>
  j119 (y87.1.1, y87.1.2.1, y87.1.2.2.1, y87.1.2.2.2.1, y87.1.2.2.2.2.1, y87.1.2.2.2.2.2, y87.2.1, y87.2.2.1, y87.2.2.2.1, y87.2.2.2.2))
  else
  j119 (y18.1.1, y18.1.2.1, y18.1.2.2.1, y18.1.2.2.2.1, y18.1.2.2.2.2.1, y18.1.2.2.2.2.2, y18.2.1, y18.2.2.1, y18.2.2.2.1, y18.2.2.2.2))))))))))

theorem ok_i_Vt_control (x0 : (Int × Int × List Int × Int × Int × Bool) × Int × List Int × List UInt8 × Int) (x1 : Int) (a3 : Option Addr) (a4 : Option Addr) (c5 : Nat) (l6 : Nat) (hl7 : x0.1.2.2.1.length = l6) (a8 : Option Addr) (c9 : Nat) (l10 : Nat) (hl11 : x0.2.2.1.length = l10) (a12 : Option Addr) (c13 : Nat) (l14 : Nat) (hl15 : x0.2.2.2.1.length = l14) (r : (Int × Int × List Int × Int × Int × Bool) × Int × List Int × List UInt8 × Int) (h : M_i_Vt_control x0 x1 = some r) :
    FX Try.prog 100 [.pointer a3, .int .i64 x1] [] [⟨(.pair (.pair (.int .i64) (.pair (.int .i64) (.pair .val (.pair (.int .i64) (.pair (.int .i64) .bool))))) (.pair (.int .i64) (.pair .val (.pair .val (.int .i64))))), ⟨a3, 1, 1⟩, [((x0.1.1, x0.1.2.1, (Sl.v ⟨a4, l6, c5⟩), x0.1.2.2.2.1, x0.1.2.2.2.2.1, x0.1.2.2.2.2.2), x0.2.1, (Sl.v ⟨a8, l10, c9⟩), (Sl.v ⟨a12, l14, c13⟩), x0.2.2.2.2)]⟩, ⟨(.int .i64), ⟨a4, l6, c5⟩, x0.1.2.2.1⟩, ⟨(.int .i64), ⟨a8, l10, c9⟩, x0.2.2.1⟩, ⟨.byte, ⟨a12, l14, c13⟩, x0.2.2.2.1⟩] (fun _ : Option Addr × Nat × Option Addr × Nat × Option Addr × Nat => True) (fun q => .tuple #[]) (fun q => [⟨(.pair (.pair (.int .i64) (.pair (.int .i64) (.pair .val (.pair (.int .i64) (.pair (.int .i64) .bool))))) (.pair (.int .i64) (.pair .val (.pair .val (.int .i64))))), ⟨a3, 1, 1⟩, [((r.1.1, r.1.2.1, (Sl.v ⟨q.1, r.1.2.2.1.length, q.2.1⟩), r.1.2.2.2.1, r.1.2.2.2.2.1, r.1.2.2.2.2.2), r.2.1, (Sl.v ⟨q.2.2.1, r.2.2.1.length, q.2.2.2.1⟩), (Sl.v ⟨q.2.2.2.2.1, r.2.2.2.1.length, q.2.2.2.2.2⟩), r.2.2.2.2)]⟩, ⟨(.int .i64), ⟨q.1, r.1.2.2.1.length, q.2.1⟩, r.1.2.2.1⟩, ⟨(.int .i64), ⟨q.2.2.1, r.2.2.1.length, q.2.2.2.1⟩, r.2.2.1⟩, ⟨.byte, ⟨q.2.2.2.2.1, r.2.2.2.1.length, q.2.2.2.2.2⟩, r.2.2.2.1⟩]) :=
  by
    subst hl7
    subst hl11
    subst hl15
    refine FX.of (T := TTx) Try.call100 Try.func100 rfl rfl fun w0 L0 => ?_
    unfold M_i_Vt_control at h
    refine JS.ptr 0 a3 rfl ?_
    refine JS.seq (JS.region (JO.know 0 rfl fun hs128 => JO.reg ttOk 4 [] [] [(4, .ep ⟨a3, 1, 1⟩ 0)] _ rfl ⟨(hs128.fa ptr0).1, hs128.fa ptr0, ⟨rfl, trivial⟩, rfl⟩ (JO.done rfl (JS.seq (JS.region (JO.reg ttOk 1 [] [] [(9, .ep ⟨a3, 1, 1⟩ 0)] _ rfl ⟨⟨rfl, trivial⟩, rfl⟩ ?_))))))
    obtain ⟨⟨y17, y18⟩, hy19, h⟩ := bindO_some h
    refine JO.callX rfl rfl rfl rfl (ok_i_Vt_arg x0 0 a3 a4 c5 x0.1.2.2.1.length rfl a8 c9 x0.2.2.1.length rfl a12 c13 x0.2.2.2.1.length rfl _ hy19) rfl [0, 0, 0, 0] rfl [] rfl rfl ?_
    rintro ⟨a20, c21, a22, c23, a24, c25⟩ -
    refine JO.reg ttOk 1 [] [] [(5, .v (.int .i64 y17))] _ rfl ⟨⟨rfl, trivial⟩, rfl⟩ (JO.done rfl (JS.seq (JS.region (JO.reg ttOk 1 [] [] [(11, .v (.int .i64 x1))] _ rfl ⟨⟨rfl, trivial⟩, rfl⟩ (JO.done rfl ?_)))))
    obtain ⟨j119, hj136, h⟩ := joinO_some h
    refine JS.blockJ (ι := Int × Int × List Int × Int × Int × Bool × Int × List Int × List UInt8 × Int × Option Addr × Nat × Option Addr × Nat × Option Addr × Nat) ⟨fun z => j119 (z.1, z.2.1, z.2.2.1, z.2.2.2.1, z.2.2.2.2.1, z.2.2.2.2.2.1, z.2.2.2.2.2.2.1, z.2.2.2.2.2.2.2.1, z.2.2.2.2.2.2.2.2.1, z.2.2.2.2.2.2.2.2.2.1) = some r, fun z => [], fun z => .nil, fun z => [], fun z => [⟨(.int .i64), ⟨z.2.2.2.2.2.2.2.2.2.2.1, z.2.2.1.length, z.2.2.2.2.2.2.2.2.2.2.2.1⟩, z.2.2.1⟩, ⟨(.int .i64), ⟨z.2.2.2.2.2.2.2.2.2.2.2.2.1, z.2.2.2.2.2.2.2.1.length, z.2.2.2.2.2.2.2.2.2.2.2.2.2.1⟩, z.2.2.2.2.2.2.2.1⟩, ⟨.byte, ⟨z.2.2.2.2.2.2.2.2.2.2.2.2.2.2.1, z.2.2.2.2.2.2.2.2.1.length, z.2.2.2.2.2.2.2.2.2.2.2.2.2.2.2⟩, z.2.2.2.2.2.2.2.2.1⟩, ⟨(.pair (.pair (.int .i64) (.pair (.int .i64) (.pair .val (.pair (.int .i64) (.pair (.int .i64) .bool))))) (.pair (.int .i64) (.pair .val (.pair .val (.int .i64))))), ⟨a3, 1, 1⟩, [((z.1, z.2.1, (Sl.v ⟨z.2.2.2.2.2.2.2.2.2.2.1, z.2.2.1.length, z.2.2.2.2.2.2.2.2.2.2.2.1⟩), z.2.2.2.1, z.2.2.2.2.1, z.2.2.2.2.2.1), z.2.2.2.2.2.2.1, (Sl.v ⟨z.2.2.2.2.2.2.2.2.2.2.2.2.1, z.2.2.2.2.2.2.2.1.length, z.2.2.2.2.2.2.2.2.2.2.2.2.2.1⟩), (Sl.v ⟨z.2.2.2.2.2.2.2.2.2.2.2.2.2.2.1, z.2.2.2.2.2.2.2.2.1.length, z.2.2.2.2.2.2.2.2.2.2.2.2.2.2.2⟩), z.2.2.2.2.2.2.2.2.2.1)]⟩], fun z => 0⟩ ?_ ?_
    · refine JS.seq (JS.region (JO.reg ttOk 2 [] [] [(12, .v (.bool (decide (x1 = 65))))] _ rfl ⟨⟨rfl, trivial⟩, rfl⟩ (JO.done rfl ?_)))
      refine JS.cond rfl (fun ht135 => ?_) (fun ht135 => ?_)
      · have h := condT h ht135
        obtain ⟨y26, hy27, h⟩ := bindO_some h
        refine JS.regionA rfl .nil [0] [11] trivial rfl (fun be34 => ?_)
        refine JA.reg ttOk panic_cxX true 4 [0, 1, 2, 3, 5, 6, 7, 9] rfl (by kernel_rfl) [] [(14, .ep ⟨a3, 1, 1⟩ 0), (17, .ep ⟨a3, 1, 1⟩ 3), (21, .ep ⟨a3, 1, 1⟩ 4), (23, .v (.int .i64 y17))] trivial [0] rfl rfl ⟨(hs128.fa ptr0).1, hs128.fa ptr0, (hs128.fa ptr0).1, hs128.fa ptr0, ⟨rfl, rfl, rfl, rfl, trivial⟩⟩ (JA.loadV ttOk panic_cxX 4 rfl (by kernel_rfl) rfl rfl rfl rfl rfl 0 rfl rfl 0 3 ((y18.1.1, y18.1.2.1, (Sl.v ⟨a20, y18.1.2.2.1.length, c21⟩), y18.1.2.2.2.1, y18.1.2.2.2.2.1, y18.1.2.2.2.2.2), y18.2.1, (Sl.v ⟨a22, y18.2.2.1.length, c23⟩), (Sl.v ⟨a24, y18.2.2.2.1.length, c25⟩), y18.2.2.2.2) ⟨rfl, rfl⟩ rfl rfl rfl trivial [0] rfl (JA.loadV ttOk panic_cxX 8 rfl (by kernel_rfl) rfl rfl rfl rfl rfl 0 rfl rfl 0 4 ((y18.1.1, y18.1.2.1, (Sl.v ⟨a20, y18.1.2.2.1.length, c21⟩), y18.1.2.2.2.1, y18.1.2.2.2.2.1, y18.1.2.2.2.2.2), y18.2.1, (Sl.v ⟨a22, y18.2.2.1.length, c23⟩), (Sl.v ⟨a24, y18.2.2.2.1.length, c25⟩), y18.2.2.2.2) ⟨rfl, rfl⟩ rfl rfl rfl trivial [0] rfl (JA.reg ttOk panic_cxX true 1 [10] rfl (by kernel_rfl) [(W (y18.1.2.2.2.2.1 - y17))] [(24, .v (.int .i64 (W (y18.1.2.2.2.2.1 - y17))))] trivial [0] rfl rfl ⟨⟨trivial, rfl⟩, ⟨rfl, trivial⟩⟩ (JA.one 11 (by kernel_rfl) (JK.callX rfl rfl rfl rfl (ok_i_Grid_moveTo_in45 y18 y18.1.2.2.2.1 (W (y18.1.2.2.2.2.1 - y17)) a3 a20 c21 y18.1.2.2.1.length rfl a22 c23 y18.2.2.1.length rfl a24 c25 y18.2.2.2.1.length rfl _ hy27) rfl [0, 0, 0, 0] rfl [] rfl rfl ?_)))))
        rintro ⟨a28, c29, a30, c31, a32, c33⟩ -
        refine JA.nextL rfl (JA.done (by kernel_rfl) (JS.boxes (B' := .nil) trivial (JS.endB (JS.endJA (y26.1.1, y26.1.2.1, y26.1.2.2.1, y26.1.2.2.2.1, y26.1.2.2.2.2.1, y26.1.2.2.2.2.2, y26.2.1, y26.2.2.1, y26.2.2.2.1, y26.2.2.2.2, a28, c29, a30, c31, a32, c33) h trivial trivial [] rfl [1, 2, 3, 0] rfl rfl))))
      have h := condF h ht135
      refine JS.seq (JS.region (JO.reg ttOk 2 [] [] [(26, .v (.bool (decide (x1 = 66))))] _ rfl ⟨⟨rfl, trivial⟩, rfl⟩ (JO.done rfl ?_)))
      refine JS.cond rfl (fun ht134 => ?_) (fun ht134 => ?_)
      · have h := condT h ht134
        obtain ⟨y35, hy36, h⟩ := bindO_some h
        refine JS.regionA rfl .nil [0] [11] trivial rfl (fun be43 => ?_)
        refine JA.reg ttOk panic_cxX true 4 [0, 1, 2, 3, 5, 6, 7, 9] rfl (by kernel_rfl) [] [(28, .ep ⟨a3, 1, 1⟩ 0), (31, .ep ⟨a3, 1, 1⟩ 3), (35, .ep ⟨a3, 1, 1⟩ 4), (37, .v (.int .i64 y17))] trivial [0] rfl rfl ⟨(hs128.fa ptr0).1, hs128.fa ptr0, (hs128.fa ptr0).1, hs128.fa ptr0, ⟨rfl, rfl, rfl, rfl, trivial⟩⟩ (JA.loadV ttOk panic_cxX 4 rfl (by kernel_rfl) rfl rfl rfl rfl rfl 0 rfl rfl 0 3 ((y18.1.1, y18.1.2.1, (Sl.v ⟨a20, y18.1.2.2.1.length, c21⟩), y18.1.2.2.2.1, y18.1.2.2.2.2.1, y18.1.2.2.2.2.2), y18.2.1, (Sl.v ⟨a22, y18.2.2.1.length, c23⟩), (Sl.v ⟨a24, y18.2.2.2.1.length, c25⟩), y18.2.2.2.2) ⟨rfl, rfl⟩ rfl rfl rfl trivial [0] rfl (JA.loadV ttOk panic_cxX 8 rfl (by kernel_rfl) rfl rfl rfl rfl rfl 0 rfl rfl 0 4 ((y18.1.1, y18.1.2.1, (Sl.v ⟨a20, y18.1.2.2.1.length, c21⟩), y18.1.2.2.2.1, y18.1.2.2.2.2.1, y18.1.2.2.2.2.2), y18.2.1, (Sl.v ⟨a22, y18.2.2.1.length, c23⟩), (Sl.v ⟨a24, y18.2.2.2.1.length, c25⟩), y18.2.2.2.2) ⟨rfl, rfl⟩ rfl rfl rfl trivial [0] rfl (JA.reg ttOk panic_cxX true 1 [10] rfl (by kernel_rfl) [(W (y18.1.2.2.2.2.1 + y17))] [(38, .v (.int .i64 (W (y18.1.2.2.2.2.1 + y17))))] trivial [0] rfl rfl ⟨⟨trivial, rfl⟩, ⟨rfl, trivial⟩⟩ (JA.one 11 (by kernel_rfl) (JK.callX rfl rfl rfl rfl (ok_i_Grid_moveTo_in45 y18 y18.1.2.2.2.1 (W (y18.1.2.2.2.2.1 + y17)) a3 a20 c21 y18.1.2.2.1.length rfl a22 c23 y18.2.2.1.length rfl a24 c25 y18.2.2.2.1.length rfl _ hy36) rfl [0, 0, 0, 0] rfl [] rfl rfl ?_)))))
        rintro ⟨a37, c38, a39, c40, a41, c42⟩ -
        refine JA.nextL rfl (JA.done (by kernel_rfl) (JS.boxes (B' := .nil) trivial (JS.endB (JS.endJA (y35.1.1, y35.1.2.1, y35.1.2.2.1, y35.1.2.2.2.1, y35.1.2.2.2.2.1, y35.1.2.2.2.2.2, y35.2.1, y35.2.2.1, y35.2.2.2.1, y35.2.2.2.2, a37, c38, a39, c40, a41, c42) h trivial trivial [] rfl [1, 2, 3, 0] rfl rfl))))
      have h := condF h ht134
      refine JS.seq (JS.region (JO.reg ttOk 2 [] [] [(40, .v (.bool (decide (x1 = 67))))] _ rfl ⟨⟨rfl, trivial⟩, rfl⟩ (JO.done rfl ?_)))
      refine JS.cond rfl (fun ht133 => ?_) (fun ht133 => ?_)
      · have h := condT h ht133
        obtain ⟨y44, hy45, h⟩ := bindO_some h
        refine JS.regionA rfl .nil [0] [11] trivial rfl (fun be52 => ?_)
        refine JA.reg ttOk panic_cxX true 4 [0, 1, 2, 3, 5, 7, 8, 9] rfl (by kernel_rfl) [] [(42, .ep ⟨a3, 1, 1⟩ 0), (45, .ep ⟨a3, 1, 1⟩ 3), (47, .v (.int .i64 y17)), (51, .ep ⟨a3, 1, 1⟩ 4)] trivial [0] rfl rfl ⟨(hs128.fa ptr0).1, hs128.fa ptr0, (hs128.fa ptr0).1, hs128.fa ptr0, ⟨rfl, rfl, rfl, rfl, trivial⟩⟩ (JA.loadV ttOk panic_cxX 4 rfl (by kernel_rfl) rfl rfl rfl rfl rfl 0 rfl rfl 0 3 ((y18.1.1, y18.1.2.1, (Sl.v ⟨a20, y18.1.2.2.1.length, c21⟩), y18.1.2.2.2.1, y18.1.2.2.2.2.1, y18.1.2.2.2.2.2), y18.2.1, (Sl.v ⟨a22, y18.2.2.1.length, c23⟩), (Sl.v ⟨a24, y18.2.2.2.1.length, c25⟩), y18.2.2.2.2) ⟨rfl, rfl⟩ rfl rfl rfl trivial [0] rfl (JA.reg ttOk panic_cxX true 2 [6] rfl (by kernel_rfl) [(W (y18.1.2.2.2.1 + y17))] [(48, .v (.int .i64 (W (y18.1.2.2.2.1 + y17))))] trivial [0] rfl rfl ⟨⟨trivial, rfl⟩, ⟨rfl, trivial⟩⟩ (JA.loadV ttOk panic_cxX 10 rfl (by kernel_rfl) rfl rfl rfl rfl rfl 0 rfl rfl 0 4 ((y18.1.1, y18.1.2.1, (Sl.v ⟨a20, y18.1.2.2.1.length, c21⟩), y18.1.2.2.2.1, y18.1.2.2.2.2.1, y18.1.2.2.2.2.2), y18.2.1, (Sl.v ⟨a22, y18.2.2.1.length, c23⟩), (Sl.v ⟨a24, y18.2.2.2.1.length, c25⟩), y18.2.2.2.2) ⟨rfl, rfl⟩ rfl rfl rfl trivial [0] rfl (JA.one 11 (by kernel_rfl) (JK.callX rfl rfl rfl rfl (ok_i_Grid_moveTo_in45 y18 (W (y18.1.2.2.2.1 + y17)) y18.1.2.2.2.2.1 a3 a20 c21 y18.1.2.2.1.length rfl a22 c23 y18.2.2.1.length rfl a24 c25 y18.2.2.2.1.length rfl _ hy45) rfl [0, 0, 0, 0] rfl [] rfl rfl ?_)))))
        rintro ⟨a46, c47, a48, c49, a50, c51⟩ -
        refine JA.nextL rfl (JA.done (by kernel_rfl) (JS.boxes (B' := .nil) trivial (JS.endB (JS.endJA (y44.1.1, y44.1.2.1, y44.1.2.2.1, y44.1.2.2.2.1, y44.1.2.2.2.2.1, y44.1.2.2.2.2.2, y44.2.1, y44.2.2.1, y44.2.2.2.1, y44.2.2.2.2, a46, c47, a48, c49, a50, c51) h trivial trivial [] rfl [1, 2, 3, 0] rfl rfl))))
      have h := condF h ht133
      refine JS.seq (JS.region (JO.reg ttOk 2 [] [] [(54, .v (.bool (decide (x1 = 68))))] _ rfl ⟨⟨rfl, trivial⟩, rfl⟩ (JO.done rfl ?_)))
      refine JS.cond rfl (fun ht132 => ?_) (fun ht132 => ?_)
      · have h := condT h ht132
        obtain ⟨y53, hy54, h⟩ := bindO_some h
        refine JS.regionA rfl .nil [0] [11] trivial rfl (fun be61 => ?_)
        refine JA.reg ttOk panic_cxX true 4 [0, 1, 2, 3, 5, 7, 8, 9] rfl (by kernel_rfl) [] [(56, .ep ⟨a3, 1, 1⟩ 0), (59, .ep ⟨a3, 1, 1⟩ 3), (61, .v (.int .i64 y17)), (65, .ep ⟨a3, 1, 1⟩ 4)] trivial [0] rfl rfl ⟨(hs128.fa ptr0).1, hs128.fa ptr0, (hs128.fa ptr0).1, hs128.fa ptr0, ⟨rfl, rfl, rfl, rfl, trivial⟩⟩ (JA.loadV ttOk panic_cxX 4 rfl (by kernel_rfl) rfl rfl rfl rfl rfl 0 rfl rfl 0 3 ((y18.1.1, y18.1.2.1, (Sl.v ⟨a20, y18.1.2.2.1.length, c21⟩), y18.1.2.2.2.1, y18.1.2.2.2.2.1, y18.1.2.2.2.2.2), y18.2.1, (Sl.v ⟨a22, y18.2.2.1.length, c23⟩), (Sl.v ⟨a24, y18.2.2.2.1.length, c25⟩), y18.2.2.2.2) ⟨rfl, rfl⟩ rfl rfl rfl trivial [0] rfl (JA.reg ttOk panic_cxX true 2 [6] rfl (by kernel_rfl) [(W (y18.1.2.2.2.1 - y17))] [(62, .v (.int .i64 (W (y18.1.2.2.2.1 - y17))))] trivial [0] rfl rfl ⟨⟨trivial, rfl⟩, ⟨rfl, trivial⟩⟩ (JA.loadV ttOk panic_cxX 10 rfl (by kernel_rfl) rfl rfl rfl rfl rfl 0 rfl rfl 0 4 ((y18.1.1, y18.1.2.1, (Sl.v ⟨a20, y18.1.2.2.1.length, c21⟩), y18.1.2.2.2.1, y18.1.2.2.2.2.1, y18.1.2.2.2.2.2), y18.2.1, (Sl.v ⟨a22, y18.2.2.1.length, c23⟩), (Sl.v ⟨a24, y18.2.2.2.1.length, c25⟩), y18.2.2.2.2) ⟨rfl, rfl⟩ rfl rfl rfl trivial [0] rfl (JA.one 11 (by kernel_rfl) (JK.callX rfl rfl rfl rfl (ok_i_Grid_moveTo_in45 y18 (W (y18.1.2.2.2.1 - y17)) y18.1.2.2.2.2.1 a3 a20 c21 y18.1.2.2.1.length rfl a22 c23 y18.2.2.1.length rfl a24 c25 y18.2.2.2.1.length rfl _ hy54) rfl [0, 0, 0, 0] rfl [] rfl rfl ?_)))))
        rintro ⟨a55, c56, a57, c58, a59, c60⟩ -
        refine JA.nextL rfl (JA.done (by kernel_rfl) (JS.boxes (B' := .nil) trivial (JS.endB (JS.endJA (y53.1.1, y53.1.2.1, y53.1.2.2.1, y53.1.2.2.2.1, y53.1.2.2.2.2.1, y53.1.2.2.2.2.2, y53.2.1, y53.2.2.1, y53.2.2.2.1, y53.2.2.2.2, a55, c56, a57, c58, a59, c60) h trivial trivial [] rfl [1, 2, 3, 0] rfl rfl))))
      have h := condF h ht132
      refine JS.seq (JS.region (JO.reg ttOk 2 [] [] [(68, .v (.bool (decide (x1 = 72))))] _ rfl ⟨⟨rfl, trivial⟩, rfl⟩ (JO.done rfl ?_)))
      refine JS.cond rfl (fun ht131 => ?_) (fun ht131 => ?_)
      · have h := condT h ht131
        refine JS.region (JO.reg ttOk 2 [] [] [(70, .ep ⟨a3, 1, 1⟩ 0), (71, .ep ⟨a3, 1, 1⟩ 0)] _ rfl ⟨⟨rfl, rfl, trivial⟩, rfl⟩ ?_)
        obtain ⟨⟨y62, y63⟩, hy64, h⟩ := bindO_some h
        refine JO.callX rfl rfl rfl rfl (ok_i_Vt_arg y18 1 a3 a20 c21 y18.1.2.2.1.length rfl a22 c23 y18.2.2.1.length rfl a24 c25 y18.2.2.2.1.length rfl _ hy64) rfl [0, 0, 0, 0] rfl [] rfl rfl ?_
        rintro ⟨a65, c66, a67, c68, a69, c70⟩ -
        refine JO.reg ttOk 3 [(W (y62 - 1)), (W (y17 - 1))] [] [(73, .v (.int .i64 (W (y62 - 1)))), (75, .v (.int .i64 (W (y17 - 1))))] _ rfl ⟨⟨trivial, rfl⟩, ⟨trivial, rfl⟩, ⟨rfl, rfl, trivial⟩, rfl⟩ ?_
        obtain ⟨y71, hy72, h⟩ := bindO_some h
        refine JO.callX rfl rfl rfl rfl (ok_i_Grid_moveTo_in45 y63 (W (y62 - 1)) (W (y17 - 1)) a3 a65 c66 y63.1.2.2.1.length rfl a67 c68 y63.2.2.1.length rfl a69 c70 y63.2.2.2.1.length rfl _ hy72) rfl [0, 0, 0, 0] rfl [] rfl rfl ?_
        rintro ⟨a73, c74, a75, c76, a77, c78⟩ -
        refine JO.done rfl (JS.endB (JS.endJA (y71.1.1, y71.1.2.1, y71.1.2.2.1, y71.1.2.2.2.1, y71.1.2.2.2.2.1, y71.1.2.2.2.2.2, y71.2.1, y71.2.2.1, y71.2.2.2.1, y71.2.2.2.2, a73, c74, a75, c76, a77, c78) h trivial trivial [] rfl [1, 2, 3, 0] rfl rfl))
      have h := condF h ht131
      refine JS.seq (JS.region (JO.reg ttOk 2 [] [] [(77, .v (.bool (decide (x1 = 74))))] _ rfl ⟨⟨rfl, trivial⟩, rfl⟩ (JO.done rfl ?_)))
      refine JS.cond rfl (fun ht130 => ?_) (fun ht130 => ?_)
      · have h := condT h ht130
        refine JS.region (JO.reg ttOk 4 [] [] [(79, .ep ⟨a3, 1, 1⟩ 0), (82, .ep ⟨a3, 1, 1⟩ 2)] _ rfl ⟨(hs128.fa ptr0).1, hs128.fa ptr0, ⟨rfl, rfl, trivial⟩, rfl⟩ (JO.loadV ttOk rfl rfl rfl rfl rfl rfl 0 rfl rfl 0 2 ((y18.1.1, y18.1.2.1, (Sl.v ⟨a20, y18.1.2.2.1.length, c21⟩), y18.1.2.2.2.1, y18.1.2.2.2.2.1, y18.1.2.2.2.2.2), y18.2.1, (Sl.v ⟨a22, y18.2.2.1.length, c23⟩), (Sl.v ⟨a24, y18.2.2.2.1.length, c25⟩), y18.2.2.2.2) ⟨rfl, rfl⟩ rfl rfl rfl (JO.reg ttOk 1 [] [] [(84, .v (.int .i64 (y18.1.2.2.1.length : Int)))] _ rfl ⟨⟨rfl, trivial⟩, rfl⟩ ?_)))
        obtain ⟨y79, hy80, h⟩ := bindO_some h
        refine JO.callX rfl rfl rfl rfl (ok_i_Vt_clear y18 0 (y18.1.2.2.1.length : Int) a3 a20 c21 y18.1.2.2.1.length rfl a22 c23 y18.2.2.1.length rfl a24 c25 y18.2.2.2.1.length rfl _ hy80) rfl [0, 0, 0, 0] rfl [] rfl rfl ?_
        rintro ⟨a81, c82, a83, c84, a85, c86⟩ -
        refine JO.done rfl (JS.endB (JS.endJA (y79.1.1, y79.1.2.1, y79.1.2.2.1, y79.1.2.2.2.1, y79.1.2.2.2.2.1, y79.1.2.2.2.2.2, y79.2.1, y79.2.2.1, y79.2.2.2.1, y79.2.2.2.2, a81, c82, a83, c84, a85, c86) h trivial trivial [] rfl [1, 2, 3, 0] rfl rfl))
      have h := condF h ht130
      refine JS.seq (JS.region (JO.reg ttOk 2 [] [] [(86, .v (.bool (decide (x1 = 75))))] _ rfl ⟨⟨rfl, trivial⟩, rfl⟩ (JO.done rfl ?_)))
      refine JS.cond rfl (fun ht129 => ?_) (fun ht129 => ?_)
      · have h := condT h ht129
        obtain ⟨y87, hy88, h⟩ := bindO_some h
        refine JS.regionA rfl .nil [0] [20] trivial rfl (fun be95 => ?_)
        refine JA.reg ttOk panic_cxX true 11 [0, 1, 2, 3, 5, 6, 7, 15, 16, 17] rfl (by kernel_rfl) [] [(88, .ep ⟨a3, 1, 1⟩ 0), (91, .ep ⟨a3, 1, 1⟩ 4), (95, .ep ⟨a3, 1, 1⟩ 0), (105, .ep ⟨a3, 1, 1⟩ 0)] trivial [0] rfl rfl ⟨(hs128.fa ptr0).1, hs128.fa ptr0, (hs128.fa ptr0).1, hs128.fa ptr0, (hs128.fa ptr0).1, hs128.fa ptr0, ⟨rfl, rfl, rfl, rfl, trivial⟩⟩ (JA.regL ttOk panic_cxX 10 [10] rfl (by kernel_rfl) [] [(98, .ep ⟨a3, 1, 1⟩ 0)] rfl ⟨rfl, trivial⟩ (JA.reg ttOk panic_cxX true 8 [11, 12] rfl (by kernel_rfl) [] [(100, .ep ⟨a3, 1, 1⟩ 4)] trivial [0] rfl rfl ⟨(hs128.fa ptr0).1, hs128.fa ptr0, ⟨rfl, trivial⟩⟩ (JA.loadV ttOk panic_cxX 4 rfl (by kernel_rfl) rfl rfl rfl rfl rfl 0 rfl rfl 0 4 ((y18.1.1, y18.1.2.1, (Sl.v ⟨a20, y18.1.2.2.1.length, c21⟩), y18.1.2.2.2.1, y18.1.2.2.2.2.1, y18.1.2.2.2.2.2), y18.2.1, (Sl.v ⟨a22, y18.2.2.1.length, c23⟩), (Sl.v ⟨a24, y18.2.2.2.1.length, c25⟩), y18.2.2.2.2) ⟨rfl, rfl⟩ rfl rfl rfl trivial [0] rfl (JA.loadV ttOk panic_cxX 8 rfl (by kernel_rfl) rfl rfl rfl rfl rfl 0 rfl rfl 0 0 ((y18.1.1, y18.1.2.1, (Sl.v ⟨a20, y18.1.2.2.1.length, c21⟩), y18.1.2.2.2.1, y18.1.2.2.2.2.1, y18.1.2.2.2.2.2), y18.2.1, (Sl.v ⟨a22, y18.2.2.1.length, c23⟩), (Sl.v ⟨a24, y18.2.2.2.1.length, c25⟩), y18.2.2.2.2) ⟨rfl, rfl⟩ rfl rfl rfl trivial [0] rfl (JA.reg ttOk panic_cxX true 5 [9] rfl (by kernel_rfl) [(W (y18.1.2.2.2.2.1 * y18.1.1))] [(97, .v (.int .i64 (W (y18.1.2.2.2.2.1 * y18.1.1))))] trivial [0] rfl rfl ⟨⟨trivial, rfl⟩, ⟨rfl, trivial⟩⟩ (JA.loadV ttOk panic_cxX 13 rfl (by kernel_rfl) rfl rfl rfl rfl rfl 0 rfl rfl 0 4 ((y18.1.1, y18.1.2.1, (Sl.v ⟨a20, y18.1.2.2.1.length, c21⟩), y18.1.2.2.2.1, y18.1.2.2.2.2.1, y18.1.2.2.2.2.2), y18.2.1, (Sl.v ⟨a22, y18.2.2.1.length, c23⟩), (Sl.v ⟨a24, y18.2.2.2.1.length, c25⟩), y18.2.2.2.2) ⟨rfl, rfl⟩ rfl rfl rfl trivial [0] rfl (JA.reg ttOk panic_cxX true 3 [14] rfl (by kernel_rfl) [(W (y18.1.2.2.2.2.1 + 1))] [(102, .v (.int .i64 (W (y18.1.2.2.2.2.1 + 1))))] trivial [0] rfl rfl ⟨⟨trivial, rfl⟩, ⟨rfl, trivial⟩⟩ (JA.loadV ttOk panic_cxX 18 rfl (by kernel_rfl) rfl rfl rfl rfl rfl 0 rfl rfl 0 0 ((y18.1.1, y18.1.2.1, (Sl.v ⟨a20, y18.1.2.2.1.length, c21⟩), y18.1.2.2.2.1, y18.1.2.2.2.2.1, y18.1.2.2.2.2.2), y18.2.1, (Sl.v ⟨a22, y18.2.2.1.length, c23⟩), (Sl.v ⟨a24, y18.2.2.2.1.length, c25⟩), y18.2.2.2.2) ⟨rfl, rfl⟩ rfl rfl rfl trivial [0] rfl (JA.reg ttOk panic_cxX true 1 [19] rfl (by kernel_rfl) [(W ((W (y18.1.2.2.2.2.1 + 1)) * y18.1.1))] [(107, .v (.int .i64 (W ((W (y18.1.2.2.2.2.1 + 1)) * y18.1.1))))] trivial [0] rfl rfl ⟨⟨trivial, rfl⟩, ⟨rfl, trivial⟩⟩ (JA.one 20 (by kernel_rfl) (JK.callX rfl rfl rfl rfl (ok_i_Vt_clear y18 (W (y18.1.2.2.2.2.1 * y18.1.1)) (W ((W (y18.1.2.2.2.2.1 + 1)) * y18.1.1)) a3 a20 c21 y18.1.2.2.1.length rfl a22 c23 y18.2.2.1.length rfl a24 c25 y18.2.2.2.1.length rfl _ hy88) rfl [0, 0, 0, 0] rfl [] rfl rfl ?_)))))))))))
        rintro ⟨a89, c90, a91, c92, a93, c94⟩ -
        refine JA.nextL rfl (JA.done (by kernel_rfl) (JS.boxes (B' := .nil) trivial (JS.endB (JS.endJA (y87.1.1, y87.1.2.1, y87.1.2.2.1, y87.1.2.2.2.1, y87.1.2.2.2.2.1, y87.1.2.2.2.2.2, y87.2.1, y87.2.2.1, y87.2.2.2.1, y87.2.2.2.2, a89, c90, a91, c92, a93, c94) h trivial trivial [] rfl [1, 2, 3, 0] rfl rfl))))
      have h := condF h ht129
      refine JS.skip (JS.endB (JS.endJA (y18.1.1, y18.1.2.1, y18.1.2.2.1, y18.1.2.2.2.1, y18.1.2.2.2.2.1, y18.1.2.2.2.2.2, y18.2.1, y18.2.2.1, y18.2.2.2.1, y18.2.2.2.2, a20, c21, a22, c23, a24, c25) h trivial trivial [] rfl [1, 2, 3, 0] rfl rfl))
    rintro ⟨x103, x104, x105, x108, x109, x110, x111, x112, x115, x118, a106, c107, a113, c114, a116, c117⟩ h
    subst hj136
    cases h
    exact JS.fallX ttOk (a106, c107, a113, c114, a116, c117) trivial rfl rfl [3, 0, 0, 0] rfl

def M_i_Vt_sequence (x0 : (Int × Int × List Int × Int × Int × Bool) × Int × List Int × List UInt8 × Int) (x1 : Int) : Option ((Int × Int × List Int × Int × Int × Bool) × Int × List Int × List UInt8 × Int) :=
  (joinO (fun ((x70, x71, x72, x75, x76, x77, x78, x79, x82, x85) : Int × Int × List Int × Int × Int × Bool × Int × List Int × List UInt8 × Int) =>
  some ((x70, x71, x72, x75, x76, x77), 0, [], x82, x85)) fun j86 =>
  (bindO (M_i_isDigit x1) fun (y16 : Bool) =>
  (bif y16 then
  (joinO (fun (x21 : List Int) =>
  (guardO (0 ≤ (W ((x21.length : Int) - 1)) ∧ (W ((x21.length : Int) - 1)) < (x21.length : Int)) <|
  (guardO (0 ≤ (W ((x21.length : Int) - 1)) ∧ (W ((x21.length : Int) - 1)) < (x21.length : Int)) <|
  some (x0.1, x0.2.1, (List.set x21 (Int.toNat (W ((x21.length : Int) - 1))) (min (W ((W ((W (10 * (at' x21 (W ((x21.length : Int) - 1))))) + x1)) - 48)) 9999)), x0.2.2.2.1, x0.2.2.2.2)))) fun j24 =>
  (bif (decide ((x0.2.2.1.length : Int) = 0)) then
  j24 ([0] : List Int)
  else
  j24 x0.2.2.1))
  else
  (bif (decide (x1 = 59)) then
  (joinO (fun (x37 : List Int) =>
  (joinO (fun (x49 : List Int) =>
  some (x0.1, x0.2.1, x49, x0.2.2.2.1, x0.2.2.2.2)) fun j52 =>
  (bif (decide ((x37.length : Int) < 4)) then
  (guardO (x37.length + ([0] : List Int).length ≤ 536870912) <|
  j52 (x37 ++ ([0] : List Int)))
  else
  j52 x37))) fun j40 =>
  (bif (decide ((x0.2.2.1.length : Int) = 0)) then
  j40 ([0] : List Int)
  else
  j40 x0.2.2.1))
  else
  (bindO (M_i_in x1 64 126) fun (y57 : Bool) =>
  (bif y57 then
  (bindO (M_i_Vt_control x0 x1) fun (y59 : (Int × Int × List Int × Int × Int × Bool) × Int × List Int × List UInt8 × Int) =>
  j86 (y59.1.1, y59.1.2.1, y59.1.2.2.1, y59.1.2.2.2.1, y59.1.2.2.2.2.1, y59.1.2.2.2.2.2, y59.2.1, y59.2.2.1, y59.2.2.2.1, y59.2.2.2.2))
  else
  j86 (x0.1.1, x0.1.2.1, x0.1.2.2.1, x0.1.2.2.2.1, x0.1.2.2.2.2.1, x0.1.2.2.2.2.2, x0.2.1, x0.2.2.1, x0.2.2.2.1, x0.2.2.2.2)))))))

theorem ok_i_Vt_sequence (x0 : (Int × Int × List Int × Int × Int × Bool) × Int × List Int × List UInt8 × Int) (x1 : Int) (a3 : Option Addr) (a4 : Option Addr) (c5 : Nat) (l6 : Nat) (hl7 : x0.1.2.2.1.length = l6) (a8 : Option Addr) (c9 : Nat) (l10 : Nat) (hl11 : x0.2.2.1.length = l10) (a12 : Option Addr) (c13 : Nat) (l14 : Nat) (hl15 : x0.2.2.2.1.length = l14) (r : (Int × Int × List Int × Int × Int × Bool) × Int × List Int × List UInt8 × Int) (h : M_i_Vt_sequence x0 x1 = some r) :
    FX Try.prog 92 [.pointer a3, .int .i64 x1] [] [⟨(.pair (.pair (.int .i64) (.pair (.int .i64) (.pair .val (.pair (.int .i64) (.pair (.int .i64) .bool))))) (.pair (.int .i64) (.pair .val (.pair .val (.int .i64))))), ⟨a3, 1, 1⟩, [((x0.1.1, x0.1.2.1, (Sl.v ⟨a4, l6, c5⟩), x0.1.2.2.2.1, x0.1.2.2.2.2.1, x0.1.2.2.2.2.2), x0.2.1, (Sl.v ⟨a8, l10, c9⟩), (Sl.v ⟨a12, l14, c13⟩), x0.2.2.2.2)]⟩, ⟨(.int .i64), ⟨a4, l6, c5⟩, x0.1.2.2.1⟩, ⟨(.int .i64), ⟨a8, l10, c9⟩, x0.2.2.1⟩, ⟨.byte, ⟨a12, l14, c13⟩, x0.2.2.2.1⟩] (fun _ : Option Addr × Nat × Option Addr × Nat × Option Addr × Nat => True) (fun q => .tuple #[]) (fun q => [⟨(.pair (.pair (.int .i64) (.pair (.int .i64) (.pair .val (.pair (.int .i64) (.pair (.int .i64) .bool))))) (.pair (.int .i64) (.pair .val (.pair .val (.int .i64))))), ⟨a3, 1, 1⟩, [((r.1.1, r.1.2.1, (Sl.v ⟨q.1, r.1.2.2.1.length, q.2.1⟩), r.1.2.2.2.1, r.1.2.2.2.2.1, r.1.2.2.2.2.2), r.2.1, (Sl.v ⟨q.2.2.1, r.2.2.1.length, q.2.2.2.1⟩), (Sl.v ⟨q.2.2.2.2.1, r.2.2.2.1.length, q.2.2.2.2.2⟩), r.2.2.2.2)]⟩, ⟨(.int .i64), ⟨q.1, r.1.2.2.1.length, q.2.1⟩, r.1.2.2.1⟩, ⟨(.int .i64), ⟨q.2.2.1, r.2.2.1.length, q.2.2.2.1⟩, r.2.2.1⟩, ⟨.byte, ⟨q.2.2.2.2.1, r.2.2.2.1.length, q.2.2.2.2.2⟩, r.2.2.2.1⟩]) :=
  by
    subst hl7
    subst hl11
    subst hl15
    refine FX.of (T := TTx) Try.call92 Try.func92 rfl rfl fun w0 L0 => ?_
    unfold M_i_Vt_sequence at h
    refine JS.ptr 0 a3 rfl ?_
    refine JS.seq ?_
    obtain ⟨j86, hj120, h⟩ := joinO_some h
    refine JS.blockJ (ι := Int × Int × List Int × Int × Int × Bool × Int × List Int × List UInt8 × Int × Option Addr × Nat × Option Addr × Nat × Option Addr × Nat) ⟨fun z => j86 (z.1, z.2.1, z.2.2.1, z.2.2.2.1, z.2.2.2.2.1, z.2.2.2.2.2.1, z.2.2.2.2.2.2.1, z.2.2.2.2.2.2.2.1, z.2.2.2.2.2.2.2.2.1, z.2.2.2.2.2.2.2.2.2.1) = some r, fun z => [(0, .ep ⟨a3, 1, 1⟩ 0)], fun z => .nil, fun z => [], fun z => [⟨(.int .i64), ⟨z.2.2.2.2.2.2.2.2.2.2.1, z.2.2.1.length, z.2.2.2.2.2.2.2.2.2.2.2.1⟩, z.2.2.1⟩, ⟨(.int .i64), ⟨z.2.2.2.2.2.2.2.2.2.2.2.2.1, z.2.2.2.2.2.2.2.1.length, z.2.2.2.2.2.2.2.2.2.2.2.2.2.1⟩, z.2.2.2.2.2.2.2.1⟩, ⟨.byte, ⟨z.2.2.2.2.2.2.2.2.2.2.2.2.2.2.1, z.2.2.2.2.2.2.2.2.1.length, z.2.2.2.2.2.2.2.2.2.2.2.2.2.2.2⟩, z.2.2.2.2.2.2.2.2.1⟩, ⟨(.pair (.pair (.int .i64) (.pair (.int .i64) (.pair .val (.pair (.int .i64) (.pair (.int .i64) .bool))))) (.pair (.int .i64) (.pair .val (.pair .val (.int .i64))))), ⟨a3, 1, 1⟩, [((z.1, z.2.1, (Sl.v ⟨z.2.2.2.2.2.2.2.2.2.2.1, z.2.2.1.length, z.2.2.2.2.2.2.2.2.2.2.2.1⟩), z.2.2.2.1, z.2.2.2.2.1, z.2.2.2.2.2.1), z.2.2.2.2.2.2.1, (Sl.v ⟨z.2.2.2.2.2.2.2.2.2.2.2.2.1, z.2.2.2.2.2.2.2.1.length, z.2.2.2.2.2.2.2.2.2.2.2.2.2.1⟩), (Sl.v ⟨z.2.2.2.2.2.2.2.2.2.2.2.2.2.2.1, z.2.2.2.2.2.2.2.2.1.length, z.2.2.2.2.2.2.2.2.2.2.2.2.2.2.2⟩), z.2.2.2.2.2.2.2.2.2.1)]⟩], fun z => 0⟩ ?_ ?_
    · refine JS.seq (JS.region (JO.reg ttOk 1 [] [] [(6, .v (.int .i64 x1))] _ rfl ⟨⟨rfl, trivial⟩, rfl⟩ ?_))
      obtain ⟨y16, hy17, h⟩ := bindO_some h
      refine JO.call rfl rfl rfl rfl (ok_i_isDigit x1 _ hy17) rfl [] rfl rfl fun _ _ => JO.reg ttOk 1 [] [] [(5, .v (.bool y16))] _ rfl ⟨⟨rfl, trivial⟩, rfl⟩ (JO.done rfl ?_)
      refine JS.cond rfl (fun ht118 => ?_) (fun ht118 => ?_)
      · have h := condT h ht118
        obtain ⟨j24, hj109, h⟩ := joinO_some h
        refine JS.seqJ (ι := List Int × Option Addr × Nat) ⟨fun z => j24 z.1 = some r, fun z => [(0, .ep ⟨a3, 1, 1⟩ 0), (1, .v (.int .i64 x1))], fun z => .nil, fun z => [], fun z => [⟨(.int .i64), ⟨z.2.1, z.1.length, z.2.2⟩, z.1⟩, ⟨(.pair (.pair (.int .i64) (.pair (.int .i64) (.pair .val (.pair (.int .i64) (.pair (.int .i64) .bool))))) (.pair (.int .i64) (.pair .val (.pair .val (.int .i64))))), ⟨a3, 1, 1⟩, [((x0.1.1, x0.1.2.1, (Sl.v ⟨a4, x0.1.2.2.1.length, c5⟩), x0.1.2.2.2.1, x0.1.2.2.2.2.1, x0.1.2.2.2.2.2), x0.2.1, (Sl.v ⟨z.2.1, z.1.length, z.2.2⟩), (Sl.v ⟨a12, x0.2.2.2.1.length, c13⟩), x0.2.2.2.2)]⟩, ⟨(.int .i64), ⟨a4, x0.1.2.2.1.length, c5⟩, x0.1.2.2.1⟩, ⟨.byte, ⟨a12, x0.2.2.2.1.length, c13⟩, x0.2.2.2.1⟩], fun z => 0⟩ ?_ ?_
        · refine JS.seq (JS.region (JO.know 0 rfl fun hs104 => JO.reg ttOk 3 [] [] [(10, .ep ⟨a3, 1, 1⟩ 7)] _ rfl ⟨(hs104.fa ptr0).1, hs104.fa ptr0, ⟨rfl, trivial⟩, rfl⟩ (JO.loadV ttOk rfl rfl rfl rfl rfl rfl 0 rfl rfl 0 7 ((x0.1.1, x0.1.2.1, (Sl.v ⟨a4, x0.1.2.2.1.length, c5⟩), x0.1.2.2.2.1, x0.1.2.2.2.2.1, x0.1.2.2.2.2.2), x0.2.1, (Sl.v ⟨a8, x0.2.2.1.length, c9⟩), (Sl.v ⟨a12, x0.2.2.2.1.length, c13⟩), x0.2.2.2.2) ⟨rfl, rfl⟩ rfl rfl rfl (JO.reg ttOk 2 [] [] [(13, .v (.bool (decide ((x0.2.2.1.length : Int) = 0))))] _ rfl ⟨⟨rfl, trivial⟩, rfl⟩ (JO.done rfl ?_)))))
          refine JS.cond rfl (fun ht105 => ?_) (fun ht105 => ?_)
          · have h := condT h ht105
            refine JS.region (JO.reg ttOk 1 [] [] [(14, .ep ⟨a3, 1, 1⟩ 0)] _ rfl ⟨⟨rfl, trivial⟩, rfl⟩ ?_)
            refine JO.ofK rfl (JK.buildSlice ttOk rfl rfl rfl rfl rfl rfl rfl rfl rfl rfl rfl [] rfl (.int .i64) [0] ⟨rfl, rfl⟩ rfl rfl fun a19 => JO.toK ?_)
            refine JO.reg ttOk 2 [] [] [(17, .ep ⟨a3, 1, 1⟩ 7)] _ rfl ⟨(hs104.fa ptr0).1, hs104.fa ptr0, ⟨rfl, trivial⟩, rfl⟩ (JO.storeE ttOk rfl rfl rfl rfl rfl rfl rfl rfl rfl [1] (fs := []) rfl 0 7 ((x0.1.1, x0.1.2.1, (Sl.v ⟨a4, x0.1.2.2.1.length, c5⟩), x0.1.2.2.2.1, x0.1.2.2.2.2.1, x0.1.2.2.2.2.2), x0.2.1, (Sl.v ⟨a8, x0.2.2.1.length, c9⟩), (Sl.v ⟨a12, x0.2.2.2.1.length, c13⟩), x0.2.2.2.2) ((x0.1.1, x0.1.2.1, (Sl.v ⟨a4, x0.1.2.2.1.length, c5⟩), x0.1.2.2.2.1, x0.1.2.2.2.2.1, x0.1.2.2.2.2.2), x0.2.1, (Sl.v ⟨a19, ([0] : List Int).length, ([0] : List Int).length⟩), (Sl.v ⟨a12, x0.2.2.2.1.length, c13⟩), x0.2.2.2.2) ⟨rfl, rfl⟩ ⟨⟨⟨⟨rfl, rfl, rfl, rfl⟩, rfl⟩, rfl⟩, rfl⟩ (JO.done rfl (JS.endJA (([0] : List Int), a19, ([0] : List Int).length) h ⟨rfl, rfl, trivial⟩ trivial [] rfl [1, 0, 2, 4] rfl rfl)))
          have h := condF h ht105
          refine JS.skip (JS.endJA (x0.2.2.1, a8, c9) h ⟨rfl, rfl, trivial⟩ trivial [] rfl [2, 0, 1, 3] rfl rfl)
        rintro ⟨x21, a22, c23⟩ h
        subst hj109
        refine JS.seq (JS.region (JO.know 1 rfl fun hs106 => JO.reg ttOk 3 [] [] [(20, .ep ⟨a3, 1, 1⟩ 7)] _ rfl ⟨(hs106.fa ptr0).1, hs106.fa ptr0, ⟨rfl, trivial⟩, rfl⟩ (JO.loadV ttOk rfl rfl rfl rfl rfl rfl 1 rfl rfl 0 7 ((x0.1.1, x0.1.2.1, (Sl.v ⟨a4, x0.1.2.2.1.length, c5⟩), x0.1.2.2.2.1, x0.1.2.2.2.2.1, x0.1.2.2.2.2.2), x0.2.1, (Sl.v ⟨a22, x21.length, c23⟩), (Sl.v ⟨a12, x0.2.2.2.1.length, c13⟩), x0.2.2.2.2) ⟨rfl, rfl⟩ rfl rfl rfl (JO.reg ttOk 3 [(W ((x21.length : Int) - 1))] [] [(4, .v (.int .i64 (W ((x21.length : Int) - 1))))] _ rfl ⟨⟨trivial, rfl⟩, ⟨rfl, trivial⟩, rfl⟩ (JO.done rfl (JS.seq ?_))))))
        obtain ⟨g29, h⟩ := guardO_some h
        obtain ⟨g30, h⟩ := guardO_some h
        refine JS.know 0 rfl fun hs108 => ?_
        refine JS.regionA rfl .nil [1, 0] [17, 18] trivial rfl (fun be32 => ?_)
        refine JA.reg ttOk panic_cxX true 10 [0, 1, 2, 4, 5, 6, 7, 9, 13] rfl (by kernel_rfl) [] [(26, .ep ⟨a3, 1, 1⟩ 7), (28, .v (.int .i64 (W ((x21.length : Int) - 1)))), (31, .ep ⟨a3, 1, 1⟩ 7), (33, .v (.int .i64 (W ((x21.length : Int) - 1)))), (37, .v (.int .i64 x1))] trivial [1, 0] rfl rfl ⟨(hs106.fa ptr0).1, hs106.fa ptr0, (hs106.fa ptr0).1, hs106.fa ptr0, ⟨rfl, rfl, rfl, rfl, rfl, trivial⟩⟩ (JA.loadV ttOk panic_cxX 3 rfl (by kernel_rfl) rfl rfl rfl rfl rfl 0 rfl rfl 0 7 ((x0.1.1, x0.1.2.1, (Sl.v ⟨a4, x0.1.2.2.1.length, c5⟩), x0.1.2.2.2.1, x0.1.2.2.2.2.1, x0.1.2.2.2.2.2), x0.2.1, (Sl.v ⟨a22, x21.length, c23⟩), (Sl.v ⟨a12, x0.2.2.2.1.length, c13⟩), x0.2.2.2.2) ⟨rfl, rfl⟩ rfl rfl rfl trivial [1, 0] rfl (JA.loadV ttOk panic_cxX 8 rfl (by kernel_rfl) rfl rfl rfl rfl rfl 0 rfl rfl 0 7 ((x0.1.1, x0.1.2.1, (Sl.v ⟨a4, x0.1.2.2.1.length, c5⟩), x0.1.2.2.2.1, x0.1.2.2.2.2.1, x0.1.2.2.2.2.2), x0.2.1, (Sl.v ⟨a22, x21.length, c23⟩), (Sl.v ⟨a12, x0.2.2.2.1.length, c13⟩), x0.2.2.2.2) ⟨rfl, rfl⟩ rfl rfl rfl trivial [1, 0] rfl (JA.reg ttOk panic_cxX true 7 [10] rfl (by kernel_rfl) [] [(34, .ep ⟨a22, x21.length, c23⟩ (Int.toNat (W ((x21.length : Int) - 1)) * 1))] trivial [1, 0] rfl rfl ⟨hs108.ix g29, ⟨rfl, trivial⟩⟩ (JA.load ttOk panic_cxX 11 rfl (by kernel_rfl) rfl rfl rfl rfl rfl rfl 1 rfl rfl (Int.toNat (W ((x21.length : Int) - 1))) 0 (at' x21 (W ((x21.length : Int) - 1))) ⟨at_some g29, rfl⟩ rfl rfl trivial [1, 0] rfl (JA.reg ttOk panic_cxX true 2 [12, 14, 15, 16] rfl (by kernel_rfl) [(W (10 * (at' x21 (W ((x21.length : Int) - 1))))), (W ((W (10 * (at' x21 (W ((x21.length : Int) - 1))))) + x1)), (W ((W ((W (10 * (at' x21 (W ((x21.length : Int) - 1))))) + x1)) - 48))] [(40, .v (.int .i64 (min (W ((W ((W (10 * (at' x21 (W ((x21.length : Int) - 1))))) + x1)) - 48)) 9999)))] trivial [1, 0] rfl rfl ⟨⟨trivial, rfl⟩, ⟨trivial, rfl⟩, ⟨trivial, rfl⟩, ⟨rfl, trivial⟩⟩ (JA.regL ttOk panic_cxX 1 [17] rfl (by kernel_rfl) [] [(41, .ep ⟨a22, x21.length, c23⟩ (Int.toNat (W ((x21.length : Int) - 1)) * 1))] rfl ⟨hs108.ix g30, ⟨rfl, trivial⟩⟩ (JA.one 18 (by kernel_rfl) (JK.storeE ttOk rfl rfl rfl rfl rfl rfl rfl rfl rfl [0] (fs := []) rfl (Int.toNat (W ((x21.length : Int) - 1))) 0 (at' x21 (W ((x21.length : Int) - 1))) (min (W ((W ((W (10 * (at' x21 (W ((x21.length : Int) - 1))))) + x1)) - 48)) 9999) ⟨at_some g30, rfl⟩ ⟨rfl, rfl, rfl⟩ (JA.nextL rfl (JA.done (by kernel_rfl) (JS.boxes (B' := .nil) trivial ?_)))))))))))
        cases h
        exact JS.retX ttOk (a4, c5, a22, c23, a12, c13) trivial rfl rfl [1, 1, 0, 0] (by simp only [List.length_set, List.length_replicate, pickO, getF, cl26, cl45]; rfl)
      have h := condF h ht118
      refine JS.seq (JS.region (JO.reg ttOk 3 [] [] [(42, .v (.bool (decide (x1 = 59))))] _ rfl ⟨⟨rfl, trivial⟩, rfl⟩ (JO.done rfl ?_)))
      refine JS.cond rfl (fun ht117 => ?_) (fun ht117 => ?_)
      · have h := condT h ht117
        obtain ⟨j40, hj115, h⟩ := joinO_some h
        refine JS.seqJ (ι := List Int × Option Addr × Nat) ⟨fun z => j40 z.1 = some r, fun z => [(0, .ep ⟨a3, 1, 1⟩ 0)], fun z => .nil, fun z => [], fun z => [⟨(.int .i64), ⟨z.2.1, z.1.length, z.2.2⟩, z.1⟩, ⟨(.pair (.pair (.int .i64) (.pair (.int .i64) (.pair .val (.pair (.int .i64) (.pair (.int .i64) .bool))))) (.pair (.int .i64) (.pair .val (.pair .val (.int .i64))))), ⟨a3, 1, 1⟩, [((x0.1.1, x0.1.2.1, (Sl.v ⟨a4, x0.1.2.2.1.length, c5⟩), x0.1.2.2.2.1, x0.1.2.2.2.2.1, x0.1.2.2.2.2.2), x0.2.1, (Sl.v ⟨z.2.1, z.1.length, z.2.2⟩), (Sl.v ⟨a12, x0.2.2.2.1.length, c13⟩), x0.2.2.2.2)]⟩, ⟨(.int .i64), ⟨a4, x0.1.2.2.1.length, c5⟩, x0.1.2.2.1⟩, ⟨.byte, ⟨a12, x0.2.2.2.1.length, c13⟩, x0.2.2.2.1⟩], fun z => 0⟩ ?_ ?_
        · refine JS.seq (JS.region (JO.know 0 rfl fun hs110 => JO.reg ttOk 3 [] [] [(47, .ep ⟨a3, 1, 1⟩ 7)] _ rfl ⟨(hs110.fa ptr0).1, hs110.fa ptr0, ⟨rfl, trivial⟩, rfl⟩ (JO.loadV ttOk rfl rfl rfl rfl rfl rfl 0 rfl rfl 0 7 ((x0.1.1, x0.1.2.1, (Sl.v ⟨a4, x0.1.2.2.1.length, c5⟩), x0.1.2.2.2.1, x0.1.2.2.2.2.1, x0.1.2.2.2.2.2), x0.2.1, (Sl.v ⟨a8, x0.2.2.1.length, c9⟩), (Sl.v ⟨a12, x0.2.2.2.1.length, c13⟩), x0.2.2.2.2) ⟨rfl, rfl⟩ rfl rfl rfl (JO.reg ttOk 2 [] [] [(50, .v (.bool (decide ((x0.2.2.1.length : Int) = 0))))] _ rfl ⟨⟨rfl, trivial⟩, rfl⟩ (JO.done rfl ?_)))))
          refine JS.cond rfl (fun ht111 => ?_) (fun ht111 => ?_)
          · have h := condT h ht111
            refine JS.region (JO.reg ttOk 1 [] [] [(51, .ep ⟨a3, 1, 1⟩ 0)] _ rfl ⟨⟨rfl, trivial⟩, rfl⟩ ?_)
            refine JO.ofK rfl (JK.buildSlice ttOk rfl rfl rfl rfl rfl rfl rfl rfl rfl rfl rfl [] rfl (.int .i64) [0] ⟨rfl, rfl⟩ rfl rfl fun a35 => JO.toK ?_)
            refine JO.reg ttOk 2 [] [] [(54, .ep ⟨a3, 1, 1⟩ 7)] _ rfl ⟨(hs110.fa ptr0).1, hs110.fa ptr0, ⟨rfl, trivial⟩, rfl⟩ (JO.storeE ttOk rfl rfl rfl rfl rfl rfl rfl rfl rfl [1] (fs := []) rfl 0 7 ((x0.1.1, x0.1.2.1, (Sl.v ⟨a4, x0.1.2.2.1.length, c5⟩), x0.1.2.2.2.1, x0.1.2.2.2.2.1, x0.1.2.2.2.2.2), x0.2.1, (Sl.v ⟨a8, x0.2.2.1.length, c9⟩), (Sl.v ⟨a12, x0.2.2.2.1.length, c13⟩), x0.2.2.2.2) ((x0.1.1, x0.1.2.1, (Sl.v ⟨a4, x0.1.2.2.1.length, c5⟩), x0.1.2.2.2.1, x0.1.2.2.2.2.1, x0.1.2.2.2.2.2), x0.2.1, (Sl.v ⟨a35, ([0] : List Int).length, ([0] : List Int).length⟩), (Sl.v ⟨a12, x0.2.2.2.1.length, c13⟩), x0.2.2.2.2) ⟨rfl, rfl⟩ ⟨⟨⟨⟨rfl, rfl, rfl, rfl⟩, rfl⟩, rfl⟩, rfl⟩ (JO.done rfl (JS.endJA (([0] : List Int), a35, ([0] : List Int).length) h ⟨rfl, trivial⟩ trivial [] rfl [1, 0, 2, 4] rfl rfl)))
          have h := condF h ht111
          refine JS.skip (JS.endJA (x0.2.2.1, a8, c9) h ⟨rfl, trivial⟩ trivial [] rfl [2, 0, 1, 3] rfl rfl)
        rintro ⟨x37, a38, c39⟩ h
        subst hj115
        obtain ⟨j52, hj114, h⟩ := joinO_some h
        refine JS.seqJ (ι := List Int × Option Addr × Nat) ⟨fun z => j52 z.1 = some r, fun z => [], fun z => .nil, fun z => [], fun z => [⟨(.int .i64), ⟨z.2.1, z.1.length, z.2.2⟩, z.1⟩, ⟨(.pair (.pair (.int .i64) (.pair (.int .i64) (.pair .val (.pair (.int .i64) (.pair (.int .i64) .bool))))) (.pair (.int .i64) (.pair .val (.pair .val (.int .i64))))), ⟨a3, 1, 1⟩, [((x0.1.1, x0.1.2.1, (Sl.v ⟨a4, x0.1.2.2.1.length, c5⟩), x0.1.2.2.2.1, x0.1.2.2.2.2.1, x0.1.2.2.2.2.2), x0.2.1, (Sl.v ⟨z.2.1, z.1.length, z.2.2⟩), (Sl.v ⟨a12, x0.2.2.2.1.length, c13⟩), x0.2.2.2.2)]⟩, ⟨(.int .i64), ⟨a4, x0.1.2.2.1.length, c5⟩, x0.1.2.2.1⟩, ⟨.byte, ⟨a12, x0.2.2.2.1.length, c13⟩, x0.2.2.2.1⟩], fun z => 0⟩ ?_ ?_
        · refine JS.seq (JS.region (JO.know 1 rfl fun hs112 => JO.reg ttOk 3 [] [] [(57, .ep ⟨a3, 1, 1⟩ 7)] _ rfl ⟨(hs112.fa ptr0).1, hs112.fa ptr0, ⟨rfl, trivial⟩, rfl⟩ (JO.loadV ttOk rfl rfl rfl rfl rfl rfl 1 rfl rfl 0 7 ((x0.1.1, x0.1.2.1, (Sl.v ⟨a4, x0.1.2.2.1.length, c5⟩), x0.1.2.2.2.1, x0.1.2.2.2.2.1, x0.1.2.2.2.2.2), x0.2.1, (Sl.v ⟨a38, x37.length, c39⟩), (Sl.v ⟨a12, x0.2.2.2.1.length, c13⟩), x0.2.2.2.2) ⟨rfl, rfl⟩ rfl rfl rfl (JO.reg ttOk 2 [] [] [(60, .v (.bool (decide ((x37.length : Int) < 4))))] _ rfl ⟨⟨rfl, trivial⟩, rfl⟩ (JO.done rfl ?_)))))
          refine JS.cond rfl (fun ht113 => ?_) (fun ht113 => ?_)
          · have h := condT h ht113
            refine JS.region (JO.reg ttOk 4 [] [] [(61, .ep ⟨a3, 1, 1⟩ 0), (64, .ep ⟨a3, 1, 1⟩ 7)] _ rfl ⟨(hs112.fa ptr0).1, hs112.fa ptr0, ⟨rfl, rfl, trivial⟩, rfl⟩ (JO.loadV ttOk rfl rfl rfl rfl rfl rfl 1 rfl rfl 0 7 ((x0.1.1, x0.1.2.1, (Sl.v ⟨a4, x0.1.2.2.1.length, c5⟩), x0.1.2.2.2.1, x0.1.2.2.2.2.1, x0.1.2.2.2.2.2), x0.2.1, (Sl.v ⟨a38, x37.length, c39⟩), (Sl.v ⟨a12, x0.2.2.2.1.length, c13⟩), x0.2.2.2.2) ⟨rfl, rfl⟩ rfl rfl rfl ?_))
            refine JO.ofK rfl (JK.buildSlice ttOk rfl rfl rfl rfl rfl rfl rfl rfl rfl rfl rfl [] rfl (.int .i64) [0] ⟨rfl, rfl⟩ rfl rfl fun a44 => JO.toK ?_)
            obtain ⟨g45, h⟩ := guardO_some h
            refine JO.appendR' ttOk rfl rfl rfl rfl ⟨rfl, rfl, rfl, rfl, trivial, rfl, rfl, rfl, rfl⟩ rfl rfl rfl [1] rfl 0 rfl g45 rfl fun a46 c47 => JO.reg ttOk 2 [] [] [(69, .ep ⟨a3, 1, 1⟩ 7)] _ rfl ⟨(hs112.fa ptr0).1, hs112.fa ptr0, ⟨rfl, trivial⟩, rfl⟩ (JO.storeE ttOk rfl rfl rfl rfl rfl rfl rfl rfl rfl [2] (fs := []) rfl 0 7 ((x0.1.1, x0.1.2.1, (Sl.v ⟨a4, x0.1.2.2.1.length, c5⟩), x0.1.2.2.2.1, x0.1.2.2.2.2.1, x0.1.2.2.2.2.2), x0.2.1, (Sl.v ⟨a38, x37.length, c39⟩), (Sl.v ⟨a12, x0.2.2.2.1.length, c13⟩), x0.2.2.2.2) ((x0.1.1, x0.1.2.1, (Sl.v ⟨a4, x0.1.2.2.1.length, c5⟩), x0.1.2.2.2.1, x0.1.2.2.2.2.1, x0.1.2.2.2.2.2), x0.2.1, (Sl.v ⟨a46, (x37 ++ ([0] : List Int)).length, c47⟩), (Sl.v ⟨a12, x0.2.2.2.1.length, c13⟩), x0.2.2.2.2) ⟨rfl, rfl⟩ ⟨⟨⟨⟨rfl, rfl, rfl, rfl⟩, rfl⟩, rfl⟩, rfl⟩ (JO.done rfl (JS.endJA ((x37 ++ ([0] : List Int)), a46, c47) h trivial trivial [] rfl [1, 0, 3, 4] rfl rfl)))
          have h := condF h ht113
          refine JS.skip (JS.endJA (x37, a38, c39) h trivial trivial [] rfl [0, 1, 2, 3] rfl rfl)
        rintro ⟨x49, a50, c51⟩ h
        subst hj114
        cases h
        exact JS.retX ttOk (a4, c5, a50, c51, a12, c13) trivial rfl rfl [1, 1, 0, 0] rfl
      have h := condF h ht117
      refine JS.seq (JS.region (JO.reg ttOk 1 [] [] [(71, .v (.int .i64 x1))] _ rfl ⟨⟨rfl, trivial⟩, rfl⟩ ?_))
      obtain ⟨y57, hy58, h⟩ := bindO_some h
      refine JO.call rfl rfl rfl rfl (ok_i_in x1 64 126 _ hy58) rfl [] rfl rfl fun _ _ => JO.reg ttOk 1 [] [] [(70, .v (.bool y57))] _ rfl ⟨⟨rfl, trivial⟩, rfl⟩ (JO.done rfl ?_)
      refine JS.cond rfl (fun ht116 => ?_) (fun ht116 => ?_)
      · have h := condT h ht116
        refine JS.region (JO.reg ttOk 2 [] [] [(73, .ep ⟨a3, 1, 1⟩ 0), (74, .v (.int .i64 x1))] _ rfl ⟨⟨rfl, rfl, trivial⟩, rfl⟩ ?_)
        obtain ⟨y59, hy60, h⟩ := bindO_some h
        refine JO.callX rfl rfl rfl rfl (ok_i_Vt_control x0 x1 a3 a4 c5 x0.1.2.2.1.length rfl a8 c9 x0.2.2.1.length rfl a12 c13 x0.2.2.2.1.length rfl _ hy60) rfl [0, 0, 0, 0] rfl [] rfl rfl ?_
        rintro ⟨a61, c62, a63, c64, a65, c66⟩ -
        refine JO.done rfl (JS.endB (JS.endJA (y59.1.1, y59.1.2.1, y59.1.2.2.1, y59.1.2.2.2.1, y59.1.2.2.2.2.1, y59.1.2.2.2.2.2, y59.2.1, y59.2.2.1, y59.2.2.2.1, y59.2.2.2.2, a61, c62, a63, c64, a65, c66) h ⟨rfl, trivial⟩ trivial [] rfl [1, 2, 3, 0] rfl rfl))
      have h := condF h ht116
      refine JS.skip (JS.endB (JS.endJA (x0.1.1, x0.1.2.1, x0.1.2.2.1, x0.1.2.2.2.1, x0.1.2.2.2.2.1, x0.1.2.2.2.2.2, x0.2.1, x0.2.2.1, x0.2.2.2.1, x0.2.2.2.2, a4, c5, a8, c9, a12, c13) h ⟨rfl, trivial⟩ trivial [] rfl [1, 2, 3, 0] rfl rfl))
    rintro ⟨x70, x71, x72, x75, x76, x77, x78, x79, x82, x85, a73, c74, a80, c81, a83, c84⟩ h
    subst hj120
    refine JS.region (JO.know 3 rfl fun hs119 => JO.reg ttOk 4 [] [] [(77, .ep ⟨a3, 1, 1⟩ 0), (79, .ep ⟨a3, 1, 1⟩ 6)] _ rfl ⟨(hs119.fa ptr0).1, hs119.fa ptr0, ⟨rfl, rfl, trivial⟩, rfl⟩ (JO.storeE ttOk rfl rfl rfl rfl rfl rfl rfl rfl rfl [3] (fs := []) rfl 0 6 ((x70, x71, (Sl.v ⟨a73, x72.length, c74⟩), x75, x76, x77), x78, (Sl.v ⟨a80, x79.length, c81⟩), (Sl.v ⟨a83, x82.length, c84⟩), x85) ((x70, x71, (Sl.v ⟨a73, x72.length, c74⟩), x75, x76, x77), 0, (Sl.v ⟨a80, x79.length, c81⟩), (Sl.v ⟨a83, x82.length, c84⟩), x85) ⟨rfl, rfl⟩ ⟨⟨⟨rfl, rfl, rfl⟩, rfl⟩, rfl⟩ (JO.reg ttOk 2 [] [] [(81, .ep ⟨a3, 1, 1⟩ 7)] _ rfl ⟨(hs119.fa ptr0).1, hs119.fa ptr0, ⟨rfl, trivial⟩, rfl⟩ (JO.storeE ttOk rfl rfl rfl rfl rfl rfl rfl rfl rfl [0] (fs := []) rfl 0 7 ((x70, x71, (Sl.v ⟨a73, x72.length, c74⟩), x75, x76, x77), 0, (Sl.v ⟨a80, x79.length, c81⟩), (Sl.v ⟨a83, x82.length, c84⟩), x85) ((x70, x71, (Sl.v ⟨a73, x72.length, c74⟩), x75, x76, x77), 0, (Sl.v ⟨none, 0, 0⟩), (Sl.v ⟨a83, x82.length, c84⟩), x85) ⟨rfl, rfl⟩ ⟨⟨⟨⟨rfl, rfl, rfl, rfl⟩, rfl⟩, rfl⟩, rfl⟩ (JO.done rfl ?_)))))
    cases h
    refine JS.nilO (.int .i64) Sl.nil rfl rfl (JS.fallX ttOk (a73, c74, none, 0, a83, c84) trivial rfl rfl [1, 1, 0, 1] rfl)

def M_i_Grid_scroll_L1 (x0 : Int × Int × List Int × Int × Int × Bool) (j46 : (List Int) → Option (Int × Int × List Int × Int × Int × Bool)) (k40 : (List Int × Int) → Option (Int × Int × List Int × Int × Int × Bool)) : (List Int × Int) → Option (Int × Int × List Int × Int × Int × Bool) := fun (x22, x25) =>
  (bif (decide (x25 < x0.1)) then
  (guardO (x22.length + ([32] : List Int).length ≤ 536870912) <|
  k40 ((x22 ++ ([32] : List Int)), (W (x25 + 1))))
  else
  j46 x22)

def M_i_Grid_scroll (x0 : Int × Int × List Int × Int × Int × Bool) : Option (Int × Int × List Int × Int × Int × Bool) :=
  (guardO (0 ≤ x0.1 ∧ x0.1 ≤ (x0.2.2.1.length : Int) ∧ (x0.2.2.1.length : Int) ≤ (x0.2.2.1.length : Int)) <|
  (bindO (M_i_copyInts (sub' x0.2.2.1 x0.1 (x0.2.2.1.length : Int))) fun (y13 : List Int) =>
  (joinO (fun (x43 : List Int) =>
  some (x0.1, x0.2.1, x43, x0.2.2.2.1, x0.2.2.2.2.1, x0.2.2.2.2.2)) fun j46 =>
  (fixF (M_i_Grid_scroll_L1 x0 j46) FUEL (y13, 0)))))

theorem ok_i_Grid_scroll (x0 : Int × Int × List Int × Int × Int × Bool) (a2 : Option Addr) (a3 : Option Addr) (c4 : Nat) (l5 : Nat) (hl6 : x0.2.2.1.length = l5) (r : Int × Int × List Int × Int × Int × Bool) (h : M_i_Grid_scroll x0 = some r) :
    FX Try.prog 66 [.pointer a2] [] [⟨(.pair (.int .i64) (.pair (.int .i64) (.pair .val (.pair (.int .i64) (.pair (.int .i64) .bool))))), ⟨a2, 1, 1⟩, [(x0.1, x0.2.1, (Sl.v ⟨a3, l5, c4⟩), x0.2.2.2.1, x0.2.2.2.2.1, x0.2.2.2.2.2)]⟩, ⟨(.int .i64), ⟨a3, l5, c4⟩, x0.2.2.1⟩] (fun _ : Option Addr × Nat => True) (fun q => .tuple #[]) (fun q => [⟨(.pair (.int .i64) (.pair (.int .i64) (.pair .val (.pair (.int .i64) (.pair (.int .i64) .bool))))), ⟨a2, 1, 1⟩, [(r.1, r.2.1, (Sl.v ⟨q.1, r.2.2.1.length, q.2⟩), r.2.2.2.1, r.2.2.2.2.1, r.2.2.2.2.2)]⟩, ⟨(.int .i64), ⟨q.1, r.2.2.1.length, q.2⟩, r.2.2.1⟩]) :=
  by
    subst hl6
    refine FX.of (T := TTx) Try.call66 Try.func66 rfl rfl fun w0 L0 => ?_
    unfold M_i_Grid_scroll at h
    refine JS.ptr 0 a2 rfl ?_
    refine JS.seq ?_
    obtain ⟨g8, h⟩ := guardO_some h
    obtain ⟨y13, hy14, h⟩ := bindO_some h
    refine JS.freeze [1] rfl (JS.subR 0 rfl x0.1 (x0.2.2.1.length : Int) fun a9 c10 hu11 => JS.know 2 rfl fun hs54 => JS.know 1 rfl fun hs55 => ?_)
    refine JS.regionA rfl .nil [2] [8, 9, 10] trivial rfl (fun be21 => ?_)
    refine JA.reg ttOk panic_cxX true 5 [0, 1, 2, 4, 5, 6] rfl (by kernel_rfl) [] [(5, .ep ⟨a2, 1, 1⟩ 2), (9, .ep ⟨a2, 1, 1⟩ 0)] trivial [2] rfl rfl ⟨(hs54.fa ptr0).1, hs54.fa ptr0, (hs54.fa ptr0).1, hs54.fa ptr0, ⟨rfl, rfl, trivial⟩⟩ (JA.loadV ttOk panic_cxX 3 rfl (by kernel_rfl) rfl rfl rfl rfl rfl 0 rfl rfl 0 2 (x0.1, x0.2.1, (Sl.v ⟨a3, x0.2.2.1.length, c4⟩), x0.2.2.2.1, x0.2.2.2.2.1, x0.2.2.2.2.2) ⟨rfl, rfl⟩ rfl rfl rfl trivial [2] rfl (JA.loadV ttOk panic_cxX 7 rfl (by kernel_rfl) rfl rfl rfl rfl rfl 0 rfl rfl 0 0 (x0.1, x0.2.1, (Sl.v ⟨a3, x0.2.2.1.length, c4⟩), x0.2.2.2.1, x0.2.2.2.2.1, x0.2.2.2.2.2) ⟨rfl, rfl⟩ rfl rfl rfl trivial [2] rfl (JA.sliceP ttOk panic_cxX 8 rfl (by kernel_rfl) rfl rfl rfl rfl rfl rfl x0.1 (x0.2.2.1.length : Int) rfl rfl ⟨g8.1, g8.2.1, g8.2.2, hs55.cap, hu11 g8⟩ rfl (JA.one 9 (by kernel_rfl) (JK.call rfl rfl rfl rfl (ok_i_copyInts (sub' x0.2.2.1 x0.1 (x0.2.2.1.length : Int)) a9 c10 ((sub' x0.2.2.1 x0.1 (x0.2.2.1.length : Int)).length) rfl _ hy14) rfl [0] rfl rfl ?_)))))
    rintro ⟨a15, c16⟩ -
    refine JA.nextL rfl (JA.regL ttOk panic_cxX 0 [10] rfl (by kernel_rfl) [] [(2, .v (.slice a15 y13.length c16))] rfl ⟨rfl, trivial⟩ (JA.done (by kernel_rfl) (JS.boxes (B' := .nil) trivial (JS.seq (JS.seq (JS.region (JO.reg ttOk 3 [] [] [(15, .ep ⟨a2, 1, 1⟩ 0)] _ rfl ⟨(hs54.fa ptr0).1, hs54.fa ptr0, ⟨rfl, trivial⟩, rfl⟩ (JO.loadV ttOk rfl rfl rfl rfl rfl rfl 3 rfl rfl 0 0 (x0.1, x0.2.1, (Sl.v ⟨a3, x0.2.2.1.length, c4⟩), x0.2.2.2.1, x0.2.2.2.2.1, x0.2.2.2.2.2) ⟨rfl, rfl⟩ rfl rfl rfl (JO.reg ttOk 1 [] [] [(17, .v (.int .i64 0))] _ rfl ⟨⟨rfl, trivial⟩, rfl⟩ (JO.done rfl ?_))))))))))
    obtain ⟨j46, hj58, h⟩ := joinO_some h
    refine JS.blockJ (ι := List Int × Option Addr × Nat) ⟨fun z => j46 z.1 = some r, fun z => [(0, .ep ⟨a2, 1, 1⟩ 0), (2, .v (.slice z.2.1 z.1.length z.2.2))], fun z => .nil, fun z => [⟨(.int .i64), ⟨a3, x0.2.2.1.length, c4⟩, x0.2.2.1⟩], fun z => [⟨(.int .i64), ⟨z.2.1, z.1.length, z.2.2⟩, z.1⟩, ⟨(.pair (.int .i64) (.pair (.int .i64) (.pair .val (.pair (.int .i64) (.pair (.int .i64) .bool))))), ⟨a2, 1, 1⟩, [(x0.1, x0.2.1, (Sl.v ⟨a3, x0.2.2.1.length, c4⟩), x0.2.2.2.1, x0.2.2.2.2.1, x0.2.2.2.2.2)]⟩], fun z => 0⟩ ?_ ?_
    · refine JS.loop (ι := Nat × List Int × Int × Option Addr × Nat) ⟨fun z => fixF (M_i_Grid_scroll_L1 x0 j46) z.1 (z.2.1, z.2.2.1) = some r, fun z => [(0, .ep ⟨a2, 1, 1⟩ 0), (2, .v (.slice z.2.2.2.1 z.2.1.length z.2.2.2.2)), (16, .v (.int .i64 x0.1)), (17, .v (.int .i64 z.2.2.1))], fun z => .nil, fun z => [⟨(.int .i64), ⟨a3, x0.2.2.1.length, c4⟩, x0.2.2.1⟩], fun z => [⟨(.int .i64), ⟨z.2.2.2.1, z.2.1.length, z.2.2.2.2⟩, z.2.1⟩, ⟨(.pair (.int .i64) (.pair (.int .i64) (.pair .val (.pair (.int .i64) (.pair (.int .i64) .bool))))), ⟨a2, 1, 1⟩, [(x0.1, x0.2.1, (Sl.v ⟨a3, x0.2.2.1.length, c4⟩), x0.2.2.2.1, x0.2.2.2.2.1, x0.2.2.2.2.2)]⟩], fun z => z.1⟩ (FUEL, y13, 0, a15, c16) h ⟨rfl, rfl, rfl, rfl, trivial⟩ trivial [1] rfl [0, 0] rfl ?_
      rintro ⟨n41, x22, x25, a23, c24⟩ h
      obtain ⟨n41, rfl, h⟩ := fixF_some h
      rw [M_i_Grid_scroll_L1] at h
      refine JS.seq (JS.region (JO.reg ttOk 1 [] [] [(18, .v (.bool (decide (x25 < x0.1))))] _ rfl ⟨⟨rfl, trivial⟩, rfl⟩ (JO.done rfl (JS.seq ?_))))
      refine JS.cond rfl (fun ht56 => ?_) (fun ht56 => ?_)
      · have h := condT h ht56
        refine JS.skip (JS.seq (JS.block (JS.region (JO.reg ttOk 1 [] [] [(19, .v (.slice a23 x22.length c24))] _ rfl ⟨⟨rfl, trivial⟩, rfl⟩ ?_))))
        refine JO.ofK rfl (JK.buildSlice ttOk rfl rfl rfl rfl rfl rfl rfl rfl rfl rfl rfl [] rfl (.int .i64) [32] ⟨rfl, rfl⟩ rfl rfl fun a34 => JO.toK ?_)
        obtain ⟨g35, h⟩ := guardO_some h
        refine JO.appendR' ttOk rfl rfl rfl rfl ⟨rfl, rfl, rfl, rfl, trivial, rfl, rfl, rfl, rfl⟩ rfl rfl rfl [1] rfl 1 rfl g35 rfl fun a36 c37 => JO.reg ttOk 1 [] [] [(2, .v (.slice a36 (x22 ++ ([32] : List Int)).length c37))] _ rfl ⟨⟨rfl, trivial⟩, rfl⟩ (JO.done rfl (JS.endB (JS.region (JO.reg ttOk 2 [(W (x25 + 1))] [] [(17, .v (.int .i64 (W (x25 + 1))))] _ rfl ⟨⟨trivial, rfl⟩, ⟨rfl, trivial⟩, rfl⟩ (JO.done rfl (JS.endL (n41, (x22 ++ ([32] : List Int)), (W (x25 + 1)), a36, c37) h (Nat.lt_succ_self _) ⟨rfl, rfl, rfl, rfl, trivial⟩ trivial [0] rfl [0, 1] rfl))))))
      have h := condF h ht56
      refine JS.exit rfl (JS.endJ (x22, a23, c24) h ⟨rfl, rfl, trivial⟩ trivial [0] rfl [0, 0] rfl)
    rintro ⟨x43, a44, c45⟩ h
    subst hj58
    refine JS.region (JO.know 2 rfl fun hs57 => JO.reg ttOk 4 [] [] [(24, .v (.slice a44 x43.length c45)), (26, .ep ⟨a2, 1, 1⟩ 2)] _ rfl ⟨(hs57.fa ptr0).1, hs57.fa ptr0, ⟨rfl, rfl, trivial⟩, rfl⟩ (JO.storeE ttOk rfl rfl rfl rfl rfl rfl rfl rfl rfl [1] (fs := []) rfl 0 2 (x0.1, x0.2.1, (Sl.v ⟨a3, x0.2.2.1.length, c4⟩), x0.2.2.2.1, x0.2.2.2.2.1, x0.2.2.2.2.2) (x0.1, x0.2.1, (Sl.v ⟨a44, x43.length, c45⟩), x0.2.2.2.1, x0.2.2.2.2.1, x0.2.2.2.2.2) ⟨rfl, rfl⟩ ⟨⟨⟨⟨rfl, rfl, rfl, rfl⟩, rfl⟩, rfl⟩, rfl⟩ (JO.done rfl ?_)))
    cases h
    exact JS.fallX ttOk (a44, c45) trivial rfl rfl [0, 0] rfl

def M_i_Grid_put (x0 : Int × Int × List Int × Int × Int × Bool) (x1 : Int) : Option (Int × Int × List Int × Int × Int × Bool) :=
  (bindO (M_i_Width x1) fun (y8 : Int) =>
  (bif (decide (y8 = 0)) then
  some x0
  else
  (joinO (fun ((x46, x47, x48, x51, x52, x53) : Int × Int × List Int × Int × Int × Bool) =>
  (bindO (M_i_Grid_erase (x46, x47, x48, x51, x52, x53) (W ((W (x52 * x46)) + x51)) (W ((W ((W (x52 * x46)) + x51)) + y8))) fun (y89 : Int × Int × List Int × Int × Int × Bool) =>
  (guardO (0 ≤ (W ((W (x52 * x46)) + x51)) ∧ (W ((W (x52 * x46)) + x51)) < (y89.2.2.1.length : Int)) <|
  (joinO (fun (x97 : List Int) =>
  (bif (decide (y89.1 ≤ (W (y89.2.2.2.1 + y8)))) then
  some (y89.1, y89.2.1, x97, (W (y89.1 - 1)), y89.2.2.2.2.1, true)
  else
  some (y89.1, y89.2.1, x97, (W (y89.2.2.2.1 + y8)), y89.2.2.2.2.1, y89.2.2.2.2.2))) fun j100 =>
  (bif (decide (y8 = 2)) then
  (guardO (0 ≤ (W ((W ((W (x52 * x46)) + x51)) + 1)) ∧ (W ((W ((W (x52 * x46)) + x51)) + 1)) < (y89.2.2.1.length : Int)) <|
  j100 (List.set (List.set y89.2.2.1 (Int.toNat (W ((W (x52 * x46)) + x51))) x1) (Int.toNat (W ((W ((W (x52 * x46)) + x51)) + 1))) (-1)))
  else
  j100 (List.set y89.2.2.1 (Int.toNat (W ((W (x52 * x46)) + x51))) x1)))))) fun j54 =>
  (bif (bif x0.2.2.2.2.2 then true else (bif (decide (y8 = 2)) then (decide (x0.2.2.2.1 = (W (x0.1 - 1)))) else false)) then
  (bif (decide (x0.2.2.2.2.1 = (W (x0.2.1 - 1)))) then
  (bindO (M_i_Grid_scroll (x0.1, x0.2.1, x0.2.2.1, 0, x0.2.2.2.2.1, false)) fun (y40 : Int × Int × List Int × Int × Int × Bool) =>
  j54 (y40.1, y40.2.1, y40.2.2.1, y40.2.2.2.1, y40.2.2.2.2.1, y40.2.2.2.2.2))
  else
  j54 (x0.1, x0.2.1, x0.2.2.1, 0, (W (x0.2.2.2.2.1 + 1)), false))
  else
  j54 (x0.1, x0.2.1, x0.2.2.1, x0.2.2.2.1, x0.2.2.2.2.1, x0.2.2.2.2.2)))))

theorem ok_i_Grid_put (x0 : Int × Int × List Int × Int × Int × Bool) (x1 : Int) (a3 : Option Addr) (a4 : Option Addr) (c5 : Nat) (l6 : Nat) (hl7 : x0.2.2.1.length = l6) (r : Int × Int × List Int × Int × Int × Bool) (h : M_i_Grid_put x0 x1 = some r) :
    FX Try.prog 53 [.pointer a3, .int .i64 x1] [] [⟨(.pair (.int .i64) (.pair (.int .i64) (.pair .val (.pair (.int .i64) (.pair (.int .i64) .bool))))), ⟨a3, 1, 1⟩, [(x0.1, x0.2.1, (Sl.v ⟨a4, l6, c5⟩), x0.2.2.2.1, x0.2.2.2.2.1, x0.2.2.2.2.2)]⟩, ⟨(.int .i64), ⟨a4, l6, c5⟩, x0.2.2.1⟩] (fun _ : Option Addr × Nat => True) (fun q => .tuple #[]) (fun q => [⟨(.pair (.int .i64) (.pair (.int .i64) (.pair .val (.pair (.int .i64) (.pair (.int .i64) .bool))))), ⟨a3, 1, 1⟩, [(r.1, r.2.1, (Sl.v ⟨q.1, r.2.2.1.length, q.2⟩), r.2.2.2.1, r.2.2.2.2.1, r.2.2.2.2.2)]⟩, ⟨(.int .i64), ⟨q.1, r.2.2.1.length, q.2⟩, r.2.2.1⟩]) :=
  by
    subst hl7
    refine FX.of (T := TTx) Try.call53 Try.func53 rfl rfl fun w0 L0 => ?_
    unfold M_i_Grid_put at h
    refine JS.ptr 0 a3 rfl ?_
    refine JS.seq (JS.region (JO.reg ttOk 1 [] [] [(6, .v (.int .i64 x1))] _ rfl ⟨⟨rfl, trivial⟩, rfl⟩ ?_))
    obtain ⟨y8, hy9, h⟩ := bindO_some h
    refine JO.call rfl rfl rfl rfl (ok_i_Width x1 _ hy9) rfl [] rfl rfl fun _ _ => JO.reg ttOk 1 [] [] [(4, .v (.int .i64 y8))] _ rfl ⟨⟨rfl, trivial⟩, rfl⟩ (JO.done rfl (JS.seq (JS.seq (JS.region (JO.reg ttOk 2 [] [] [(9, .v (.bool (decide (y8 = 0))))] _ rfl ⟨⟨rfl, trivial⟩, rfl⟩ (JO.done rfl ?_))))))
    refine JS.cond rfl (fun ht147 => ?_) (fun ht147 => ?_)
    · have h := condT h ht147
      cases h
      exact JS.retX ttOk (a4, c5) trivial rfl rfl [0, 0] rfl
    have h := condF h ht147
    refine JS.skip ?_
    obtain ⟨j54, hj146, h⟩ := joinO_some h
    refine JS.seqJ (ι := Int × Int × List Int × Int × Int × Bool × Option Addr × Nat) ⟨fun z => j54 (z.1, z.2.1, z.2.2.1, z.2.2.2.1, z.2.2.2.2.1, z.2.2.2.2.2.1) = some r, fun z => [(0, .ep ⟨a3, 1, 1⟩ 0), (1, .v (.int .i64 x1)), (4, .v (.int .i64 y8))], fun z => .nil, fun z => [], fun z => [⟨(.int .i64), ⟨z.2.2.2.2.2.2.1, z.2.2.1.length, z.2.2.2.2.2.2.2⟩, z.2.2.1⟩, ⟨(.pair (.int .i64) (.pair (.int .i64) (.pair .val (.pair (.int .i64) (.pair (.int .i64) .bool))))), ⟨a3, 1, 1⟩, [(z.1, z.2.1, (Sl.v ⟨z.2.2.2.2.2.2.1, z.2.2.1.length, z.2.2.2.2.2.2.2⟩), z.2.2.2.1, z.2.2.2.2.1, z.2.2.2.2.2.1)]⟩], fun z => 0⟩ ?_ ?_
    · refine JS.seq (JS.know 0 rfl fun hs122 => JS.regionQ rfl (by kernel_rfl) (JQ.reg ttOk 3 [] [(12, .ep ⟨a3, 1, 1⟩ 5)] rfl ⟨(hs122.fa ptr0).1, hs122.fa ptr0, ⟨rfl, trivial⟩⟩ (JQ.loadV ttOk rfl rfl rfl rfl rfl rfl 0 rfl rfl 0 5 (x0.1, x0.2.1, (Sl.v ⟨a4, x0.2.2.1.length, c5⟩), x0.2.2.2.1, x0.2.2.2.2.1, x0.2.2.2.2.2) ⟨rfl, rfl⟩ rfl rfl rfl (JQ.reg ttOk 7 [] [(14, .v (.bool x0.2.2.2.2.2)), (17, .cd [(14, false)] (.v (.bool (decide (y8 = 2))))), (20, .cd [(17, true), (14, false)] (.ep ⟨a3, 1, 1⟩ 3))] rfl ⟨(fun q123 q124 => (hs122.fa ptr0).1), (fun q125 q126 => hs122.fa ptr0), ⟨rfl, rfl, rfl, trivial⟩⟩ (JQ.loadV ttOk rfl rfl rfl rfl rfl rfl 0 rfl rfl 0 3 (x0.1, x0.2.1, (Sl.v ⟨a4, x0.2.2.1.length, c5⟩), x0.2.2.2.1, x0.2.2.2.2.1, x0.2.2.2.2.2) (fun q127 q128 => ⟨rfl, rfl⟩) rfl rfl rfl (JQ.reg ttOk 3 [] [(24, .cd [(17, true), (14, false)] (.ep ⟨a3, 1, 1⟩ 0))] rfl ⟨(fun q129 q130 => (hs122.fa ptr0).1), (fun q131 q132 => hs122.fa ptr0), ⟨rfl, trivial⟩⟩ (JQ.loadV ttOk rfl rfl rfl rfl rfl rfl 0 rfl rfl 0 0 (x0.1, x0.2.1, (Sl.v ⟨a4, x0.2.2.1.length, c5⟩), x0.2.2.2.1, x0.2.2.2.2.1, x0.2.2.2.2.2) (fun q133 q134 => ⟨rfl, rfl⟩) rfl rfl rfl (JQ.reg ttOk 4 [(W (x0.1 - 1))] [(29, .v (.bool (bif x0.2.2.2.2.2 then true else (bif (decide (y8 = 2)) then (decide (x0.2.2.2.1 = (W (x0.1 - 1)))) else false))))] rfl ⟨(fun q135 q136 => ⟨trivial, rfl⟩), ⟨rfl, trivial⟩⟩ (JQ.done rfl ?_)))))))))
      refine JS.cond rfl (fun ht138 => ?_) (fun ht138 => ?_)
      · have h := condT h ht138
        refine JS.seq (JS.region (JO.reg ttOk 4 [] [] [(31, .ep ⟨a3, 1, 1⟩ 0), (33, .ep ⟨a3, 1, 1⟩ 3)] _ rfl ⟨(hs122.fa ptr0).1, hs122.fa ptr0, ⟨rfl, rfl, trivial⟩, rfl⟩ (JO.storeE ttOk rfl rfl rfl rfl rfl rfl rfl rfl rfl [0] (fs := []) rfl 0 3 (x0.1, x0.2.1, (Sl.v ⟨a4, x0.2.2.1.length, c5⟩), x0.2.2.2.1, x0.2.2.2.2.1, x0.2.2.2.2.2) (x0.1, x0.2.1, (Sl.v ⟨a4, x0.2.2.1.length, c5⟩), 0, x0.2.2.2.2.1, x0.2.2.2.2.2) ⟨rfl, rfl⟩ ⟨⟨⟨⟨⟨rfl, rfl, rfl⟩, rfl⟩, rfl⟩, rfl⟩, rfl⟩ (JO.reg ttOk 2 [] [] [(35, .ep ⟨a3, 1, 1⟩ 5)] _ rfl ⟨(hs122.fa ptr0).1, hs122.fa ptr0, ⟨rfl, trivial⟩, rfl⟩ (JO.storeE ttOk rfl rfl rfl rfl rfl rfl rfl rfl rfl [0] (fs := []) rfl 0 5 (x0.1, x0.2.1, (Sl.v ⟨a4, x0.2.2.1.length, c5⟩), 0, x0.2.2.2.2.1, x0.2.2.2.2.2) (x0.1, x0.2.1, (Sl.v ⟨a4, x0.2.2.1.length, c5⟩), 0, x0.2.2.2.2.1, false) ⟨rfl, rfl⟩ ⟨⟨⟨⟨⟨⟨rfl, rfl, rfl⟩, rfl⟩, rfl⟩, rfl⟩, rfl⟩, rfl⟩ (JO.done rfl (JS.seq (JS.regionQ rfl (by kernel_rfl) (JQ.reg ttOk 3 [] [(38, .ep ⟨a3, 1, 1⟩ 4)] rfl ⟨(hs122.fa ptr0).1, hs122.fa ptr0, ⟨rfl, trivial⟩⟩ (JQ.loadV ttOk rfl rfl rfl rfl rfl rfl 0 rfl rfl 0 4 (x0.1, x0.2.1, (Sl.v ⟨a4, x0.2.2.1.length, c5⟩), 0, x0.2.2.2.2.1, false) ⟨rfl, rfl⟩ rfl rfl rfl (JQ.reg ttOk 3 [] [(42, .ep ⟨a3, 1, 1⟩ 1)] rfl ⟨(hs122.fa ptr0).1, hs122.fa ptr0, ⟨rfl, trivial⟩⟩ (JQ.loadV ttOk rfl rfl rfl rfl rfl rfl 0 rfl rfl 0 1 (x0.1, x0.2.1, (Sl.v ⟨a4, x0.2.2.1.length, c5⟩), 0, x0.2.2.2.2.1, false) ⟨rfl, rfl⟩ rfl rfl rfl (JQ.reg ttOk 2 [(W (x0.2.1 - 1))] [(45, .v (.bool (decide (x0.2.2.2.2.1 = (W (x0.2.1 - 1))))))] rfl ⟨⟨trivial, rfl⟩, ⟨rfl, trivial⟩⟩ (JQ.done rfl ?_))))))))))))))
        refine JS.cond rfl (fun ht137 => ?_) (fun ht137 => ?_)
        · have h := condT h ht137
          refine JS.region (JO.reg ttOk 1 [] [] [(46, .ep ⟨a3, 1, 1⟩ 0)] _ rfl ⟨⟨rfl, trivial⟩, rfl⟩ ?_)
          obtain ⟨y40, hy41, h⟩ := bindO_some h
          refine JO.callX rfl rfl rfl rfl (ok_i_Grid_scroll (x0.1, x0.2.1, x0.2.2.1, 0, x0.2.2.2.2.1, false) a3 a4 c5 x0.2.2.1.length rfl _ hy41) rfl [0, 0] rfl [] rfl rfl ?_
          rintro ⟨a42, c43⟩ -
          refine JO.done rfl (JS.endJ (y40.1, y40.2.1, y40.2.2.1, y40.2.2.2.1, y40.2.2.2.2.1, y40.2.2.2.2.2, a42, c43) h ⟨rfl, rfl, rfl, trivial⟩ trivial [] rfl [1, 0] rfl)
        have h := condF h ht137
        refine JS.region (JO.reg ttOk 3 [] [] [(48, .ep ⟨a3, 1, 1⟩ 0), (50, .ep ⟨a3, 1, 1⟩ 4)] _ rfl ⟨(hs122.fa ptr0).1, hs122.fa ptr0, ⟨rfl, rfl, trivial⟩, rfl⟩ (JO.loadV ttOk rfl rfl rfl rfl rfl rfl 0 rfl rfl 0 4 (x0.1, x0.2.1, (Sl.v ⟨a4, x0.2.2.1.length, c5⟩), 0, x0.2.2.2.2.1, false) ⟨rfl, rfl⟩ rfl rfl rfl (JO.reg ttOk 3 [(W (x0.2.2.2.2.1 + 1))] [] [(52, .v (.int .i64 (W (x0.2.2.2.2.1 + 1)))), (54, .ep ⟨a3, 1, 1⟩ 4)] _ rfl ⟨⟨trivial, rfl⟩, (hs122.fa ptr0).1, hs122.fa ptr0, ⟨rfl, rfl, trivial⟩, rfl⟩ (JO.storeE ttOk rfl rfl rfl rfl rfl rfl rfl rfl rfl [0] (fs := []) rfl 0 4 (x0.1, x0.2.1, (Sl.v ⟨a4, x0.2.2.1.length, c5⟩), 0, x0.2.2.2.2.1, false) (x0.1, x0.2.1, (Sl.v ⟨a4, x0.2.2.1.length, c5⟩), 0, (W (x0.2.2.2.2.1 + 1)), false) ⟨rfl, rfl⟩ ⟨⟨⟨⟨⟨⟨rfl, rfl, rfl⟩, rfl⟩, rfl⟩, rfl⟩, rfl⟩, rfl⟩ (JO.done rfl (JS.endJ (x0.1, x0.2.1, x0.2.2.1, 0, (W (x0.2.2.2.2.1 + 1)), false, a4, c5) h ⟨rfl, rfl, rfl, trivial⟩ trivial [] rfl [1, 0] rfl))))))
      have h := condF h ht138
      refine JS.skip (JS.endJ (x0.1, x0.2.1, x0.2.2.1, x0.2.2.2.1, x0.2.2.2.2.1, x0.2.2.2.2.2, a4, c5) h ⟨rfl, rfl, rfl, trivial⟩ trivial [] rfl [1, 0] rfl)
    rintro ⟨x46, x47, x48, x51, x52, x53, a49, c50⟩ h
    subst hj146
    refine JS.seq (JS.know 1 rfl fun hs140 => JS.regionQ rfl (by kernel_rfl) (JQ.reg ttOk 3 [] [(57, .ep ⟨a3, 1, 1⟩ 4)] rfl ⟨(hs140.fa ptr0).1, hs140.fa ptr0, ⟨rfl, trivial⟩⟩ (JQ.loadV ttOk rfl rfl rfl rfl rfl rfl 1 rfl rfl 0 4 (x46, x47, (Sl.v ⟨a49, x48.length, c50⟩), x51, x52, x53) ⟨rfl, rfl⟩ rfl rfl rfl (JQ.reg ttOk 3 [] [(61, .ep ⟨a3, 1, 1⟩ 0)] rfl ⟨(hs140.fa ptr0).1, hs140.fa ptr0, ⟨rfl, trivial⟩⟩ (JQ.loadV ttOk rfl rfl rfl rfl rfl rfl 1 rfl rfl 0 0 (x46, x47, (Sl.v ⟨a49, x48.length, c50⟩), x51, x52, x53) ⟨rfl, rfl⟩ rfl rfl rfl (JQ.reg ttOk 4 [(W (x52 * x46))] [(63, .v (.int .i64 (W (x52 * x46)))), (66, .ep ⟨a3, 1, 1⟩ 3)] rfl ⟨⟨trivial, rfl⟩, (hs140.fa ptr0).1, hs140.fa ptr0, ⟨rfl, rfl, trivial⟩⟩ (JQ.loadV ttOk rfl rfl rfl rfl rfl rfl 1 rfl rfl 0 3 (x46, x47, (Sl.v ⟨a49, x48.length, c50⟩), x51, x52, x53) ⟨rfl, rfl⟩ rfl rfl rfl (JQ.reg ttOk 2 [(W ((W (x52 * x46)) + x51))] [(5, .v (.int .i64 (W ((W (x52 * x46)) + x51))))] rfl ⟨⟨trivial, rfl⟩, ⟨rfl, trivial⟩⟩ (JQ.done rfl (JS.seq (JS.region (JO.reg ttOk 5 [(W ((W ((W (x52 * x46)) + x51)) + y8))] [] [(69, .ep ⟨a3, 1, 1⟩ 0), (70, .v (.int .i64 (W ((W (x52 * x46)) + x51)))), (73, .v (.int .i64 (W ((W ((W (x52 * x46)) + x51)) + y8))))] _ rfl ⟨⟨trivial, rfl⟩, ⟨rfl, rfl, rfl, trivial⟩, rfl⟩ ?_))))))))))))
    obtain ⟨y89, hy90, h⟩ := bindO_some h
    refine JO.callX rfl rfl rfl rfl (ok_i_Grid_erase (x46, x47, x48, x51, x52, x53) (W ((W (x52 * x46)) + x51)) (W ((W ((W (x52 * x46)) + x51)) + y8)) a3 a49 c50 x48.length rfl _ hy90) rfl [1, 0] rfl [] rfl rfl ?_
    rintro ⟨a91, c92⟩ -
    refine JO.done rfl (JS.seq (JS.region (JO.reg ttOk 3 [] [] [(77, .ep ⟨a3, 1, 1⟩ 2)] _ rfl ⟨(hs140.fa ptr0).1, hs140.fa ptr0, ⟨rfl, trivial⟩, rfl⟩ (JO.loadV ttOk rfl rfl rfl rfl rfl rfl 0 rfl rfl 0 2 (y89.1, y89.2.1, (Sl.v ⟨a91, y89.2.2.1.length, c92⟩), y89.2.2.2.1, y89.2.2.2.2.1, y89.2.2.2.2.2) ⟨rfl, rfl⟩ rfl rfl rfl (JO.know 1 rfl fun hs141 => ?_)))))
    obtain ⟨g94, h⟩ := guardO_some h
    refine JO.reg ttOk 3 [] [] [(80, .v (.int .i64 x1)), (81, .ep ⟨a91, y89.2.2.1.length, c92⟩ (Int.toNat (W ((W (x52 * x46)) + x51)) * 1))] _ rfl ⟨hs141.ix g94, ⟨rfl, rfl, trivial⟩, rfl⟩ (JO.storeE ttOk rfl rfl rfl rfl rfl rfl rfl rfl rfl [1] (fs := []) rfl (Int.toNat (W ((W (x52 * x46)) + x51))) 0 (at' y89.2.2.1 (W ((W (x52 * x46)) + x51))) x1 ⟨at_some g94, rfl⟩ ⟨rfl, rfl, rfl⟩ (JO.done rfl ?_))
    obtain ⟨j100, hj145, h⟩ := joinO_some h
    refine JS.seqJ (ι := List Int × Option Addr × Nat) ⟨fun z => j100 z.1 = some r, fun z => [(0, .ep ⟨a3, 1, 1⟩ 0), (4, .v (.int .i64 y8))], fun z => .nil, fun z => [], fun z => [⟨(.int .i64), ⟨z.2.1, z.1.length, z.2.2⟩, z.1⟩, ⟨(.pair (.int .i64) (.pair (.int .i64) (.pair .val (.pair (.int .i64) (.pair (.int .i64) .bool))))), ⟨a3, 1, 1⟩, [(y89.1, y89.2.1, (Sl.v ⟨z.2.1, z.1.length, z.2.2⟩), y89.2.2.2.1, y89.2.2.2.2.1, y89.2.2.2.2.2)]⟩], fun z => 0⟩ ?_ ?_
    · refine JS.seq (JS.region (JO.reg ttOk 2 [] [] [(83, .v (.bool (decide (y8 = 2))))] _ rfl ⟨⟨rfl, trivial⟩, rfl⟩ (JO.done rfl ?_)))
      refine JS.cond rfl (fun ht142 => ?_) (fun ht142 => ?_)
      · have h := condT h ht142
        refine JS.region (JO.reg ttOk 3 [] [] [(86, .ep ⟨a3, 1, 1⟩ 2)] _ rfl ⟨(hs140.fa ptr0).1, hs140.fa ptr0, ⟨rfl, trivial⟩, rfl⟩ (JO.loadV ttOk rfl rfl rfl rfl rfl rfl 1 rfl rfl 0 2 (y89.1, y89.2.1, (Sl.v ⟨a91, y89.2.2.1.length, c92⟩), y89.2.2.2.1, y89.2.2.2.2.1, y89.2.2.2.2.2) ⟨rfl, rfl⟩ rfl rfl rfl ?_))
        obtain ⟨g95, h⟩ := guardO_some h
        refine JO.reg ttOk 3 [(W ((W ((W (x52 * x46)) + x51)) + 1))] [] [(90, .ep ⟨a91, y89.2.2.1.length, c92⟩ (Int.toNat (W ((W ((W (x52 * x46)) + x51)) + 1)) * 1))] _ rfl ⟨⟨trivial, rfl⟩, hs141.ix g95, ⟨rfl, trivial⟩, rfl⟩ (JO.storeE ttOk rfl rfl rfl rfl rfl rfl rfl rfl rfl [0] (fs := []) rfl (Int.toNat (W ((W ((W (x52 * x46)) + x51)) + 1))) 0 (at' (List.set y89.2.2.1 (Int.toNat (W ((W (x52 * x46)) + x51))) x1) (W ((W ((W (x52 * x46)) + x51)) + 1))) (-1) ⟨at_someL (List.length_set.trans rfl) g95, rfl⟩ ⟨rfl, rfl, rfl⟩ (JO.done rfl (JS.endJ ((List.set (List.set y89.2.2.1 (Int.toNat (W ((W (x52 * x46)) + x51))) x1) (Int.toNat (W ((W ((W (x52 * x46)) + x51)) + 1))) (-1)), a91, c92) h ⟨rfl, rfl, trivial⟩ trivial [] rfl [0, 0] (by simp only [List.length_set, List.length_replicate, pickO, getF, cl26, cl45]; rfl))))
      have h := condF h ht142
      refine JS.skip (JS.endJ ((List.set y89.2.2.1 (Int.toNat (W ((W (x52 * x46)) + x51))) x1), a91, c92) h ⟨rfl, rfl, trivial⟩ trivial [] rfl [0, 0] (by simp only [List.length_set, List.length_replicate, pickO, getF, cl26, cl45]; rfl))
    rintro ⟨x97, a98, c99⟩ h
    subst hj145
    refine JS.seq (JS.region (JO.know 1 rfl fun hs143 => JO.reg ttOk 3 [] [] [(91, .ep ⟨a3, 1, 1⟩ 0), (93, .ep ⟨a3, 1, 1⟩ 3)] _ rfl ⟨(hs143.fa ptr0).1, hs143.fa ptr0, ⟨rfl, rfl, trivial⟩, rfl⟩ (JO.loadV ttOk rfl rfl rfl rfl rfl rfl 1 rfl rfl 0 3 (y89.1, y89.2.1, (Sl.v ⟨a98, x97.length, c99⟩), y89.2.2.2.1, y89.2.2.2.2.1, y89.2.2.2.2.2) ⟨rfl, rfl⟩ rfl rfl rfl (JO.reg ttOk 4 [(W (y89.2.2.2.1 + y8))] [] [(96, .v (.int .i64 (W (y89.2.2.2.1 + y8)))), (98, .ep ⟨a3, 1, 1⟩ 3)] _ rfl ⟨⟨trivial, rfl⟩, (hs143.fa ptr0).1, hs143.fa ptr0, ⟨rfl, rfl, trivial⟩, rfl⟩ (JO.storeE ttOk rfl rfl rfl rfl rfl rfl rfl rfl rfl [1] (fs := []) rfl 0 3 (y89.1, y89.2.1, (Sl.v ⟨a98, x97.length, c99⟩), y89.2.2.2.1, y89.2.2.2.2.1, y89.2.2.2.2.2) (y89.1, y89.2.1, (Sl.v ⟨a98, x97.length, c99⟩), (W (y89.2.2.2.1 + y8)), y89.2.2.2.2.1, y89.2.2.2.2.2) ⟨rfl, rfl⟩ ⟨⟨⟨⟨⟨rfl, rfl, rfl⟩, rfl⟩, rfl⟩, rfl⟩, rfl⟩ (JO.done rfl (JS.seq (JS.regionQ rfl (by kernel_rfl) (JQ.reg ttOk 3 [] [(101, .ep ⟨a3, 1, 1⟩ 3)] rfl ⟨(hs143.fa ptr0).1, hs143.fa ptr0, ⟨rfl, trivial⟩⟩ (JQ.loadV ttOk rfl rfl rfl rfl rfl rfl 0 rfl rfl 0 3 (y89.1, y89.2.1, (Sl.v ⟨a98, x97.length, c99⟩), (W (y89.2.2.2.1 + y8)), y89.2.2.2.2.1, y89.2.2.2.2.2) ⟨rfl, rfl⟩ rfl rfl rfl (JQ.reg ttOk 3 [] [(105, .ep ⟨a3, 1, 1⟩ 0)] rfl ⟨(hs143.fa ptr0).1, hs143.fa ptr0, ⟨rfl, trivial⟩⟩ (JQ.loadV ttOk rfl rfl rfl rfl rfl rfl 0 rfl rfl 0 0 (y89.1, y89.2.1, (Sl.v ⟨a98, x97.length, c99⟩), (W (y89.2.2.2.1 + y8)), y89.2.2.2.2.1, y89.2.2.2.2.2) ⟨rfl, rfl⟩ rfl rfl rfl (JQ.reg ttOk 1 [] [(107, .v (.bool (decide (y89.1 ≤ (W (y89.2.2.2.1 + y8))))))] rfl ⟨rfl, trivial⟩ (JQ.done rfl ?_))))))))))))))
    refine JS.cond rfl (fun ht144 => ?_) (fun ht144 => ?_)
    · have h := condT h ht144
      refine JS.region (JO.reg ttOk 5 [] [] [(108, .ep ⟨a3, 1, 1⟩ 0), (109, .ep ⟨a3, 1, 1⟩ 0), (112, .ep ⟨a3, 1, 1⟩ 0)] _ rfl ⟨(hs143.fa ptr0).1, hs143.fa ptr0, ⟨rfl, rfl, rfl, trivial⟩, rfl⟩ (JO.loadV ttOk rfl rfl rfl rfl rfl rfl 0 rfl rfl 0 0 (y89.1, y89.2.1, (Sl.v ⟨a98, x97.length, c99⟩), (W (y89.2.2.2.1 + y8)), y89.2.2.2.2.1, y89.2.2.2.2.2) ⟨rfl, rfl⟩ rfl rfl rfl (JO.reg ttOk 3 [(W (y89.1 - 1))] [] [(114, .v (.int .i64 (W (y89.1 - 1)))), (116, .ep ⟨a3, 1, 1⟩ 3)] _ rfl ⟨⟨trivial, rfl⟩, (hs143.fa ptr0).1, hs143.fa ptr0, ⟨rfl, rfl, trivial⟩, rfl⟩ (JO.storeE ttOk rfl rfl rfl rfl rfl rfl rfl rfl rfl [0] (fs := []) rfl 0 3 (y89.1, y89.2.1, (Sl.v ⟨a98, x97.length, c99⟩), (W (y89.2.2.2.1 + y8)), y89.2.2.2.2.1, y89.2.2.2.2.2) (y89.1, y89.2.1, (Sl.v ⟨a98, x97.length, c99⟩), (W (y89.1 - 1)), y89.2.2.2.2.1, y89.2.2.2.2.2) ⟨rfl, rfl⟩ ⟨⟨⟨⟨⟨rfl, rfl, rfl⟩, rfl⟩, rfl⟩, rfl⟩, rfl⟩ (JO.reg ttOk 2 [] [] [(118, .ep ⟨a3, 1, 1⟩ 5)] _ rfl ⟨(hs143.fa ptr0).1, hs143.fa ptr0, ⟨rfl, trivial⟩, rfl⟩ (JO.storeE ttOk rfl rfl rfl rfl rfl rfl rfl rfl rfl [0] (fs := []) rfl 0 5 (y89.1, y89.2.1, (Sl.v ⟨a98, x97.length, c99⟩), (W (y89.1 - 1)), y89.2.2.2.2.1, y89.2.2.2.2.2) (y89.1, y89.2.1, (Sl.v ⟨a98, x97.length, c99⟩), (W (y89.1 - 1)), y89.2.2.2.2.1, true) ⟨rfl, rfl⟩ ⟨⟨⟨⟨⟨⟨rfl, rfl, rfl⟩, rfl⟩, rfl⟩, rfl⟩, rfl⟩, rfl⟩ (JO.done rfl ?_)))))))
      cases h
      exact JS.fallX ttOk (a98, c99) trivial rfl rfl [0, 0] rfl
    have h := condF h ht144
    refine JS.skip ?_
    cases h
    exact JS.fallX ttOk (a98, c99) trivial rfl rfl [0, 0] rfl

def M_i_RuneRead_L1 (x0 : List UInt8) (x1 : Int) (x19 : Int) (j39 : Int → Option (Int × Int)) (k34 : (Int × Int) → Option (Int × Int)) : (Int × Int) → Option (Int × Int) := fun (x29, x30) =>
  (bif (decide (x30 < ((sub' x0 (W (x1 + 1)) (W (x1 + x19))).length : Int))) then
  (guardO (0 ≤ x30 ∧ x30 < ((sub' x0 (W (x1 + 1)) (W (x1 + x19))).length : Int)) <|
  k34 ((W ((W ((W (x29 * 64)) + ((at' (sub' x0 (W (x1 + 1)) (W (x1 + x19))) x30).toNat : Int))) - 128)), (W (x30 + 1))))
  else
  j39 x29)

def M_i_RuneRead (x0 : List UInt8) (x1 : Int) : Option (Int × Int) :=
  (bif (bif (decide (x1 < 0)) then true else (decide ((x0.length : Int) ≤ x1))) then
  some (0, 0)
  else
  (guardO (0 ≤ x1 ∧ x1 < (x0.length : Int)) <|
  (joinO (fun ((x19, x20) : Int × Int) =>
  (bif (decide ((W ((x0.length : Int) - x19)) < x1)) then
  some (0, 0)
  else
  (guardO (0 ≤ (W (x1 + 1)) ∧ (W (x1 + 1)) ≤ (W (x1 + x19)) ∧ (W (x1 + x19)) ≤ (x0.length : Int)) <|
  (joinO (fun (x38 : Int) =>
  (bindO (M_i_RuneBytes x38) fun (y42 : List UInt8) =>
  (guardO (0 ≤ x1 ∧ x1 ≤ (W (x1 + x19)) ∧ (W (x1 + x19)) ≤ (x0.length : Int)) <|
  (bif (!(decide (y42 = (sub' x0 x1 (W (x1 + x19)))))) then
  some (0, 0)
  else
  some (x38, x19))))) fun j39 =>
  (fixF (M_i_RuneRead_L1 x0 x1 x19 j39) FUEL (x20, 0)))))) fun j21 =>
  (bif (decide (((at' x0 x1).toNat : Int) < 128)) then
  some (((at' x0 x1).toNat : Int), 1)
  else
  (bindO (M_i_in ((at' x0 x1).toNat : Int) 192 223) fun (y9 : Bool) =>
  (bif y9 then
  j21 (2, (W (((at' x0 x1).toNat : Int) - 192)))
  else
  (bindO (M_i_in ((at' x0 x1).toNat : Int) 224 239) fun (y11 : Bool) =>
  (bif y11 then
  j21 (3, (W (((at' x0 x1).toNat : Int) - 224)))
  else
  (bindO (M_i_in ((at' x0 x1).toNat : Int) 240 247) fun (y13 : Bool) =>
  (bif y13 then
  j21 (4, (W (((at' x0 x1).toNat : Int) - 240)))
  else
  some (0, 0)))))))))))

theorem ok_i_RuneRead (x0 : List UInt8) (x1 : Int) (a3 : Option Addr) (c4 : Nat) (l5 : Nat) (hl6 : x0.length = l5) (r : Int × Int) (h : M_i_RuneRead x0 x1 = some r) :
    FC Try.prog 98 [.slice a3 l5 c4, .int .i64 x1] [⟨.byte, ⟨a3, l5, c4⟩, x0⟩] (fun _ : Unit => True) (fun _ => .tuple #[.int .i64 r.1, .int .i64 r.2]) (fun _ => []) :=
  by
    subst hl6
    refine FC.of (T := TTx) Try.call98 Try.func98 rfl rfl fun w0 => ?_
    unfold M_i_RuneRead at h
    refine JS.seq (JS.region (JO.reg ttOk 2 [] [] [] _ rfl ⟨trivial, rfl⟩ (JO.done rfl (JS.seq (JS.seq (JS.region (JO.reg ttOk 8 [] [] [(18, .v (.bool (bif (decide (x1 < 0)) then true else (decide ((x0.length : Int) ≤ x1)))))] _ rfl ⟨⟨rfl, trivial⟩, rfl⟩ (JO.done rfl ?_))))))))
    refine JS.cond rfl (fun ht73 => ?_) (fun ht73 => ?_)
    · have h := condT h ht73
      refine JS.seq (JS.region (JO.reg ttOk 2 [] [] [(4, .v (.int .i64 0)), (5, .v (.int .i64 0))] _ rfl ⟨⟨rfl, rfl, trivial⟩, rfl⟩ (JO.done rfl ?_)))
      cases h
      exact JS.ret ttOk () trivial rfl rfl [] rfl
    have h := condF h ht73
    refine JS.skip (JS.seq (JS.region (JO.know 0 rfl fun hs59 => ?_)))
    obtain ⟨g8, h⟩ := guardO_some h
    refine JO.reg ttOk 3 [] [] [(21, .ep ⟨a3, x0.length, c4⟩ (Int.toNat x1 * 1))] _ rfl ⟨hs59.ix g8, ⟨rfl, trivial⟩, rfl⟩ (JO.load ttOk rfl rfl rfl rfl rfl rfl rfl 0 rfl rfl (Int.toNat x1) 0 (at' x0 x1) ⟨at_some g8, rfl⟩ rfl rfl (JO.reg ttOk 2 [((at' x0 x1).toNat : Int)] [] [(6, .v (.int .i64 ((at' x0 x1).toNat : Int)))] _ rfl ⟨⟨trivial, W_byte _⟩, ⟨rfl, trivial⟩, rfl⟩ (JO.done rfl (JS.seq (JS.region (JO.reg ttOk 2 [] [] [] _ rfl ⟨trivial, rfl⟩ (JO.done rfl (JS.seq ?_))))))))
    obtain ⟨j21, hj72, h⟩ := joinO_some h
    refine JS.blockJ (ι := Int × Int) ⟨fun z => j21 (z.1, z.2) = some r, fun z => [(0, .v (.slice a3 x0.length c4)), (1, .v (.int .i64 x1)), (7, .v (.int .i64 z.1)), (8, .v (.int .i64 z.2))], fun z => .nil, fun z => [⟨.byte, ⟨a3, x0.length, c4⟩, x0⟩], fun z => [], fun z => 0⟩ ?_ ?_
    · refine JS.seq (JS.region (JO.reg ttOk 3 [] [] [(24, .v (.bool (decide (((at' x0 x1).toNat : Int) < 128))))] _ rfl ⟨⟨rfl, trivial⟩, rfl⟩ (JO.done rfl ?_)))
      refine JS.cond rfl (fun ht63 => ?_) (fun ht63 => ?_)
      · have h := condT h ht63
        refine JS.seq (JS.region (JO.reg ttOk 3 [] [] [(4, .v (.int .i64 ((at' x0 x1).toNat : Int))), (5, .v (.int .i64 1))] _ rfl ⟨⟨rfl, rfl, trivial⟩, rfl⟩ (JO.done rfl ?_)))
        cases h
        exact JS.ret ttOk () trivial rfl rfl [] rfl
      have h := condF h ht63
      refine JS.seq (JS.region (JO.reg ttOk 1 [] [] [(29, .v (.int .i64 ((at' x0 x1).toNat : Int)))] _ rfl ⟨⟨rfl, trivial⟩, rfl⟩ ?_))
      obtain ⟨y9, hy10, h⟩ := bindO_some h
      refine JO.call rfl rfl rfl rfl (ok_i_in ((at' x0 x1).toNat : Int) 192 223 _ hy10) rfl [] rfl rfl fun _ _ => JO.reg ttOk 1 [] [] [(28, .v (.bool y9))] _ rfl ⟨⟨rfl, trivial⟩, rfl⟩ (JO.done rfl ?_)
      refine JS.cond rfl (fun ht62 => ?_) (fun ht62 => ?_)
      · have h := condT h ht62
        refine JS.region (JO.reg ttOk 4 [(W (((at' x0 x1).toNat : Int) - 192))] [] [(7, .v (.int .i64 2)), (8, .v (.int .i64 (W (((at' x0 x1).toNat : Int) - 192))))] _ rfl ⟨⟨trivial, rfl⟩, ⟨rfl, rfl, trivial⟩, rfl⟩ (JO.done rfl (JS.endB (JS.endJ (2, (W (((at' x0 x1).toNat : Int) - 192))) h ⟨rfl, rfl, rfl, rfl, trivial⟩ trivial [0] rfl [] rfl))))
      have h := condF h ht62
      refine JS.seq (JS.region (JO.reg ttOk 1 [] [] [(34, .v (.int .i64 ((at' x0 x1).toNat : Int)))] _ rfl ⟨⟨rfl, trivial⟩, rfl⟩ ?_))
      obtain ⟨y11, hy12, h⟩ := bindO_some h
      refine JO.call rfl rfl rfl rfl (ok_i_in ((at' x0 x1).toNat : Int) 224 239 _ hy12) rfl [] rfl rfl fun _ _ => JO.reg ttOk 1 [] [] [(33, .v (.bool y11))] _ rfl ⟨⟨rfl, trivial⟩, rfl⟩ (JO.done rfl ?_)
      refine JS.cond rfl (fun ht61 => ?_) (fun ht61 => ?_)
      · have h := condT h ht61
        refine JS.region (JO.reg ttOk 4 [(W (((at' x0 x1).toNat : Int) - 224))] [] [(7, .v (.int .i64 3)), (8, .v (.int .i64 (W (((at' x0 x1).toNat : Int) - 224))))] _ rfl ⟨⟨trivial, rfl⟩, ⟨rfl, rfl, trivial⟩, rfl⟩ (JO.done rfl (JS.endB (JS.endJ (3, (W (((at' x0 x1).toNat : Int) - 224))) h ⟨rfl, rfl, rfl, rfl, trivial⟩ trivial [0] rfl [] rfl))))
      have h := condF h ht61
      refine JS.seq (JS.region (JO.reg ttOk 1 [] [] [(39, .v (.int .i64 ((at' x0 x1).toNat : Int)))] _ rfl ⟨⟨rfl, trivial⟩, rfl⟩ ?_))
      obtain ⟨y13, hy14, h⟩ := bindO_some h
      refine JO.call rfl rfl rfl rfl (ok_i_in ((at' x0 x1).toNat : Int) 240 247 _ hy14) rfl [] rfl rfl fun _ _ => JO.reg ttOk 1 [] [] [(38, .v (.bool y13))] _ rfl ⟨⟨rfl, trivial⟩, rfl⟩ (JO.done rfl ?_)
      refine JS.cond rfl (fun ht60 => ?_) (fun ht60 => ?_)
      · have h := condT h ht60
        refine JS.region (JO.reg ttOk 4 [(W (((at' x0 x1).toNat : Int) - 240))] [] [(7, .v (.int .i64 4)), (8, .v (.int .i64 (W (((at' x0 x1).toNat : Int) - 240))))] _ rfl ⟨⟨trivial, rfl⟩, ⟨rfl, rfl, trivial⟩, rfl⟩ (JO.done rfl (JS.endB (JS.endJ (4, (W (((at' x0 x1).toNat : Int) - 240))) h ⟨rfl, rfl, rfl, rfl, trivial⟩ trivial [0] rfl [] rfl))))
      have h := condF h ht60
      refine JS.seq (JS.region (JO.reg ttOk 2 [] [] [(4, .v (.int .i64 0)), (5, .v (.int .i64 0))] _ rfl ⟨⟨rfl, rfl, trivial⟩, rfl⟩ (JO.done rfl ?_)))
      cases h
      exact JS.ret ttOk () trivial rfl rfl [] rfl
    rintro ⟨x19, x20⟩ h
    subst hj72
    refine JS.seq (JS.seq (JS.region (JO.reg ttOk 6 [(W ((x0.length : Int) - x19))] [] [(48, .v (.bool (decide ((W ((x0.length : Int) - x19)) < x1))))] _ rfl ⟨⟨trivial, rfl⟩, ⟨rfl, trivial⟩, rfl⟩ (JO.done rfl ?_))))
    refine JS.cond rfl (fun ht71 => ?_) (fun ht71 => ?_)
    · have h := condT h ht71
      refine JS.seq (JS.region (JO.reg ttOk 2 [] [] [(4, .v (.int .i64 0)), (5, .v (.int .i64 0))] _ rfl ⟨⟨rfl, rfl, trivial⟩, rfl⟩ (JO.done rfl ?_)))
      cases h
      exact JS.ret ttOk () trivial rfl rfl [] rfl
    have h := condF h ht71
    refine JS.skip (JS.seq (JS.seq (JS.region (JO.reg ttOk 6 [(W (x1 + 1)), (W (x1 + x19))] [] [(49, .v (.slice a3 x0.length c4)), (51, .v (.int .i64 (W (x1 + 1)))), (54, .v (.int .i64 (W (x1 + x19))))] _ rfl ⟨⟨trivial, rfl⟩, ⟨trivial, rfl⟩, ⟨rfl, rfl, rfl, trivial⟩, rfl⟩ ?_))))
    obtain ⟨g26, h⟩ := guardO_some h
    refine JO.sliceR' ttOk rfl rfl rfl rfl rfl rfl rfl rfl 0 rfl (W (x1 + 1)) (W (x1 + x19)) rfl rfl g26 rfl fun a27 c28 => JO.reg ttOk 2 [] [] [(56, .v (.int .i64 ((sub' x0 (W (x1 + 1)) (W (x1 + x19))).length : Int))), (57, .v (.int .i64 0))] _ rfl ⟨⟨rfl, rfl, trivial⟩, rfl⟩ (JO.done rfl ?_)
    obtain ⟨j39, hj70, h⟩ := joinO_some h
    refine JS.blockJ (ι := Int) ⟨fun z => j39 z = some r, fun z => [(0, .v (.slice a3 x0.length c4)), (1, .v (.int .i64 x1)), (7, .v (.int .i64 x19)), (8, .v (.int .i64 z))], fun z => .nil, fun z => [⟨.byte, ⟨a3, x0.length, c4⟩, x0⟩], fun z => [], fun z => 0⟩ ?_ ?_
    · refine JS.loop (ι := Nat × Int × Int) ⟨fun z => fixF (M_i_RuneRead_L1 x0 x1 x19 j39) z.1 (z.2.1, z.2.2) = some r, fun z => [(0, .v (.slice a3 x0.length c4)), (1, .v (.int .i64 x1)), (7, .v (.int .i64 x19)), (8, .v (.int .i64 z.2.1)), (55, .v (.slice a27 (sub' x0 (W (x1 + 1)) (W (x1 + x19))).length c28)), (56, .v (.int .i64 ((sub' x0 (W (x1 + 1)) (W (x1 + x19))).length : Int))), (57, .v (.int .i64 z.2.2))], fun z => .nil, fun z => [⟨.byte, ⟨a3, x0.length, c4⟩, x0⟩, ⟨.byte, ⟨a27, (sub' x0 (W (x1 + 1)) (W (x1 + x19))).length, c28⟩, (sub' x0 (W (x1 + 1)) (W (x1 + x19)))⟩], fun z => [], fun z => z.1⟩ (FUEL, x20, 0) h ⟨rfl, rfl, rfl, rfl, rfl, rfl, rfl, trivial⟩ trivial [1, 0] rfl [] rfl ?_
      rintro ⟨n35, x29, x30⟩ h
      obtain ⟨n35, rfl, h⟩ := fixF_some h
      rw [M_i_RuneRead_L1] at h
      refine JS.seq (JS.region (JO.reg ttOk 1 [] [] [(58, .v (.bool (decide (x30 < ((sub' x0 (W (x1 + 1)) (W (x1 + x19))).length : Int)))))] _ rfl ⟨⟨rfl, trivial⟩, rfl⟩ (JO.done rfl (JS.seq ?_))))
      refine JS.cond rfl (fun ht65 => ?_) (fun ht65 => ?_)
      · have h := condT h ht65
        refine JS.skip (JS.seq (JS.block (JS.seq (JS.region (JO.know 1 rfl fun hs64 => ?_)))))
        obtain ⟨g32, h⟩ := guardO_some h
        refine JO.reg ttOk 1 [] [] [(59, .ep ⟨a27, (sub' x0 (W (x1 + 1)) (W (x1 + x19))).length, c28⟩ (Int.toNat x30 * 1))] _ rfl ⟨hs64.ix g32, ⟨rfl, trivial⟩, rfl⟩ (JO.load ttOk rfl rfl rfl rfl rfl rfl rfl 1 rfl rfl (Int.toNat x30) 0 (at' (sub' x0 (W (x1 + 1)) (W (x1 + x19))) x30) ⟨at_some g32, rfl⟩ rfl rfl (JO.reg ttOk 1 [] [] [(10, .v (.int .u8 ((at' (sub' x0 (W (x1 + 1)) (W (x1 + x19))) x30).toNat : Int)))] _ rfl ⟨⟨rfl, trivial⟩, rfl⟩ (JO.done rfl (JS.region (JO.reg ttOk 7 [(W (x29 * 64)), ((at' (sub' x0 (W (x1 + 1)) (W (x1 + x19))) x30).toNat : Int), (W ((W (x29 * 64)) + ((at' (sub' x0 (W (x1 + 1)) (W (x1 + x19))) x30).toNat : Int))), (W ((W ((W (x29 * 64)) + ((at' (sub' x0 (W (x1 + 1)) (W (x1 + x19))) x30).toNat : Int))) - 128))] [] [(8, .v (.int .i64 (W ((W ((W (x29 * 64)) + ((at' (sub' x0 (W (x1 + 1)) (W (x1 + x19))) x30).toNat : Int))) - 128))))] _ rfl ⟨⟨trivial, rfl⟩, ⟨trivial, W_byte _⟩, ⟨trivial, rfl⟩, ⟨trivial, rfl⟩, ⟨rfl, trivial⟩, rfl⟩ (JO.done rfl (JS.endB (JS.region (JO.reg ttOk 2 [(W (x30 + 1))] [] [(57, .v (.int .i64 (W (x30 + 1))))] _ rfl ⟨⟨trivial, rfl⟩, ⟨rfl, trivial⟩, rfl⟩ (JO.done rfl (JS.endL (n35, (W ((W ((W (x29 * 64)) + ((at' (sub' x0 (W (x1 + 1)) (W (x1 + x19))) x30).toNat : Int))) - 128)), (W (x30 + 1))) h (Nat.lt_succ_self _) ⟨rfl, rfl, rfl, rfl, rfl, rfl, rfl, trivial⟩ trivial [0, 1] rfl [] rfl)))))))))))
      have h := condF h ht65
      refine JS.exit rfl (JS.endJ x29 h ⟨rfl, rfl, rfl, rfl, trivial⟩ trivial [0] rfl [] rfl)
    rintro x38 h
    subst hj70
    refine JS.seq (JS.seq ?_)
    obtain ⟨y42, hy43, h⟩ := bindO_some h
    obtain ⟨g46, h⟩ := guardO_some h
    refine JS.subR 0 rfl x1 (W (x1 + x19)) fun a47 c48 hu49 => JS.know 1 rfl fun hs68 => ?_
    refine JS.regionA rfl .nil [0] [10] trivial rfl (fun be53 => ?_)
    refine JA.reg ttOk panic_cx true 5 [0, 3, 4, 5, 6, 7] rfl (by kernel_rfl) [(W (x1 + x19))] [(68, .v (.int .i64 x38)), (71, .v (.slice a3 x0.length c4)), (72, .v (.int .i64 x1)), (75, .v (.int .i64 (W (x1 + x19))))] trivial [0] rfl rfl ⟨⟨trivial, rfl⟩, ⟨rfl, rfl, rfl, rfl, trivial⟩⟩ (JA.sliceP ttOk panic_cx 8 rfl (by kernel_rfl) rfl rfl rfl rfl rfl rfl x1 (W (x1 + x19)) rfl rfl ⟨g46.1, g46.2.1, g46.2.2, hs68.cap, hu49 g46⟩ rfl (JA.strOf ttOk panic_cx 9 rfl (by kernel_rfl) rfl rfl rfl rfl rfl rfl rfl 0 rfl rfl trivial [0] rfl (JA.one 1 (by kernel_rfl) (JK.call rfl rfl rfl rfl (ok_i_RuneBytes x38 _ hy43) rfl [] rfl rfl ?_))))
    rintro ⟨a44, c45⟩ -
    refine JA.next trivial [0] rfl (JA.one 2 (by kernel_rfl) (JK.strOf ttOk rfl rfl rfl rfl rfl rfl rfl rfl 2 rfl rfl (JA.next trivial [0] rfl (JA.regL ttOk panic_cx 0 [10] rfl (by kernel_rfl) [] [(78, .v (.bool (!(decide (y42 = (sub' x0 x1 (W (x1 + x19))))))))] rfl ⟨rfl, trivial⟩ (JA.done (by kernel_rfl) (JS.boxes (B' := .nil) trivial ?_))))))
    refine JS.cond rfl (fun ht69 => ?_) (fun ht69 => ?_)
    · have h := condT h ht69
      refine JS.seq (JS.region (JO.reg ttOk 2 [] [] [(4, .v (.int .i64 0)), (5, .v (.int .i64 0))] _ rfl ⟨⟨rfl, rfl, trivial⟩, rfl⟩ (JO.done rfl ?_)))
      cases h
      exact JS.ret ttOk () trivial rfl rfl [] rfl
    have h := condF h ht69
    refine JS.skip (JS.seq (JS.region (JO.reg ttOk 4 [] [] [(4, .v (.int .i64 x38)), (5, .v (.int .i64 x19))] _ rfl ⟨⟨rfl, rfl, trivial⟩, rfl⟩ (JO.done rfl ?_))))
    cases h
    exact JS.ret ttOk () trivial rfl rfl [] rfl

def M_i_Grid_scroll_in45_L1 (x0 : (Int × Int × List Int × Int × Int × Bool) × Int × List Int × List UInt8 × Int) (j62 : (List Int) → Option ((Int × Int × List Int × Int × Int × Bool) × Int × List Int × List UInt8 × Int)) (k56 : (List Int × Int) → Option ((Int × Int × List Int × Int × Int × Bool) × Int × List Int × List UInt8 × Int)) : (List Int × Int) → Option ((Int × Int × List Int × Int × Int × Bool) × Int × List Int × List UInt8 × Int) := fun (x30, x33) =>
  (bif (decide (x33 < x0.1.1)) then
  (guardO (x30.length + ([32] : List Int).length ≤ 536870912) <|
  k56 ((x30 ++ ([32] : List Int)), (W (x33 + 1))))
  else
  j62 x30)

def M_i_Grid_scroll_in45 (x0 : (Int × Int × List Int × Int × Int × Bool) × Int × List Int × List UInt8 × Int) : Option ((Int × Int × List Int × Int × Int × Bool) × Int × List Int × List UInt8 × Int) :=
  (guardO (0 ≤ x0.1.1 ∧ x0.1.1 ≤ (x0.1.2.2.1.length : Int) ∧ (x0.1.2.2.1.length : Int) ≤ (x0.1.2.2.1.length : Int)) <|
  (bindO (M_i_copyInts (sub' x0.1.2.2.1 x0.1.1 (x0.1.2.2.1.length : Int))) fun (y21 : List Int) =>
  (joinO (fun (x59 : List Int) =>
  some ((x0.1.1, x0.1.2.1, x59, x0.1.2.2.2.1, x0.1.2.2.2.2.1, x0.1.2.2.2.2.2), x0.2.1, x0.2.2.1, x0.2.2.2.1, x0.2.2.2.2)) fun j62 =>
  (fixF (M_i_Grid_scroll_in45_L1 x0 j62) FUEL (y21, 0)))))

theorem ok_i_Grid_scroll_in45 (x0 : (Int × Int × List Int × Int × Int × Bool) × Int × List Int × List UInt8 × Int) (a2 : Option Addr) (a3 : Option Addr) (c4 : Nat) (l5 : Nat) (hl6 : x0.1.2.2.1.length = l5) (a7 : Option Addr) (c8 : Nat) (l9 : Nat) (hl10 : x0.2.2.1.length = l9) (a11 : Option Addr) (c12 : Nat) (l13 : Nat) (hl14 : x0.2.2.2.1.length = l13) (r : (Int × Int × List Int × Int × Int × Bool) × Int × List Int × List UInt8 × Int) (h : M_i_Grid_scroll_in45 x0 = some r) :
    FX Try.prog 66 [.pointer a2] [] [⟨(.pair (.pair (.int .i64) (.pair (.int .i64) (.pair .val (.pair (.int .i64) (.pair (.int .i64) .bool))))) (.pair (.int .i64) (.pair .val (.pair .val (.int .i64))))), ⟨a2, 1, 1⟩, [((x0.1.1, x0.1.2.1, (Sl.v ⟨a3, l5, c4⟩), x0.1.2.2.2.1, x0.1.2.2.2.2.1, x0.1.2.2.2.2.2), x0.2.1, (Sl.v ⟨a7, l9, c8⟩), (Sl.v ⟨a11, l13, c12⟩), x0.2.2.2.2)]⟩, ⟨(.int .i64), ⟨a3, l5, c4⟩, x0.1.2.2.1⟩, ⟨(.int .i64), ⟨a7, l9, c8⟩, x0.2.2.1⟩, ⟨.byte, ⟨a11, l13, c12⟩, x0.2.2.2.1⟩] (fun _ : Option Addr × Nat × Option Addr × Nat × Option Addr × Nat => True) (fun q => .tuple #[]) (fun q => [⟨(.pair (.pair (.int .i64) (.pair (.int .i64) (.pair .val (.pair (.int .i64) (.pair (.int .i64) .bool))))) (.pair (.int .i64) (.pair .val (.pair .val (.int .i64))))), ⟨a2, 1, 1⟩, [((r.1.1, r.1.2.1, (Sl.v ⟨q.1, r.1.2.2.1.length, q.2.1⟩), r.1.2.2.2.1, r.1.2.2.2.2.1, r.1.2.2.2.2.2), r.2.1, (Sl.v ⟨q.2.2.1, r.2.2.1.length, q.2.2.2.1⟩), (Sl.v ⟨q.2.2.2.2.1, r.2.2.2.1.length, q.2.2.2.2.2⟩), r.2.2.2.2)]⟩, ⟨(.int .i64), ⟨q.1, r.1.2.2.1.length, q.2.1⟩, r.1.2.2.1⟩, ⟨(.int .i64), ⟨q.2.2.1, r.2.2.1.length, q.2.2.2.1⟩, r.2.2.1⟩, ⟨.byte, ⟨q.2.2.2.2.1, r.2.2.2.1.length, q.2.2.2.2.2⟩, r.2.2.2.1⟩]) :=
  by
    subst hl6
    subst hl10
    subst hl14
    refine FX.of (T := TTx) Try.call66 Try.func66 rfl rfl fun w0 L0 => ?_
    unfold M_i_Grid_scroll_in45 at h
    refine JS.ptr 0 a2 rfl ?_
    refine JS.seq ?_
    obtain ⟨g16, h⟩ := guardO_some h
    obtain ⟨y21, hy22, h⟩ := bindO_some h
    refine JS.freeze [1] rfl (JS.subR 0 rfl x0.1.1 (x0.1.2.2.1.length : Int) fun a17 c18 hu19 => JS.know 2 rfl fun hs70 => JS.know 1 rfl fun hs71 => ?_)
    refine JS.regionA rfl .nil [2] [8, 9, 10] trivial rfl (fun be29 => ?_)
    refine JA.reg ttOk panic_cxX true 5 [0, 1, 2, 4, 5, 6] rfl (by kernel_rfl) [] [(5, .ep ⟨a2, 1, 1⟩ 2), (9, .ep ⟨a2, 1, 1⟩ 0)] trivial [2] rfl rfl ⟨(hs70.fa ptr0).1, hs70.fa ptr0, (hs70.fa ptr0).1, hs70.fa ptr0, ⟨rfl, rfl, trivial⟩⟩ (JA.loadV ttOk panic_cxX 3 rfl (by kernel_rfl) rfl rfl rfl rfl rfl 0 rfl rfl 0 2 ((x0.1.1, x0.1.2.1, (Sl.v ⟨a3, x0.1.2.2.1.length, c4⟩), x0.1.2.2.2.1, x0.1.2.2.2.2.1, x0.1.2.2.2.2.2), x0.2.1, (Sl.v ⟨a7, x0.2.2.1.length, c8⟩), (Sl.v ⟨a11, x0.2.2.2.1.length, c12⟩), x0.2.2.2.2) ⟨rfl, rfl⟩ rfl rfl rfl trivial [2] rfl (JA.loadV ttOk panic_cxX 7 rfl (by kernel_rfl) rfl rfl rfl rfl rfl 0 rfl rfl 0 0 ((x0.1.1, x0.1.2.1, (Sl.v ⟨a3, x0.1.2.2.1.length, c4⟩), x0.1.2.2.2.1, x0.1.2.2.2.2.1, x0.1.2.2.2.2.2), x0.2.1, (Sl.v ⟨a7, x0.2.2.1.length, c8⟩), (Sl.v ⟨a11, x0.2.2.2.1.length, c12⟩), x0.2.2.2.2) ⟨rfl, rfl⟩ rfl rfl rfl trivial [2] rfl (JA.sliceP ttOk panic_cxX 8 rfl (by kernel_rfl) rfl rfl rfl rfl rfl rfl x0.1.1 (x0.1.2.2.1.length : Int) rfl rfl ⟨g16.1, g16.2.1, g16.2.2, hs71.cap, hu19 g16⟩ rfl (JA.one 9 (by kernel_rfl) (JK.call rfl rfl rfl rfl (ok_i_copyInts (sub' x0.1.2.2.1 x0.1.1 (x0.1.2.2.1.length : Int)) a17 c18 ((sub' x0.1.2.2.1 x0.1.1 (x0.1.2.2.1.length : Int)).length) rfl _ hy22) rfl [0] rfl rfl ?_)))))
    rintro ⟨a23, c24⟩ -
    refine JA.nextL rfl (JA.regL ttOk panic_cxX 0 [10] rfl (by kernel_rfl) [] [(2, .v (.slice a23 y21.length c24))] rfl ⟨rfl, trivial⟩ (JA.done (by kernel_rfl) (JS.boxes (B' := .nil) trivial (JS.seq (JS.seq (JS.region (JO.reg ttOk 3 [] [] [(15, .ep ⟨a2, 1, 1⟩ 0)] _ rfl ⟨(hs70.fa ptr0).1, hs70.fa ptr0, ⟨rfl, trivial⟩, rfl⟩ (JO.loadV ttOk rfl rfl rfl rfl rfl rfl 3 rfl rfl 0 0 ((x0.1.1, x0.1.2.1, (Sl.v ⟨a3, x0.1.2.2.1.length, c4⟩), x0.1.2.2.2.1, x0.1.2.2.2.2.1, x0.1.2.2.2.2.2), x0.2.1, (Sl.v ⟨a7, x0.2.2.1.length, c8⟩), (Sl.v ⟨a11, x0.2.2.2.1.length, c12⟩), x0.2.2.2.2) ⟨rfl, rfl⟩ rfl rfl rfl (JO.reg ttOk 1 [] [] [(17, .v (.int .i64 0))] _ rfl ⟨⟨rfl, trivial⟩, rfl⟩ (JO.done rfl ?_))))))))))
    obtain ⟨j62, hj74, h⟩ := joinO_some h
    refine JS.blockJ (ι := List Int × Option Addr × Nat) ⟨fun z => j62 z.1 = some r, fun z => [(0, .ep ⟨a2, 1, 1⟩ 0), (2, .v (.slice z.2.1 z.1.length z.2.2))], fun z => .nil, fun z => [⟨(.int .i64), ⟨a3, x0.1.2.2.1.length, c4⟩, x0.1.2.2.1⟩], fun z => [⟨(.int .i64), ⟨z.2.1, z.1.length, z.2.2⟩, z.1⟩, ⟨(.pair (.pair (.int .i64) (.pair (.int .i64) (.pair .val (.pair (.int .i64) (.pair (.int .i64) .bool))))) (.pair (.int .i64) (.pair .val (.pair .val (.int .i64))))), ⟨a2, 1, 1⟩, [((x0.1.1, x0.1.2.1, (Sl.v ⟨a3, x0.1.2.2.1.length, c4⟩), x0.1.2.2.2.1, x0.1.2.2.2.2.1, x0.1.2.2.2.2.2), x0.2.1, (Sl.v ⟨a7, x0.2.2.1.length, c8⟩), (Sl.v ⟨a11, x0.2.2.2.1.length, c12⟩), x0.2.2.2.2)]⟩, ⟨(.int .i64), ⟨a7, x0.2.2.1.length, c8⟩, x0.2.2.1⟩, ⟨.byte, ⟨a11, x0.2.2.2.1.length, c12⟩, x0.2.2.2.1⟩], fun z => 0⟩ ?_ ?_
    · refine JS.loop (ι := Nat × List Int × Int × Option Addr × Nat) ⟨fun z => fixF (M_i_Grid_scroll_in45_L1 x0 j62) z.1 (z.2.1, z.2.2.1) = some r, fun z => [(0, .ep ⟨a2, 1, 1⟩ 0), (2, .v (.slice z.2.2.2.1 z.2.1.length z.2.2.2.2)), (16, .v (.int .i64 x0.1.1)), (17, .v (.int .i64 z.2.2.1))], fun z => .nil, fun z => [⟨(.int .i64), ⟨a3, x0.1.2.2.1.length, c4⟩, x0.1.2.2.1⟩], fun z => [⟨(.int .i64), ⟨z.2.2.2.1, z.2.1.length, z.2.2.2.2⟩, z.2.1⟩, ⟨(.pair (.pair (.int .i64) (.pair (.int .i64) (.pair .val (.pair (.int .i64) (.pair (.int .i64) .bool))))) (.pair (.int .i64) (.pair .val (.pair .val (.int .i64))))), ⟨a2, 1, 1⟩, [((x0.1.1, x0.1.2.1, (Sl.v ⟨a3, x0.1.2.2.1.length, c4⟩), x0.1.2.2.2.1, x0.1.2.2.2.2.1, x0.1.2.2.2.2.2), x0.2.1, (Sl.v ⟨a7, x0.2.2.1.length, c8⟩), (Sl.v ⟨a11, x0.2.2.2.1.length, c12⟩), x0.2.2.2.2)]⟩, ⟨(.int .i64), ⟨a7, x0.2.2.1.length, c8⟩, x0.2.2.1⟩, ⟨.byte, ⟨a11, x0.2.2.2.1.length, c12⟩, x0.2.2.2.1⟩], fun z => z.1⟩ (FUEL, y21, 0, a23, c24) h ⟨rfl, rfl, rfl, rfl, trivial⟩ trivial [1] rfl [0, 0, 0, 0] rfl ?_
      rintro ⟨n57, x30, x33, a31, c32⟩ h
      obtain ⟨n57, rfl, h⟩ := fixF_some h
      rw [M_i_Grid_scroll_in45_L1] at h
      refine JS.seq (JS.region (JO.reg ttOk 1 [] [] [(18, .v (.bool (decide (x33 < x0.1.1))))] _ rfl ⟨⟨rfl, trivial⟩, rfl⟩ (JO.done rfl (JS.seq ?_))))
      refine JS.cond rfl (fun ht72 => ?_) (fun ht72 => ?_)
      · have h := condT h ht72
        refine JS.skip (JS.seq (JS.block (JS.region (JO.reg ttOk 1 [] [] [(19, .v (.slice a31 x30.length c32))] _ rfl ⟨⟨rfl, trivial⟩, rfl⟩ ?_))))
        refine JO.ofK rfl (JK.buildSlice ttOk rfl rfl rfl rfl rfl rfl rfl rfl rfl rfl rfl [] rfl (.int .i64) [32] ⟨rfl, rfl⟩ rfl rfl fun a50 => JO.toK ?_)
        obtain ⟨g51, h⟩ := guardO_some h
        refine JO.appendR' ttOk rfl rfl rfl rfl ⟨rfl, rfl, rfl, rfl, trivial, rfl, rfl, rfl, rfl⟩ rfl rfl rfl [1] rfl 1 rfl g51 rfl fun a52 c53 => JO.reg ttOk 1 [] [] [(2, .v (.slice a52 (x30 ++ ([32] : List Int)).length c53))] _ rfl ⟨⟨rfl, trivial⟩, rfl⟩ (JO.done rfl (JS.endB (JS.region (JO.reg ttOk 2 [(W (x33 + 1))] [] [(17, .v (.int .i64 (W (x33 + 1))))] _ rfl ⟨⟨trivial, rfl⟩, ⟨rfl, trivial⟩, rfl⟩ (JO.done rfl (JS.endLA (n57, (x30 ++ ([32] : List Int)), (W (x33 + 1)), a52, c53) h (Nat.lt_succ_self _) ⟨rfl, rfl, rfl, rfl, trivial⟩ trivial [0] rfl [0, 2, 3, 4] rfl rfl))))))
      have h := condF h ht72
      refine JS.exit rfl (JS.endJA (x30, a31, c32) h ⟨rfl, rfl, trivial⟩ trivial [0] rfl [0, 1, 2, 3] rfl rfl)
    rintro ⟨x59, a60, c61⟩ h
    subst hj74
    refine JS.region (JO.know 2 rfl fun hs73 => JO.reg ttOk 4 [] [] [(24, .v (.slice a60 x59.length c61)), (26, .ep ⟨a2, 1, 1⟩ 2)] _ rfl ⟨(hs73.fa ptr0).1, hs73.fa ptr0, ⟨rfl, rfl, trivial⟩, rfl⟩ (JO.storeE ttOk rfl rfl rfl rfl rfl rfl rfl rfl rfl [1] (fs := []) rfl 0 2 ((x0.1.1, x0.1.2.1, (Sl.v ⟨a3, x0.1.2.2.1.length, c4⟩), x0.1.2.2.2.1, x0.1.2.2.2.2.1, x0.1.2.2.2.2.2), x0.2.1, (Sl.v ⟨a7, x0.2.2.1.length, c8⟩), (Sl.v ⟨a11, x0.2.2.2.1.length, c12⟩), x0.2.2.2.2) ((x0.1.1, x0.1.2.1, (Sl.v ⟨a60, x59.length, c61⟩), x0.1.2.2.2.1, x0.1.2.2.2.2.1, x0.1.2.2.2.2.2), x0.2.1, (Sl.v ⟨a7, x0.2.2.1.length, c8⟩), (Sl.v ⟨a11, x0.2.2.2.1.length, c12⟩), x0.2.2.2.2) ⟨rfl, rfl⟩ ⟨⟨⟨⟨⟨rfl, rfl, rfl, rfl⟩, rfl⟩, rfl⟩, rfl⟩, rfl⟩ (JO.done rfl ?_)))
    cases h
    exact JS.fallX ttOk (a60, c61, a7, c8, a11, c12) trivial rfl rfl [0, 0, 0, 0] rfl

end
end Go.Eng
