/- The walks of the functions that FnExactChange reaches: what each computes, as a plain function (M_..), and that the model computes it (ok_..). Condition of each: that the plain function answers. -/
import Derived.Test.YtamjkgjmefknkaaGreatFnExactChangeWalkB
set_option linter.unusedVariables false
set_option linter.unusedSimpArgs false
namespace Go.Eng
open Go Go.Proofs
noncomputable section

def M_i_change (x0 : Bool × Int × (List Int × Int) × Int × Int × Int × Int × Int × Int × Int × List (List Int) × (List (List Int × Int)) × Int × (List Int × Int) × List Int × Int × List Int × Int) (x1 : Int) (x2 : Int) (x3 : Int) : Option ((Bool × Int × (List Int × Int) × Int × Int × Int × Int × Int × Int × Int × List (List Int) × (List (List Int × Int)) × Int × (List Int × Int) × List Int × Int × List Int × Int) × Int) :=
  (bif (decide (x2 = x3)) then
  (bif (!(decide (x1 = 99))) then
  (bindO (M_i_bell x0) fun (y29, y30) =>
  some (y29, y30))
  else
  (bindO (M_i_goTo x0.2.2.1 x2) fun (y44 : List Int × Int) =>
  (bindO (M_i_set x0 y44 0) fun (y48 : Bool × Int × (List Int × Int) × Int × Int × Int × Int × Int × Int × Int × List (List Int) × (List (List Int × Int)) × Int × (List Int × Int) × List Int × Int × List Int × Int) =>
  (bindO (M_i_typing y48 x2) fun (y62 : Bool × Int × (List Int × Int) × Int × Int × Int × Int × Int × Int × Int × List (List Int) × (List (List Int × Int)) × Int × (List Int × Int) × List Int × Int × List Int × Int) =>
  some ((y62.1, y62.2.1, (y48.2.2.1.1, y62.2.2.1.2), y62.2.2.2.1, y62.2.2.2.2.1, y62.2.2.2.2.2.1, y62.2.2.2.2.2.2.1, y62.2.2.2.2.2.2.2.1, y62.2.2.2.2.2.2.2.2.1, y62.2.2.2.2.2.2.2.2.2.1, y48.2.2.2.2.2.2.2.2.2.2.1, y48.2.2.2.2.2.2.2.2.2.2.2.1, y62.2.2.2.2.2.2.2.2.2.2.2.2.1, (y48.2.2.2.2.2.2.2.2.2.2.2.2.2.1.1, y62.2.2.2.2.2.2.2.2.2.2.2.2.2.1.2), y48.2.2.2.2.2.2.2.2.2.2.2.2.2.2.1, y62.2.2.2.2.2.2.2.2.2.2.2.2.2.2.2.1, (y48.2.2.2.2.2.2.2.2.2.2.2.2.2.2.2.2.1, y62.2.2.2.2.2.2.2.2.2.2.2.2.2.2.2.2.2)), 0)))))
  else
  (bindO (M_i_LineCut x0.2.2.1 x2 x3) fun (y66, y67, y68) =>
  (bindO (M_i_copyEd x0) fun (y74 : Bool × Int × (List Int × Int) × Int × Int × Int × Int × Int × Int × Int × List (List Int) × (List (List Int × Int)) × Int × (List Int × Int) × List Int × Int × List Int × Int) =>
  (bindO (M_i_RingPut x0.2.2.2.2.2.2.2.2.2.2.1 y67 0) fun (y88, y89) =>
  (bif (decide (x1 = 121)) then
  (bindO (M_i_goTo x0.2.2.1 x2) fun (y93 : List Int × Int) =>
  (bindO (M_i_put (y74.1, y74.2.1, y74.2.2.1, y74.2.2.2.1, y74.2.2.2.2.1, y74.2.2.2.2.2.1, y74.2.2.2.2.2.2.1, y74.2.2.2.2.2.2.2.1, y74.2.2.2.2.2.2.2.2.1, y74.2.2.2.2.2.2.2.2.2.1, y88, y74.2.2.2.2.2.2.2.2.2.2.2.1, y74.2.2.2.2.2.2.2.2.2.2.2.2.1, y74.2.2.2.2.2.2.2.2.2.2.2.2.2.1, y74.2.2.2.2.2.2.2.2.2.2.2.2.2.2.1, y74.2.2.2.2.2.2.2.2.2.2.2.2.2.2.2.1, y74.2.2.2.2.2.2.2.2.2.2.2.2.2.2.2.2) y93) fun (y97, y98) =>
  some (y97, y98)))
  else
  (bindO (M_i_goTo y66 x2) fun (y113 : List Int × Int) =>
  (bindO (M_i_set (y74.1, y74.2.1, y74.2.2.1, y74.2.2.2.1, y74.2.2.2.2.1, y74.2.2.2.2.2.1, y74.2.2.2.2.2.2.1, y74.2.2.2.2.2.2.2.1, y74.2.2.2.2.2.2.2.2.1, y74.2.2.2.2.2.2.2.2.2.1, y88, y74.2.2.2.2.2.2.2.2.2.2.2.1, y74.2.2.2.2.2.2.2.2.2.2.2.2.1, y74.2.2.2.2.2.2.2.2.2.2.2.2.2.1, y74.2.2.2.2.2.2.2.2.2.2.2.2.2.2.1, y74.2.2.2.2.2.2.2.2.2.2.2.2.2.2.2.1, y74.2.2.2.2.2.2.2.2.2.2.2.2.2.2.2.2) y113 0) fun (y117 : Bool × Int × (List Int × Int) × Int × Int × Int × Int × Int × Int × Int × List (List Int) × (List (List Int × Int)) × Int × (List Int × Int) × List Int × Int × List Int × Int) =>
  (joinO (fun ((x135, x136, x137, x138, x139, x140, x141, x142, x143, x144, x145, x146, x147, x148) : Bool × Int × Int × Int × Int × Int × Int × Int × Int × Int × Int × Int × Int × Int) =>
  some ((x135, x136, (y117.2.2.1.1, x137), x138, x139, x140, x141, x142, x143, x144, y117.2.2.2.2.2.2.2.2.2.2.1, y117.2.2.2.2.2.2.2.2.2.2.2.1, x145, (y117.2.2.2.2.2.2.2.2.2.2.2.2.2.1.1, x146), y117.2.2.2.2.2.2.2.2.2.2.2.2.2.2.1, x147, (y117.2.2.2.2.2.2.2.2.2.2.2.2.2.2.2.2.1, x148)), 0)) fun j149 =>
  (bif (decide (x1 = 99)) then
  (bindO (M_i_typing y117 x2) fun (y132 : Bool × Int × (List Int × Int) × Int × Int × Int × Int × Int × Int × Int × List (List Int) × (List (List Int × Int)) × Int × (List Int × Int) × List Int × Int × List Int × Int) =>
  j149 (y132.1, y132.2.1, y132.2.2.1.2, y132.2.2.2.1, y132.2.2.2.2.1, y132.2.2.2.2.2.1, y132.2.2.2.2.2.2.1, y132.2.2.2.2.2.2.2.1, y132.2.2.2.2.2.2.2.2.1, y132.2.2.2.2.2.2.2.2.2.1, y132.2.2.2.2.2.2.2.2.2.2.2.2.1, y132.2.2.2.2.2.2.2.2.2.2.2.2.2.1.2, y132.2.2.2.2.2.2.2.2.2.2.2.2.2.2.2.1, y132.2.2.2.2.2.2.2.2.2.2.2.2.2.2.2.2.2))
  else
  j149 (y117.1, y117.2.1, y117.2.2.1.2, y117.2.2.2.1, y117.2.2.2.2.1, y117.2.2.2.2.2.1, y117.2.2.2.2.2.2.1, y117.2.2.2.2.2.2.2.1, y117.2.2.2.2.2.2.2.2.1, y117.2.2.2.2.2.2.2.2.2.1, y117.2.2.2.2.2.2.2.2.2.2.2.2.1, y117.2.2.2.2.2.2.2.2.2.2.2.2.2.1.2, y117.2.2.2.2.2.2.2.2.2.2.2.2.2.2.2.1, y117.2.2.2.2.2.2.2.2.2.2.2.2.2.2.2.2.2))))))))))

theorem ok_i_change (x0 : Bool × Int × (List Int × Int) × Int × Int × Int × Int × Int × Int × Int × List (List Int) × (List (List Int × Int)) × Int × (List Int × Int) × List Int × Int × List Int × Int) (x1 : Int) (x2 : Int) (x3 : Int) (a5 : Option Addr) (c6 : Nat) (l7 : Nat) (hl8 : x0.2.2.1.1.length = l7) (a9 : Option Addr) (c10 : Nat) (l11 : Nat) (hl12 : x0.2.2.2.2.2.2.2.2.2.2.1.length = l11) (a13 : Option Addr) (c14 : Nat) (l15 : Nat) (hl16 : x0.2.2.2.2.2.2.2.2.2.2.2.1.length = l15) (a17 : Option Addr) (c18 : Nat) (l19 : Nat) (hl20 : x0.2.2.2.2.2.2.2.2.2.2.2.2.2.1.1.length = l19) (a21 : Option Addr) (c22 : Nat) (l23 : Nat) (hl24 : x0.2.2.2.2.2.2.2.2.2.2.2.2.2.2.1.length = l23) (a25 : Option Addr) (c26 : Nat) (l27 : Nat) (hl28 : x0.2.2.2.2.2.2.2.2.2.2.2.2.2.2.2.2.1.length = l27) (r : (Bool × Int × (List Int × Int) × Int × Int × Int × Int × Int × Int × Int × List (List Int) × (List (List Int × Int)) × Int × (List Int × Int) × List Int × Int × List Int × Int) × Int) (h : M_i_change x0 x1 x2 x3 = some r) :
    FC Tryz.prog 66 [.agg #[.bool x0.1, .int .i64 x0.2.1, .slice a5 l7 c6, .int .i64 x0.2.2.1.2, .int .i64 x0.2.2.2.1, .int .i64 x0.2.2.2.2.1, .int .i64 x0.2.2.2.2.2.1, .int .i64 x0.2.2.2.2.2.2.1, .int .i64 x0.2.2.2.2.2.2.2.1, .int .i64 x0.2.2.2.2.2.2.2.2.1, .int .i64 x0.2.2.2.2.2.2.2.2.2.1, .slice a9 l11 c10, .slice a13 l15 c14, .int .i64 x0.2.2.2.2.2.2.2.2.2.2.2.2.1, .slice a17 l19 c18, .int .i64 x0.2.2.2.2.2.2.2.2.2.2.2.2.2.1.2, .slice a21 l23 c22, .int .i64 x0.2.2.2.2.2.2.2.2.2.2.2.2.2.2.2.1, .slice a25 l27 c26, .int .i64 x0.2.2.2.2.2.2.2.2.2.2.2.2.2.2.2.2.2], .int .i64 x1, .int .i64 x2, .int .i64 x3] [⟨(.int .i64), ⟨a5, l7, c6⟩, x0.2.2.1.1⟩, ⟨(.sl (.int .i64)), ⟨a9, l11, c10⟩, x0.2.2.2.2.2.2.2.2.2.2.1⟩, ⟨(.pair (.sl (.int .i64)) (.int .i64)), ⟨a13, l15, c14⟩, x0.2.2.2.2.2.2.2.2.2.2.2.1⟩, ⟨(.int .i64), ⟨a17, l19, c18⟩, x0.2.2.2.2.2.2.2.2.2.2.2.2.2.1.1⟩, ⟨(.int .i64), ⟨a21, l23, c22⟩, x0.2.2.2.2.2.2.2.2.2.2.2.2.2.2.1⟩, ⟨(.int .i64), ⟨a25, l27, c26⟩, x0.2.2.2.2.2.2.2.2.2.2.2.2.2.2.2.2.1⟩] (fun _ : Option Addr × Nat × Option Addr × Nat × Option Addr × Nat × Option Addr × Nat × Option Addr × Nat × Option Addr × Nat => True) (fun q => .tuple #[.agg (cl42 r.1 q.1 q.2.1 q.2.2.1 q.2.2.2.1 q.2.2.2.2.1 q.2.2.2.2.2.1 q.2.2.2.2.2.2.1 q.2.2.2.2.2.2.2.1 q.2.2.2.2.2.2.2.2.1 q.2.2.2.2.2.2.2.2.2.1 q.2.2.2.2.2.2.2.2.2.2.1 q.2.2.2.2.2.2.2.2.2.2.2).toArray, .int .i64 r.2]) (fun q => [⟨(.int .i64), ⟨q.1, r.1.2.2.1.1.length, q.2.1⟩, r.1.2.2.1.1⟩, ⟨(.sl (.int .i64)), ⟨q.2.2.1, r.1.2.2.2.2.2.2.2.2.2.2.1.length, q.2.2.2.1⟩, r.1.2.2.2.2.2.2.2.2.2.2.1⟩, ⟨(.pair (.sl (.int .i64)) (.int .i64)), ⟨q.2.2.2.2.1, r.1.2.2.2.2.2.2.2.2.2.2.2.1.length, q.2.2.2.2.2.1⟩, r.1.2.2.2.2.2.2.2.2.2.2.2.1⟩, ⟨(.int .i64), ⟨q.2.2.2.2.2.2.1, r.1.2.2.2.2.2.2.2.2.2.2.2.2.2.1.1.length, q.2.2.2.2.2.2.2.1⟩, r.1.2.2.2.2.2.2.2.2.2.2.2.2.2.1.1⟩, ⟨(.int .i64), ⟨q.2.2.2.2.2.2.2.2.1, r.1.2.2.2.2.2.2.2.2.2.2.2.2.2.2.1.length, q.2.2.2.2.2.2.2.2.2.1⟩, r.1.2.2.2.2.2.2.2.2.2.2.2.2.2.2.1⟩, ⟨(.int .i64), ⟨q.2.2.2.2.2.2.2.2.2.2.1, r.1.2.2.2.2.2.2.2.2.2.2.2.2.2.2.2.2.1.length, q.2.2.2.2.2.2.2.2.2.2.2⟩, r.1.2.2.2.2.2.2.2.2.2.2.2.2.2.2.2.2.1⟩]) :=
  by
    subst hl8
    subst hl12
    subst hl16
    subst hl20
    subst hl24
    subst hl28
    refine FC.of (T := TTx) Tryz.call66 Tryz.func66 rfl rfl fun w0 => ?_
    unfold M_i_change at h
    refine JS.seq (JS.region (JO.regB ttOk 3 [] [7, 8] [(4, .bp 7 0), (8, .bp 8 0)] (.new 7 42 (cl42 x0 a5 c6 a9 c10 a13 c14 a17 c18 a21 c22 a25 c26) (.new 8 42 (cl42 (false, 0, ([], 0), 0, 0, 0, 0, 0, 0, 0, [], [], 0, ([], 0), [], 0, ([], 0)) none 0 none 0 none 0 none 0 none 0 none 0) .nil)) rfl ⟨⟨rfl, rfl, trivial⟩, ⟨rfl, rfl, rfl, rfl, rfl, rfl, rfl, rfl, trivial⟩⟩ (JO.done rfl (JS.seq (JS.seq (JS.region (JO.reg ttOk 3 [] [] [(16, .v (.bool (decide (x2 = x3))))] _ rfl ⟨⟨rfl, trivial⟩, rfl⟩ (JO.done rfl ?_))))))))
    refine JS.cond rfl (fun ht158 => ?_) (fun ht158 => ?_)
    · have h := condT h ht158
      refine JS.seq (JS.seq (JS.region (JO.reg ttOk 2 [] [] [(18, .v (.bool (!(decide (x1 = 99)))))] _ rfl ⟨⟨rfl, trivial⟩, rfl⟩ (JO.done rfl ?_))))
      refine JS.cond rfl (fun ht154 => ?_) (fun ht154 => ?_)
      · have h := condT h ht154
        refine JS.seq (JS.region (JO.reg ttOk 1 [] [] [(19, .v (.agg (cl42 x0 a5 c6 a9 c10 a13 c14 a17 c18 a21 c22 a25 c26).toArray))] _ rfl ⟨⟨rfl, trivial⟩, rfl⟩ ?_))
        obtain ⟨⟨y29, y30⟩, hy31, h⟩ := bindO_some h
        refine JO.call rfl rfl rfl rfl (ok_i_bell x0 a5 c6 x0.2.2.1.1.length rfl a9 c10 x0.2.2.2.2.2.2.2.2.2.2.1.length rfl a13 c14 x0.2.2.2.2.2.2.2.2.2.2.2.1.length rfl a17 c18 x0.2.2.2.2.2.2.2.2.2.2.2.2.2.1.1.length rfl a21 c22 x0.2.2.2.2.2.2.2.2.2.2.2.2.2.2.1.length rfl a25 c26 x0.2.2.2.2.2.2.2.2.2.2.2.2.2.2.2.2.1.length rfl _ hy31) rfl [0, 1, 2, 3, 4, 5] rfl rfl ?_
        rintro ⟨a32, c33, a34, c35, a36, c37, a38, c39, a40, c41, a42, c43⟩ -
        refine JO.regB ttOk 4 [] [] [(9, .v (.int .i64 y30))] (.new 8 42 (cl42 y29 a32 c33 a34 c35 a36 c37 a38 c39 a40 c41 a42 c43) .nil) rfl ⟨⟨rfl, trivial⟩, ⟨rfl, rfl, rfl, rfl, trivial⟩⟩ (JO.done rfl ?_)
        cases h
        exact JS.ret ttOk (a32, c33, a34, c35, a36, c37, a38, c39, a40, c41, a42, c43) trivial rfl rfl [0, 0, 0, 0, 0, 0] rfl
      have h := condF h ht154
      refine JS.skip (JS.seq ?_)
      obtain ⟨y44, hy45, h⟩ := bindO_some h
      obtain ⟨y48, hy49, h⟩ := bindO_some h
      obtain ⟨y62, hy63, h⟩ := bindO_some h
      refine JS.regionA rfl (.new 7 42 (cl42 x0 a5 c6 a9 c10 a13 c14 a17 c18 a21 c22 a25 c26) .nil) [] [8, 9] ⟨rfl, rfl, rfl, rfl, trivial⟩ rfl (fun be64 => ?_)
      refine JA.reg ttOk panic_cx true 5 [0, 1, 2, 3, 6] rfl (by kernel_rfl) [] [(23, .v (.agg (cl42 x0 a5 c6 a9 c10 a13 c14 a17 c18 a21 c22 a25 c26).toArray)), (24, .bp 7 2), (25, .v (.agg #[.slice a5 x0.2.2.1.1.length c6, .int .i64 x0.2.2.1.2])), (26, .v (.int .i64 x2)), (29, .v (.int .i64 x2))] ⟨rfl, rfl, rfl, rfl, trivial⟩ [] rfl rfl ⟨rfl, rfl, rfl, rfl, rfl, trivial⟩ (JA.one 4 (by kernel_rfl) (JK.call rfl rfl rfl rfl (ok_i_goTo x0.2.2.1 x2 a5 c6 x0.2.2.1.1.length rfl _ hy45) rfl [0] rfl rfl ?_))
      rintro ⟨a46, c47⟩ -
      refine JA.next ⟨rfl, rfl, rfl, rfl, trivial⟩ [] rfl (JA.one 5 (by kernel_rfl) (JK.call rfl rfl rfl rfl (ok_i_set x0 y44 0 a5 c6 x0.2.2.1.1.length rfl a9 c10 x0.2.2.2.2.2.2.2.2.2.2.1.length rfl a13 c14 x0.2.2.2.2.2.2.2.2.2.2.2.1.length rfl a17 c18 x0.2.2.2.2.2.2.2.2.2.2.2.2.2.1.1.length rfl a21 c22 x0.2.2.2.2.2.2.2.2.2.2.2.2.2.2.1.length rfl a25 c26 x0.2.2.2.2.2.2.2.2.2.2.2.2.2.2.2.2.1.length rfl a46 c47 y44.1.length rfl _ hy49) rfl [0, 1, 2, 3, 4, 5, 6] rfl rfl ?_))
      rintro ⟨a50, c51, a52, c53, a54, c55, a56, c57, a58, c59, a60, c61⟩ -
      refine JA.next ⟨rfl, rfl, rfl, rfl, trivial⟩ [] rfl (JA.one 7 (by kernel_rfl) (JK.call rfl rfl rfl rfl (ok_i_typing y48 x2 a50 c51 y48.2.2.1.1.length rfl a52 c53 y48.2.2.2.2.2.2.2.2.2.2.1.length rfl a54 c55 y48.2.2.2.2.2.2.2.2.2.2.2.1.length rfl a56 c57 y48.2.2.2.2.2.2.2.2.2.2.2.2.2.1.1.length rfl a58 c59 y48.2.2.2.2.2.2.2.2.2.2.2.2.2.2.1.length rfl a60 c61 y48.2.2.2.2.2.2.2.2.2.2.2.2.2.2.2.2.1.length rfl _ hy63) rfl [6, 7, 8, 9, 10, 11] rfl rfl fun _ _ => JA.next ⟨rfl, rfl, rfl, rfl, trivial⟩ [] rfl (JA.one 8 (by kernel_rfl) (JK.stBox ttOk rfl rfl rfl rfl rfl rfl rfl rfl (JK.boxes (B' := (.new 7 42 (cl42 x0 a5 c6 a9 c10 a13 c14 a17 c18 a21 c22 a25 c26) (.new 8 42 (cl42 (y62.1, y62.2.1, (y48.2.2.1.1, y62.2.2.1.2), y62.2.2.2.1, y62.2.2.2.2.1, y62.2.2.2.2.2.1, y62.2.2.2.2.2.2.1, y62.2.2.2.2.2.2.2.1, y62.2.2.2.2.2.2.2.2.1, y62.2.2.2.2.2.2.2.2.2.1, y48.2.2.2.2.2.2.2.2.2.2.1, y48.2.2.2.2.2.2.2.2.2.2.2.1, y62.2.2.2.2.2.2.2.2.2.2.2.2.1, (y48.2.2.2.2.2.2.2.2.2.2.2.2.2.1.1, y62.2.2.2.2.2.2.2.2.2.2.2.2.2.1.2), y48.2.2.2.2.2.2.2.2.2.2.2.2.2.2.1, y62.2.2.2.2.2.2.2.2.2.2.2.2.2.2.2.1, (y48.2.2.2.2.2.2.2.2.2.2.2.2.2.2.2.2.1, y62.2.2.2.2.2.2.2.2.2.2.2.2.2.2.2.2.2)) a50 c51 a52 c53 a54 c55 a56 c57 a58 c59 a60 c61) .nil))) ⟨rfl, rfl, rfl, rfl, rfl, rfl, rfl, rfl, trivial⟩ (JA.nextL rfl (JA.regL ttOk panic_cx 0 [9] rfl (by kernel_rfl) [] [(9, .v (.int .i64 0)), (23, .v (.agg (cl42 x0 a5 c6 a9 c10 a13 c14 a17 c18 a21 c22 a25 c26).toArray)), (24, .bp 7 2), (25, .v (.agg #[.slice a5 x0.2.2.1.1.length c6, .int .i64 x0.2.2.1.2])), (26, .v (.int .i64 x2)), (27, .v (.agg #[.slice a46 y44.1.length c47, .int .i64 y44.2])), (28, .v (.agg (cl42 y48 a50 c51 a52 c53 a54 c55 a56 c57 a58 c59 a60 c61).toArray)), (29, .v (.int .i64 x2)), (30, .v (.agg (cl42 (y62.1, y62.2.1, (y48.2.2.1.1, y62.2.2.1.2), y62.2.2.2.1, y62.2.2.2.2.1, y62.2.2.2.2.2.1, y62.2.2.2.2.2.2.1, y62.2.2.2.2.2.2.2.1, y62.2.2.2.2.2.2.2.2.1, y62.2.2.2.2.2.2.2.2.2.1, y48.2.2.2.2.2.2.2.2.2.2.1, y48.2.2.2.2.2.2.2.2.2.2.2.1, y62.2.2.2.2.2.2.2.2.2.2.2.2.1, (y48.2.2.2.2.2.2.2.2.2.2.2.2.2.1.1, y62.2.2.2.2.2.2.2.2.2.2.2.2.2.1.2), y48.2.2.2.2.2.2.2.2.2.2.2.2.2.2.1, y62.2.2.2.2.2.2.2.2.2.2.2.2.2.2.2.1, (y48.2.2.2.2.2.2.2.2.2.2.2.2.2.2.2.2.1, y62.2.2.2.2.2.2.2.2.2.2.2.2.2.2.2.2.2)) a50 c51 a52 c53 a54 c55 a56 c57 a58 c59 a60 c61).toArray))] rfl ⟨rfl, rfl, rfl, rfl, rfl, rfl, rfl, rfl, rfl, trivial⟩ (JA.done (by kernel_rfl) (JS.boxes (B' := (.new 8 42 (cl42 (y62.1, y62.2.1, (y48.2.2.1.1, y62.2.2.1.2), y62.2.2.2.1, y62.2.2.2.2.1, y62.2.2.2.2.2.1, y62.2.2.2.2.2.2.1, y62.2.2.2.2.2.2.2.1, y62.2.2.2.2.2.2.2.2.1, y62.2.2.2.2.2.2.2.2.2.1, y48.2.2.2.2.2.2.2.2.2.2.1, y48.2.2.2.2.2.2.2.2.2.2.2.1, y62.2.2.2.2.2.2.2.2.2.2.2.2.1, (y48.2.2.2.2.2.2.2.2.2.2.2.2.2.1.1, y62.2.2.2.2.2.2.2.2.2.2.2.2.2.1.2), y48.2.2.2.2.2.2.2.2.2.2.2.2.2.2.1, y62.2.2.2.2.2.2.2.2.2.2.2.2.2.2.2.1, (y48.2.2.2.2.2.2.2.2.2.2.2.2.2.2.2.2.1, y62.2.2.2.2.2.2.2.2.2.2.2.2.2.2.2.2.2)) a50 c51 a52 c53 a54 c55 a56 c57 a58 c59 a60 c61) .nil)) ⟨rfl, rfl, rfl, rfl, trivial⟩ ?_)))))))))
      cases h
      exact JS.ret ttOk (a50, c51, a52, c53, a54, c55, a56, c57, a58, c59, a60, c61) trivial rfl rfl [0, 0, 0, 0, 0, 0] rfl
    have h := condF h ht158
    refine JS.skip (JS.seq (JS.region (JO.reg ttOk 4 [] [] [(33, .v (.agg #[.slice a5 x0.2.2.1.1.length c6, .int .i64 x0.2.2.1.2])), (34, .v (.int .i64 x2)), (35, .v (.int .i64 x3))] _ rfl ⟨⟨rfl, rfl, rfl, trivial⟩, rfl⟩ ?_)))
    obtain ⟨⟨y66, y67, y68⟩, hy69, h⟩ := bindO_some h
    refine JO.call rfl rfl rfl rfl (ok_i_LineCut x0.2.2.1 x2 x3 a5 c6 x0.2.2.1.1.length rfl _ hy69) rfl [0] rfl rfl ?_
    rintro ⟨a70, c71, a72, c73⟩ -
    refine JO.regB ttOk 8 [] [68] [(10, .bp 68 0), (11, .v (.slice a72 y67.length c73))] (.new 7 42 (cl42 x0 a5 c6 a9 c10 a13 c14 a17 c18 a21 c22 a25 c26) (.new 8 42 (cl42 (false, 0, ([], 0), 0, 0, 0, 0, 0, 0, 0, [], [], 0, ([], 0), [], 0, ([], 0)) none 0 none 0 none 0 none 0 none 0 none 0) (.new 68 34 [.slice a70 y66.1.length c71, .int .i64 y66.2] .nil))) rfl ⟨⟨rfl, rfl, trivial⟩, ⟨rfl, rfl, rfl, rfl, rfl, rfl, rfl, rfl, rfl, rfl, rfl, rfl, trivial⟩⟩ (JO.done rfl (JS.seq (JS.region (JO.reg ttOk 1 [] [] [(40, .v (.agg (cl42 x0 a5 c6 a9 c10 a13 c14 a17 c18 a21 c22 a25 c26).toArray))] _ rfl ⟨⟨rfl, trivial⟩, rfl⟩ ?_))))
    obtain ⟨y74, hy75, h⟩ := bindO_some h
    refine JO.call rfl rfl rfl rfl (ok_i_copyEd x0 a5 c6 x0.2.2.1.1.length rfl a9 c10 x0.2.2.2.2.2.2.2.2.2.2.1.length rfl a13 c14 x0.2.2.2.2.2.2.2.2.2.2.2.1.length rfl a17 c18 x0.2.2.2.2.2.2.2.2.2.2.2.2.2.1.1.length rfl a21 c22 x0.2.2.2.2.2.2.2.2.2.2.2.2.2.2.1.length rfl a25 c26 x0.2.2.2.2.2.2.2.2.2.2.2.2.2.2.2.2.1.length rfl _ hy75) rfl [0, 1, 2, 3, 4, 5] rfl rfl ?_
    rintro ⟨a76, c77, a78, c79, a80, c81, a82, c83, a84, c85, a86, c87⟩ -
    refine JO.regB ttOk 2 [] [89] [(13, .bp 89 0)] (.new 7 42 (cl42 x0 a5 c6 a9 c10 a13 c14 a17 c18 a21 c22 a25 c26) (.new 8 42 (cl42 (false, 0, ([], 0), 0, 0, 0, 0, 0, 0, 0, [], [], 0, ([], 0), [], 0, ([], 0)) none 0 none 0 none 0 none 0 none 0 none 0) (.new 68 34 [.slice a70 y66.1.length c71, .int .i64 y66.2] (.new 89 42 (cl42 y74 a76 c77 a78 c79 a80 c81 a82 c83 a84 c85 a86 c87) .nil)))) rfl ⟨⟨rfl, trivial⟩, ⟨rfl, rfl, rfl, rfl, rfl, rfl, rfl, rfl, rfl, rfl, rfl, rfl, rfl, rfl, rfl, rfl, trivial⟩⟩ (JO.done rfl (JS.seq (JS.region (JO.reg ttOk 3 [] [] [(44, .v (.agg #[.slice a9 x0.2.2.2.2.2.2.2.2.2.2.1.length c10])), (45, .v (.slice a72 y67.length c73))] _ rfl ⟨⟨rfl, rfl, trivial⟩, rfl⟩ ?_))))
    obtain ⟨⟨y88, y89⟩, hy90, h⟩ := bindO_some h
    refine JO.call rfl rfl rfl rfl (ok_i_RingPut x0.2.2.2.2.2.2.2.2.2.2.1 y67 0 a9 c10 x0.2.2.2.2.2.2.2.2.2.2.1.length rfl a72 c73 y67.length rfl _ hy90) rfl [1, 13] rfl rfl ?_
    rintro ⟨a91, c92⟩ -
    refine JO.regB ttOk 5 [] [] [] (.new 7 42 (cl42 x0 a5 c6 a9 c10 a13 c14 a17 c18 a21 c22 a25 c26) (.new 8 42 (cl42 (false, 0, ([], 0), 0, 0, 0, 0, 0, 0, 0, [], [], 0, ([], 0), [], 0, ([], 0)) none 0 none 0 none 0 none 0 none 0 none 0) (.new 68 34 [.slice a70 y66.1.length c71, .int .i64 y66.2] (.new 89 42 (cl42 (y74.1, y74.2.1, y74.2.2.1, y74.2.2.2.1, y74.2.2.2.2.1, y74.2.2.2.2.2.1, y74.2.2.2.2.2.2.1, y74.2.2.2.2.2.2.2.1, y74.2.2.2.2.2.2.2.2.1, y74.2.2.2.2.2.2.2.2.2.1, y88, y74.2.2.2.2.2.2.2.2.2.2.2.1, y74.2.2.2.2.2.2.2.2.2.2.2.2.1, y74.2.2.2.2.2.2.2.2.2.2.2.2.2.1, y74.2.2.2.2.2.2.2.2.2.2.2.2.2.2.1, y74.2.2.2.2.2.2.2.2.2.2.2.2.2.2.2.1, y74.2.2.2.2.2.2.2.2.2.2.2.2.2.2.2.2) a76 c77 a91 c92 a80 c81 a82 c83 a84 c85 a86 c87) .nil)))) rfl ⟨trivial, ⟨rfl, rfl, rfl, rfl, rfl, rfl, rfl, rfl, rfl, rfl, rfl, rfl, rfl, rfl, rfl, rfl, trivial⟩⟩ (JO.done rfl (JS.seq (JS.seq (JS.region (JO.reg ttOk 2 [] [] [(51, .v (.bool (decide (x1 = 121))))] _ rfl ⟨⟨rfl, trivial⟩, rfl⟩ (JO.done rfl ?_))))))
    refine JS.cond rfl (fun ht157 => ?_) (fun ht157 => ?_)
    · have h := condT h ht157
      refine JS.seq ?_
      obtain ⟨y93, hy94, h⟩ := bindO_some h
      obtain ⟨⟨y97, y98⟩, hy99, h⟩ := bindO_some h
      refine JS.regionA rfl (.new 7 42 (cl42 x0 a5 c6 a9 c10 a13 c14 a17 c18 a21 c22 a25 c26) (.new 89 42 (cl42 (y74.1, y74.2.1, y74.2.2.1, y74.2.2.2.1, y74.2.2.2.2.1, y74.2.2.2.2.2.1, y74.2.2.2.2.2.2.1, y74.2.2.2.2.2.2.2.1, y74.2.2.2.2.2.2.2.2.1, y74.2.2.2.2.2.2.2.2.2.1, y88, y74.2.2.2.2.2.2.2.2.2.2.2.1, y74.2.2.2.2.2.2.2.2.2.2.2.2.1, y74.2.2.2.2.2.2.2.2.2.2.2.2.2.1, y74.2.2.2.2.2.2.2.2.2.2.2.2.2.2.1, y74.2.2.2.2.2.2.2.2.2.2.2.2.2.2.2.1, y74.2.2.2.2.2.2.2.2.2.2.2.2.2.2.2.2) a76 c77 a91 c92 a80 c81 a82 c83 a84 c85 a86 c87) .nil)) [] [8, 9] ⟨rfl, rfl, rfl, rfl, rfl, rfl, rfl, rfl, trivial⟩ rfl (fun be112 => ?_)
      refine JA.reg ttOk panic_cx true 6 [0, 1, 2, 3] rfl (by kernel_rfl) [] [(52, .v (.agg (cl42 (y74.1, y74.2.1, y74.2.2.1, y74.2.2.2.1, y74.2.2.2.2.1, y74.2.2.2.2.2.1, y74.2.2.2.2.2.2.1, y74.2.2.2.2.2.2.2.1, y74.2.2.2.2.2.2.2.2.1, y74.2.2.2.2.2.2.2.2.2.1, y88, y74.2.2.2.2.2.2.2.2.2.2.2.1, y74.2.2.2.2.2.2.2.2.2.2.2.2.1, y74.2.2.2.2.2.2.2.2.2.2.2.2.2.1, y74.2.2.2.2.2.2.2.2.2.2.2.2.2.2.1, y74.2.2.2.2.2.2.2.2.2.2.2.2.2.2.2.1, y74.2.2.2.2.2.2.2.2.2.2.2.2.2.2.2.2) a76 c77 a91 c92 a80 c81 a82 c83 a84 c85 a86 c87).toArray)), (53, .bp 7 2), (54, .v (.agg #[.slice a5 x0.2.2.1.1.length c6, .int .i64 x0.2.2.1.2])), (55, .v (.int .i64 x2))] ⟨rfl, rfl, rfl, rfl, rfl, rfl, rfl, rfl, trivial⟩ [] rfl rfl ⟨rfl, rfl, rfl, rfl, trivial⟩ (JA.one 4 (by kernel_rfl) (JK.call rfl rfl rfl rfl (ok_i_goTo x0.2.2.1 x2 a5 c6 x0.2.2.1.1.length rfl _ hy94) rfl [0] rfl rfl ?_))
      rintro ⟨a95, c96⟩ -
      refine JA.next ⟨rfl, rfl, rfl, rfl, rfl, rfl, rfl, rfl, trivial⟩ [] rfl (JA.one 5 (by kernel_rfl) (JK.call rfl rfl rfl rfl (ok_i_put (y74.1, y74.2.1, y74.2.2.1, y74.2.2.2.1, y74.2.2.2.2.1, y74.2.2.2.2.2.1, y74.2.2.2.2.2.2.1, y74.2.2.2.2.2.2.2.1, y74.2.2.2.2.2.2.2.2.1, y74.2.2.2.2.2.2.2.2.2.1, y88, y74.2.2.2.2.2.2.2.2.2.2.2.1, y74.2.2.2.2.2.2.2.2.2.2.2.2.1, y74.2.2.2.2.2.2.2.2.2.2.2.2.2.1, y74.2.2.2.2.2.2.2.2.2.2.2.2.2.2.1, y74.2.2.2.2.2.2.2.2.2.2.2.2.2.2.2.1, y74.2.2.2.2.2.2.2.2.2.2.2.2.2.2.2.2) y93 a76 c77 y74.2.2.1.1.length rfl a91 c92 y88.length rfl a80 c81 y74.2.2.2.2.2.2.2.2.2.2.2.1.length rfl a82 c83 y74.2.2.2.2.2.2.2.2.2.2.2.2.2.1.1.length rfl a84 c85 y74.2.2.2.2.2.2.2.2.2.2.2.2.2.2.1.length rfl a86 c87 y74.2.2.2.2.2.2.2.2.2.2.2.2.2.2.2.2.1.length rfl a95 c96 y93.1.length rfl _ hy99) rfl [8, 7, 10, 11, 12, 13, 6] rfl rfl ?_))
      rintro ⟨a100, c101, a102, c103, a104, c105, a106, c107, a108, c109, a110, c111⟩ -
      refine JA.next ⟨rfl, rfl, rfl, rfl, rfl, rfl, rfl, rfl, trivial⟩ [] rfl (JA.reg ttOk panic_cx true 2 [6, 7] rfl (by kernel_rfl) [] [(52, .v (.agg (cl42 (y74.1, y74.2.1, y74.2.2.1, y74.2.2.2.1, y74.2.2.2.2.1, y74.2.2.2.2.2.1, y74.2.2.2.2.2.2.1, y74.2.2.2.2.2.2.2.1, y74.2.2.2.2.2.2.2.2.1, y74.2.2.2.2.2.2.2.2.2.1, y88, y74.2.2.2.2.2.2.2.2.2.2.2.1, y74.2.2.2.2.2.2.2.2.2.2.2.2.1, y74.2.2.2.2.2.2.2.2.2.2.2.2.2.1, y74.2.2.2.2.2.2.2.2.2.2.2.2.2.2.1, y74.2.2.2.2.2.2.2.2.2.2.2.2.2.2.2.1, y74.2.2.2.2.2.2.2.2.2.2.2.2.2.2.2.2) a76 c77 a91 c92 a80 c81 a82 c83 a84 c85 a86 c87).toArray)), (53, .bp 7 2), (54, .v (.agg #[.slice a5 x0.2.2.1.1.length c6, .int .i64 x0.2.2.1.2])), (55, .v (.int .i64 x2)), (56, .v (.agg #[.slice a95 y93.1.length c96, .int .i64 y93.2])), (57, .v (.tuple #[.agg (cl42 y97 a100 c101 a102 c103 a104 c105 a106 c107 a108 c109 a110 c111).toArray, .int .i64 y98])), (58, .v (.agg (cl42 y97 a100 c101 a102 c103 a104 c105 a106 c107 a108 c109 a110 c111).toArray)), (59, .v (.int .i64 y98))] ⟨rfl, rfl, rfl, rfl, rfl, rfl, rfl, rfl, trivial⟩ [] rfl rfl ⟨rfl, rfl, rfl, rfl, rfl, rfl, rfl, rfl, trivial⟩ (JA.one 8 (by kernel_rfl) (JK.stBox ttOk rfl rfl rfl rfl rfl rfl rfl rfl (JK.boxes (B' := (.new 7 42 (cl42 x0 a5 c6 a9 c10 a13 c14 a17 c18 a21 c22 a25 c26) (.new 8 42 (cl42 y97 a100 c101 a102 c103 a104 c105 a106 c107 a108 c109 a110 c111) (.new 68 34 [.slice a70 y66.1.length c71, .int .i64 y66.2] (.new 89 42 (cl42 (y74.1, y74.2.1, y74.2.2.1, y74.2.2.2.1, y74.2.2.2.2.1, y74.2.2.2.2.2.1, y74.2.2.2.2.2.2.1, y74.2.2.2.2.2.2.2.1, y74.2.2.2.2.2.2.2.2.1, y74.2.2.2.2.2.2.2.2.2.1, y88, y74.2.2.2.2.2.2.2.2.2.2.2.1, y74.2.2.2.2.2.2.2.2.2.2.2.2.1, y74.2.2.2.2.2.2.2.2.2.2.2.2.2.1, y74.2.2.2.2.2.2.2.2.2.2.2.2.2.2.1, y74.2.2.2.2.2.2.2.2.2.2.2.2.2.2.2.1, y74.2.2.2.2.2.2.2.2.2.2.2.2.2.2.2.2) a76 c77 a91 c92 a80 c81 a82 c83 a84 c85 a86 c87) .nil))))) ⟨rfl, rfl, rfl, rfl, rfl, rfl, rfl, rfl, rfl, rfl, rfl, rfl, rfl, rfl, rfl, rfl, trivial⟩ (JA.nextL rfl (JA.regL ttOk panic_cx 0 [9] rfl (by kernel_rfl) [] [(9, .v (.int .i64 y98)), (52, .v (.agg (cl42 (y74.1, y74.2.1, y74.2.2.1, y74.2.2.2.1, y74.2.2.2.2.1, y74.2.2.2.2.2.1, y74.2.2.2.2.2.2.1, y74.2.2.2.2.2.2.2.1, y74.2.2.2.2.2.2.2.2.1, y74.2.2.2.2.2.2.2.2.2.1, y88, y74.2.2.2.2.2.2.2.2.2.2.2.1, y74.2.2.2.2.2.2.2.2.2.2.2.2.1, y74.2.2.2.2.2.2.2.2.2.2.2.2.2.1, y74.2.2.2.2.2.2.2.2.2.2.2.2.2.2.1, y74.2.2.2.2.2.2.2.2.2.2.2.2.2.2.2.1, y74.2.2.2.2.2.2.2.2.2.2.2.2.2.2.2.2) a76 c77 a91 c92 a80 c81 a82 c83 a84 c85 a86 c87).toArray)), (53, .bp 7 2), (54, .v (.agg #[.slice a5 x0.2.2.1.1.length c6, .int .i64 x0.2.2.1.2])), (55, .v (.int .i64 x2)), (56, .v (.agg #[.slice a95 y93.1.length c96, .int .i64 y93.2])), (57, .v (.tuple #[.agg (cl42 y97 a100 c101 a102 c103 a104 c105 a106 c107 a108 c109 a110 c111).toArray, .int .i64 y98])), (58, .v (.agg (cl42 y97 a100 c101 a102 c103 a104 c105 a106 c107 a108 c109 a110 c111).toArray)), (59, .v (.int .i64 y98))] rfl ⟨rfl, rfl, rfl, rfl, rfl, rfl, rfl, rfl, rfl, trivial⟩ (JA.done (by kernel_rfl) (JS.boxes (B' := (.new 8 42 (cl42 y97 a100 c101 a102 c103 a104 c105 a106 c107 a108 c109 a110 c111) .nil)) ⟨rfl, rfl, rfl, rfl, trivial⟩ ?_))))))))
      cases h
      exact JS.ret ttOk (a100, c101, a102, c103, a104, c105, a106, c107, a108, c109, a110, c111) trivial rfl rfl [0, 0, 0, 0, 0, 0] rfl
    have h := condF h ht157
    refine JS.skip (JS.seq ?_)
    obtain ⟨y113, hy114, h⟩ := bindO_some h
    obtain ⟨y117, hy118, h⟩ := bindO_some h
    refine JS.regionA rfl (.new 68 34 [.slice a70 y66.1.length c71, .int .i64 y66.2] (.new 89 42 (cl42 (y74.1, y74.2.1, y74.2.2.1, y74.2.2.2.1, y74.2.2.2.2.1, y74.2.2.2.2.2.1, y74.2.2.2.2.2.2.1, y74.2.2.2.2.2.2.2.1, y74.2.2.2.2.2.2.2.2.1, y74.2.2.2.2.2.2.2.2.2.1, y88, y74.2.2.2.2.2.2.2.2.2.2.2.1, y74.2.2.2.2.2.2.2.2.2.2.2.2.1, y74.2.2.2.2.2.2.2.2.2.2.2.2.2.1, y74.2.2.2.2.2.2.2.2.2.2.2.2.2.2.1, y74.2.2.2.2.2.2.2.2.2.2.2.2.2.2.2.1, y74.2.2.2.2.2.2.2.2.2.2.2.2.2.2.2.2) a76 c77 a91 c92 a80 c81 a82 c83 a84 c85 a86 c87) .nil)) [] [5] ⟨rfl, rfl, rfl, rfl, rfl, rfl, rfl, rfl, trivial⟩ rfl (fun be131 => ?_)
    refine JA.reg ttOk panic_cx true 3 [0, 1, 2] rfl (by kernel_rfl) [] [(60, .v (.agg (cl42 (y74.1, y74.2.1, y74.2.2.1, y74.2.2.2.1, y74.2.2.2.2.1, y74.2.2.2.2.2.1, y74.2.2.2.2.2.2.1, y74.2.2.2.2.2.2.2.1, y74.2.2.2.2.2.2.2.2.1, y74.2.2.2.2.2.2.2.2.2.1, y88, y74.2.2.2.2.2.2.2.2.2.2.2.1, y74.2.2.2.2.2.2.2.2.2.2.2.2.1, y74.2.2.2.2.2.2.2.2.2.2.2.2.2.1, y74.2.2.2.2.2.2.2.2.2.2.2.2.2.2.1, y74.2.2.2.2.2.2.2.2.2.2.2.2.2.2.2.1, y74.2.2.2.2.2.2.2.2.2.2.2.2.2.2.2.2) a76 c77 a91 c92 a80 c81 a82 c83 a84 c85 a86 c87).toArray)), (61, .v (.agg #[.slice a70 y66.1.length c71, .int .i64 y66.2])), (62, .v (.int .i64 x2))] ⟨rfl, rfl, rfl, rfl, rfl, rfl, rfl, rfl, trivial⟩ [] rfl rfl ⟨rfl, rfl, rfl, trivial⟩ (JA.one 3 (by kernel_rfl) (JK.call rfl rfl rfl rfl (ok_i_goTo y66 x2 a70 c71 y66.1.length rfl _ hy114) rfl [13] rfl rfl ?_))
    rintro ⟨a115, c116⟩ -
    refine JA.next ⟨rfl, rfl, rfl, rfl, rfl, rfl, rfl, rfl, trivial⟩ [] rfl (JA.one 4 (by kernel_rfl) (JK.call rfl rfl rfl rfl (ok_i_set (y74.1, y74.2.1, y74.2.2.1, y74.2.2.2.1, y74.2.2.2.2.1, y74.2.2.2.2.2.1, y74.2.2.2.2.2.2.1, y74.2.2.2.2.2.2.2.1, y74.2.2.2.2.2.2.2.2.1, y74.2.2.2.2.2.2.2.2.2.1, y88, y74.2.2.2.2.2.2.2.2.2.2.2.1, y74.2.2.2.2.2.2.2.2.2.2.2.2.1, y74.2.2.2.2.2.2.2.2.2.2.2.2.2.1, y74.2.2.2.2.2.2.2.2.2.2.2.2.2.2.1, y74.2.2.2.2.2.2.2.2.2.2.2.2.2.2.2.1, y74.2.2.2.2.2.2.2.2.2.2.2.2.2.2.2.2) y113 0 a76 c77 y74.2.2.1.1.length rfl a91 c92 y88.length rfl a80 c81 y74.2.2.2.2.2.2.2.2.2.2.2.1.length rfl a82 c83 y74.2.2.2.2.2.2.2.2.2.2.2.2.2.1.1.length rfl a84 c85 y74.2.2.2.2.2.2.2.2.2.2.2.2.2.2.1.length rfl a86 c87 y74.2.2.2.2.2.2.2.2.2.2.2.2.2.2.2.2.1.length rfl a115 c116 y113.1.length rfl _ hy118) rfl [8, 7, 10, 11, 12, 13, 6] rfl rfl ?_))
    rintro ⟨a119, c120, a121, c122, a123, c124, a125, c126, a127, c128, a129, c130⟩ -
    refine JA.next ⟨rfl, rfl, rfl, rfl, rfl, rfl, rfl, rfl, trivial⟩ [] rfl (JA.one 5 (by kernel_rfl) (JK.stBox ttOk rfl rfl rfl rfl rfl rfl rfl rfl (JK.boxes (B' := (.new 7 42 (cl42 x0 a5 c6 a9 c10 a13 c14 a17 c18 a21 c22 a25 c26) (.new 8 42 (cl42 (false, 0, ([], 0), 0, 0, 0, 0, 0, 0, 0, [], [], 0, ([], 0), [], 0, ([], 0)) none 0 none 0 none 0 none 0 none 0 none 0) (.new 68 34 [.slice a70 y66.1.length c71, .int .i64 y66.2] (.new 89 42 (cl42 y117 a119 c120 a121 c122 a123 c124 a125 c126 a127 c128 a129 c130) .nil))))) ⟨rfl, rfl, rfl, rfl, rfl, rfl, rfl, rfl, rfl, rfl, rfl, rfl, rfl, rfl, rfl, rfl, trivial⟩ (JA.nextL rfl (JA.done (by kernel_rfl) (JS.boxes (B' := (.new 8 42 (cl42 (false, 0, ([], 0), 0, 0, 0, 0, 0, 0, 0, [], [], 0, ([], 0), [], 0, ([], 0)) none 0 none 0 none 0 none 0 none 0 none 0) (.new 89 42 (cl42 y117 a119 c120 a121 c122 a123 c124 a125 c126 a127 c128 a129 c130) .nil))) ⟨rfl, rfl, rfl, rfl, rfl, rfl, rfl, rfl, trivial⟩ ?_))))))
    obtain ⟨j149, hj156, h⟩ := joinO_some h
    refine JS.seqJ (ι := Bool × Int × Int × Int × Int × Int × Int × Int × Int × Int × Int × Int × Int × Int) ⟨fun z => j149 (z.1, z.2.1, z.2.2.1, z.2.2.2.1, z.2.2.2.2.1, z.2.2.2.2.2.1, z.2.2.2.2.2.2.1, z.2.2.2.2.2.2.2.1, z.2.2.2.2.2.2.2.2.1, z.2.2.2.2.2.2.2.2.2.1, z.2.2.2.2.2.2.2.2.2.2.1, z.2.2.2.2.2.2.2.2.2.2.2.1, z.2.2.2.2.2.2.2.2.2.2.2.2.1, z.2.2.2.2.2.2.2.2.2.2.2.2.2) = some r, fun z => [(8, .bp 8 0), (13, .bp 89 0)], fun z => (.new 8 42 (cl42 (false, 0, ([], 0), 0, 0, 0, 0, 0, 0, 0, [], [], 0, ([], 0), [], 0, ([], 0)) none 0 none 0 none 0 none 0 none 0 none 0) (.new 89 42 (cl42 (z.1, z.2.1, (y117.2.2.1.1, z.2.2.1), z.2.2.2.1, z.2.2.2.2.1, z.2.2.2.2.2.1, z.2.2.2.2.2.2.1, z.2.2.2.2.2.2.2.1, z.2.2.2.2.2.2.2.2.1, z.2.2.2.2.2.2.2.2.2.1, y117.2.2.2.2.2.2.2.2.2.2.1, y117.2.2.2.2.2.2.2.2.2.2.2.1, z.2.2.2.2.2.2.2.2.2.2.1, (y117.2.2.2.2.2.2.2.2.2.2.2.2.2.1.1, z.2.2.2.2.2.2.2.2.2.2.2.1), y117.2.2.2.2.2.2.2.2.2.2.2.2.2.2.1, z.2.2.2.2.2.2.2.2.2.2.2.2.1, (y117.2.2.2.2.2.2.2.2.2.2.2.2.2.2.2.2.1, z.2.2.2.2.2.2.2.2.2.2.2.2.2)) a119 c120 a121 c122 a123 c124 a125 c126 a127 c128 a129 c130) .nil)), fun z => [], fun z => [⟨(.int .i64), ⟨a119, y117.2.2.1.1.length, c120⟩, y117.2.2.1.1⟩, ⟨(.sl (.int .i64)), ⟨a121, y117.2.2.2.2.2.2.2.2.2.2.1.length, c122⟩, y117.2.2.2.2.2.2.2.2.2.2.1⟩, ⟨(.pair (.sl (.int .i64)) (.int .i64)), ⟨a123, y117.2.2.2.2.2.2.2.2.2.2.2.1.length, c124⟩, y117.2.2.2.2.2.2.2.2.2.2.2.1⟩, ⟨(.int .i64), ⟨a125, y117.2.2.2.2.2.2.2.2.2.2.2.2.2.1.1.length, c126⟩, y117.2.2.2.2.2.2.2.2.2.2.2.2.2.1.1⟩, ⟨(.int .i64), ⟨a127, y117.2.2.2.2.2.2.2.2.2.2.2.2.2.2.1.length, c128⟩, y117.2.2.2.2.2.2.2.2.2.2.2.2.2.2.1⟩, ⟨(.int .i64), ⟨a129, y117.2.2.2.2.2.2.2.2.2.2.2.2.2.2.2.2.1.length, c130⟩, y117.2.2.2.2.2.2.2.2.2.2.2.2.2.2.2.2.1⟩], fun z => 0⟩ ?_ ?_
    · refine JS.seq (JS.norm [true, true, true, true, true, true, false, false, false, false, false, false, false, false, false, false] [⟨(.int .i64), ⟨a5, x0.2.2.1.1.length, c6⟩, x0.2.2.1.1⟩, ⟨(.sl (.int .i64)), ⟨a9, x0.2.2.2.2.2.2.2.2.2.2.1.length, c10⟩, x0.2.2.2.2.2.2.2.2.2.2.1⟩, ⟨(.pair (.sl (.int .i64)) (.int .i64)), ⟨a13, x0.2.2.2.2.2.2.2.2.2.2.2.1.length, c14⟩, x0.2.2.2.2.2.2.2.2.2.2.2.1⟩, ⟨(.int .i64), ⟨a17, x0.2.2.2.2.2.2.2.2.2.2.2.2.2.1.1.length, c18⟩, x0.2.2.2.2.2.2.2.2.2.2.2.2.2.1.1⟩, ⟨(.int .i64), ⟨a21, x0.2.2.2.2.2.2.2.2.2.2.2.2.2.2.1.length, c22⟩, x0.2.2.2.2.2.2.2.2.2.2.2.2.2.2.1⟩, ⟨(.int .i64), ⟨a25, x0.2.2.2.2.2.2.2.2.2.2.2.2.2.2.2.2.1.length, c26⟩, x0.2.2.2.2.2.2.2.2.2.2.2.2.2.2.2.2.1⟩] [⟨(.int .i64), ⟨a119, y117.2.2.1.1.length, c120⟩, y117.2.2.1.1⟩, ⟨(.sl (.int .i64)), ⟨a121, y117.2.2.2.2.2.2.2.2.2.2.1.length, c122⟩, y117.2.2.2.2.2.2.2.2.2.2.1⟩, ⟨(.pair (.sl (.int .i64)) (.int .i64)), ⟨a123, y117.2.2.2.2.2.2.2.2.2.2.2.1.length, c124⟩, y117.2.2.2.2.2.2.2.2.2.2.2.1⟩, ⟨(.int .i64), ⟨a125, y117.2.2.2.2.2.2.2.2.2.2.2.2.2.1.1.length, c126⟩, y117.2.2.2.2.2.2.2.2.2.2.2.2.2.1.1⟩, ⟨(.int .i64), ⟨a127, y117.2.2.2.2.2.2.2.2.2.2.2.2.2.2.1.length, c128⟩, y117.2.2.2.2.2.2.2.2.2.2.2.2.2.2.1⟩, ⟨(.int .i64), ⟨a129, y117.2.2.2.2.2.2.2.2.2.2.2.2.2.2.2.2.1.length, c130⟩, y117.2.2.2.2.2.2.2.2.2.2.2.2.2.2.2.2.1⟩] rfl rfl (JS.region (JO.reg ttOk 2 [] [] [(66, .v (.bool (decide (x1 = 99))))] _ rfl ⟨⟨rfl, trivial⟩, rfl⟩ (JO.done rfl ?_))))
      refine JS.cond rfl (fun ht155 => ?_) (fun ht155 => ?_)
      · have h := condT h ht155
        refine JS.region (JO.reg ttOk 2 [] [] [(67, .v (.agg (cl42 y117 a119 c120 a121 c122 a123 c124 a125 c126 a127 c128 a129 c130).toArray)), (68, .v (.int .i64 x2))] _ rfl ⟨⟨rfl, rfl, trivial⟩, rfl⟩ ?_)
        obtain ⟨y132, hy133, h⟩ := bindO_some h
        refine JO.call rfl rfl rfl rfl (ok_i_typing y117 x2 a119 c120 y117.2.2.1.1.length rfl a121 c122 y117.2.2.2.2.2.2.2.2.2.2.1.length rfl a123 c124 y117.2.2.2.2.2.2.2.2.2.2.2.1.length rfl a125 c126 y117.2.2.2.2.2.2.2.2.2.2.2.2.2.1.1.length rfl a127 c128 y117.2.2.2.2.2.2.2.2.2.2.2.2.2.2.1.length rfl a129 c130 y117.2.2.2.2.2.2.2.2.2.2.2.2.2.2.2.2.1.length rfl _ hy133) rfl [6, 7, 8, 9, 10, 11] rfl rfl fun _ _ => JO.regB ttOk 1 [] [] [] (.new 8 42 (cl42 (false, 0, ([], 0), 0, 0, 0, 0, 0, 0, 0, [], [], 0, ([], 0), [], 0, ([], 0)) none 0 none 0 none 0 none 0 none 0 none 0) (.new 89 42 (cl42 (y132.1, y132.2.1, (y117.2.2.1.1, y132.2.2.1.2), y132.2.2.2.1, y132.2.2.2.2.1, y132.2.2.2.2.2.1, y132.2.2.2.2.2.2.1, y132.2.2.2.2.2.2.2.1, y132.2.2.2.2.2.2.2.2.1, y132.2.2.2.2.2.2.2.2.2.1, y117.2.2.2.2.2.2.2.2.2.2.1, y117.2.2.2.2.2.2.2.2.2.2.2.1, y132.2.2.2.2.2.2.2.2.2.2.2.2.1, (y117.2.2.2.2.2.2.2.2.2.2.2.2.2.1.1, y132.2.2.2.2.2.2.2.2.2.2.2.2.2.1.2), y117.2.2.2.2.2.2.2.2.2.2.2.2.2.2.1, y132.2.2.2.2.2.2.2.2.2.2.2.2.2.2.2.1, (y117.2.2.2.2.2.2.2.2.2.2.2.2.2.2.2.2.1, y132.2.2.2.2.2.2.2.2.2.2.2.2.2.2.2.2.2)) a119 c120 a121 c122 a123 c124 a125 c126 a127 c128 a129 c130) .nil)) rfl ⟨trivial, ⟨rfl, rfl, rfl, rfl, rfl, rfl, rfl, rfl, trivial⟩⟩ (JO.done rfl (JS.endJA (y132.1, y132.2.1, y132.2.2.1.2, y132.2.2.2.1, y132.2.2.2.2.1, y132.2.2.2.2.2.1, y132.2.2.2.2.2.2.1, y132.2.2.2.2.2.2.2.1, y132.2.2.2.2.2.2.2.2.1, y132.2.2.2.2.2.2.2.2.2.1, y132.2.2.2.2.2.2.2.2.2.2.2.2.1, y132.2.2.2.2.2.2.2.2.2.2.2.2.2.1.2, y132.2.2.2.2.2.2.2.2.2.2.2.2.2.2.2.1, y132.2.2.2.2.2.2.2.2.2.2.2.2.2.2.2.2.2) h ⟨rfl, rfl, trivial⟩ ⟨rfl, rfl, rfl, rfl, rfl, rfl, rfl, rfl, trivial⟩ [] rfl [0, 1, 2, 3, 4, 5] rfl rfl))
      have h := condF h ht155
      refine JS.skip (JS.endJA (y117.1, y117.2.1, y117.2.2.1.2, y117.2.2.2.1, y117.2.2.2.2.1, y117.2.2.2.2.2.1, y117.2.2.2.2.2.2.1, y117.2.2.2.2.2.2.2.1, y117.2.2.2.2.2.2.2.2.1, y117.2.2.2.2.2.2.2.2.2.1, y117.2.2.2.2.2.2.2.2.2.2.2.2.1, y117.2.2.2.2.2.2.2.2.2.2.2.2.2.1.2, y117.2.2.2.2.2.2.2.2.2.2.2.2.2.2.2.1, y117.2.2.2.2.2.2.2.2.2.2.2.2.2.2.2.2.2) h ⟨rfl, rfl, trivial⟩ ⟨rfl, rfl, rfl, rfl, rfl, rfl, rfl, rfl, trivial⟩ [] rfl [0, 1, 2, 3, 4, 5] rfl rfl)
    rintro ⟨x135, x136, x137, x138, x139, x140, x141, x142, x143, x144, x145, x146, x147, x148⟩ h
    subst hj156
    refine JS.seq (JS.region (JO.regB ttOk 3 [] [] [(9, .v (.int .i64 0))] (.new 8 42 (cl42 (x135, x136, (y117.2.2.1.1, x137), x138, x139, x140, x141, x142, x143, x144, y117.2.2.2.2.2.2.2.2.2.2.1, y117.2.2.2.2.2.2.2.2.2.2.2.1, x145, (y117.2.2.2.2.2.2.2.2.2.2.2.2.2.1.1, x146), y117.2.2.2.2.2.2.2.2.2.2.2.2.2.2.1, x147, (y117.2.2.2.2.2.2.2.2.2.2.2.2.2.2.2.2.1, x148)) a119 c120 a121 c122 a123 c124 a125 c126 a127 c128 a129 c130) .nil) rfl ⟨⟨rfl, trivial⟩, ⟨rfl, rfl, rfl, rfl, trivial⟩⟩ (JO.done rfl ?_)))
    cases h
    exact JS.ret ttOk (a119, c120, a121, c122, a123, c124, a125, c126, a127, c128, a129, c130) trivial rfl rfl [0, 0, 0, 0, 0, 0] rfl

def M_i_Change (x0 : Bool × Int × (List Int × Int) × Int × Int × Int × Int × Int × Int × Int × List (List Int) × (List (List Int × Int)) × Int × (List Int × Int) × List Int × Int × List Int × Int) (x1 : Int) (x2 : Int) (x3 : Int) : Option ((Bool × Int × (List Int × Int) × Int × Int × Int × Int × Int × Int × Int × List (List Int) × (List (List Int × Int)) × Int × (List Int × Int) × List Int × Int × List Int × Int) × Int) :=
  (bindO (M_i_EdOk x0) fun (y29 : Bool) =>
  (callO ((bif (!y29) then true else (!(decide (x0.2.1 = 2)))) = false) (M_i_isAmong x1 ([100, 99, 121] : List UInt8)) false fun (y31 : Bool) =>
  (callO ((bif (bif (!y29) then true else (!(decide (x0.2.1 = 2)))) then true else (!y31)) = false) (M_i_inLine x0.2.2.1 x2 x3) false fun (y34 : Bool) =>
  (bif (bif (bif (bif (!y29) then true else (!(decide (x0.2.1 = 2)))) then true else (!y31)) then true else (!y34)) then
  some ((false, 0, ([], 0), 0, 0, 0, 0, 0, 0, 0, [], [], 0, ([], 0), [], 0, ([], 0)), 0)
  else
  (bindO (M_i_change x0 x1 x2 x3) fun (y37, y38) =>
  some (y37, y38))))))

theorem ok_i_Change (x0 : Bool × Int × (List Int × Int) × Int × Int × Int × Int × Int × Int × Int × List (List Int) × (List (List Int × Int)) × Int × (List Int × Int) × List Int × Int × List Int × Int) (x1 : Int) (x2 : Int) (x3 : Int) (a5 : Option Addr) (c6 : Nat) (l7 : Nat) (hl8 : x0.2.2.1.1.length = l7) (a9 : Option Addr) (c10 : Nat) (l11 : Nat) (hl12 : x0.2.2.2.2.2.2.2.2.2.2.1.length = l11) (a13 : Option Addr) (c14 : Nat) (l15 : Nat) (hl16 : x0.2.2.2.2.2.2.2.2.2.2.2.1.length = l15) (a17 : Option Addr) (c18 : Nat) (l19 : Nat) (hl20 : x0.2.2.2.2.2.2.2.2.2.2.2.2.2.1.1.length = l19) (a21 : Option Addr) (c22 : Nat) (l23 : Nat) (hl24 : x0.2.2.2.2.2.2.2.2.2.2.2.2.2.2.1.length = l23) (a25 : Option Addr) (c26 : Nat) (l27 : Nat) (hl28 : x0.2.2.2.2.2.2.2.2.2.2.2.2.2.2.2.2.1.length = l27) (r : (Bool × Int × (List Int × Int) × Int × Int × Int × Int × Int × Int × Int × List (List Int) × (List (List Int × Int)) × Int × (List Int × Int) × List Int × Int × List Int × Int) × Int) (h : M_i_Change x0 x1 x2 x3 = some r) :
    FC Tryz.prog 15 [.agg #[.bool x0.1, .int .i64 x0.2.1, .slice a5 l7 c6, .int .i64 x0.2.2.1.2, .int .i64 x0.2.2.2.1, .int .i64 x0.2.2.2.2.1, .int .i64 x0.2.2.2.2.2.1, .int .i64 x0.2.2.2.2.2.2.1, .int .i64 x0.2.2.2.2.2.2.2.1, .int .i64 x0.2.2.2.2.2.2.2.2.1, .int .i64 x0.2.2.2.2.2.2.2.2.2.1, .slice a9 l11 c10, .slice a13 l15 c14, .int .i64 x0.2.2.2.2.2.2.2.2.2.2.2.2.1, .slice a17 l19 c18, .int .i64 x0.2.2.2.2.2.2.2.2.2.2.2.2.2.1.2, .slice a21 l23 c22, .int .i64 x0.2.2.2.2.2.2.2.2.2.2.2.2.2.2.2.1, .slice a25 l27 c26, .int .i64 x0.2.2.2.2.2.2.2.2.2.2.2.2.2.2.2.2.2], .int .i64 x1, .int .i64 x2, .int .i64 x3] [⟨(.int .i64), ⟨a5, l7, c6⟩, x0.2.2.1.1⟩, ⟨(.sl (.int .i64)), ⟨a9, l11, c10⟩, x0.2.2.2.2.2.2.2.2.2.2.1⟩, ⟨(.pair (.sl (.int .i64)) (.int .i64)), ⟨a13, l15, c14⟩, x0.2.2.2.2.2.2.2.2.2.2.2.1⟩, ⟨(.int .i64), ⟨a17, l19, c18⟩, x0.2.2.2.2.2.2.2.2.2.2.2.2.2.1.1⟩, ⟨(.int .i64), ⟨a21, l23, c22⟩, x0.2.2.2.2.2.2.2.2.2.2.2.2.2.2.1⟩, ⟨(.int .i64), ⟨a25, l27, c26⟩, x0.2.2.2.2.2.2.2.2.2.2.2.2.2.2.2.2.1⟩] (fun _ : Option Addr × Nat × Option Addr × Nat × Option Addr × Nat × Option Addr × Nat × Option Addr × Nat × Option Addr × Nat => True) (fun q => .tuple #[.agg (cl42 r.1 q.1 q.2.1 q.2.2.1 q.2.2.2.1 q.2.2.2.2.1 q.2.2.2.2.2.1 q.2.2.2.2.2.2.1 q.2.2.2.2.2.2.2.1 q.2.2.2.2.2.2.2.2.1 q.2.2.2.2.2.2.2.2.2.1 q.2.2.2.2.2.2.2.2.2.2.1 q.2.2.2.2.2.2.2.2.2.2.2).toArray, .int .i64 r.2]) (fun q => [⟨(.int .i64), ⟨q.1, r.1.2.2.1.1.length, q.2.1⟩, r.1.2.2.1.1⟩, ⟨(.sl (.int .i64)), ⟨q.2.2.1, r.1.2.2.2.2.2.2.2.2.2.2.1.length, q.2.2.2.1⟩, r.1.2.2.2.2.2.2.2.2.2.2.1⟩, ⟨(.pair (.sl (.int .i64)) (.int .i64)), ⟨q.2.2.2.2.1, r.1.2.2.2.2.2.2.2.2.2.2.2.1.length, q.2.2.2.2.2.1⟩, r.1.2.2.2.2.2.2.2.2.2.2.2.1⟩, ⟨(.int .i64), ⟨q.2.2.2.2.2.2.1, r.1.2.2.2.2.2.2.2.2.2.2.2.2.2.1.1.length, q.2.2.2.2.2.2.2.1⟩, r.1.2.2.2.2.2.2.2.2.2.2.2.2.2.1.1⟩, ⟨(.int .i64), ⟨q.2.2.2.2.2.2.2.2.1, r.1.2.2.2.2.2.2.2.2.2.2.2.2.2.2.1.length, q.2.2.2.2.2.2.2.2.2.1⟩, r.1.2.2.2.2.2.2.2.2.2.2.2.2.2.2.1⟩, ⟨(.int .i64), ⟨q.2.2.2.2.2.2.2.2.2.2.1, r.1.2.2.2.2.2.2.2.2.2.2.2.2.2.2.2.2.1.length, q.2.2.2.2.2.2.2.2.2.2.2⟩, r.1.2.2.2.2.2.2.2.2.2.2.2.2.2.2.2.2.1⟩]) :=
  by
    subst hl8
    subst hl12
    subst hl16
    subst hl20
    subst hl24
    subst hl28
    refine FC.of (T := TTx) Tryz.call15 Tryz.func15 rfl rfl fun w0 => ?_
    unfold M_i_Change at h
    refine JS.seq (JS.region (JO.regB ttOk 3 [] [7, 8] [(4, .bp 7 0), (8, .bp 8 0)] (.new 7 42 (cl42 x0 a5 c6 a9 c10 a13 c14 a17 c18 a21 c22 a25 c26) (.new 8 42 (cl42 (false, 0, ([], 0), 0, 0, 0, 0, 0, 0, 0, [], [], 0, ([], 0), [], 0, ([], 0)) none 0 none 0 none 0 none 0 none 0 none 0) .nil)) rfl ⟨⟨rfl, rfl, trivial⟩, ⟨rfl, rfl, rfl, rfl, rfl, rfl, rfl, rfl, trivial⟩⟩ (JO.done rfl (JS.seq (JS.seq (JS.region (JO.reg ttOk 1 [] [] [(10, .v (.agg (cl42 x0 a5 c6 a9 c10 a13 c14 a17 c18 a21 c22 a25 c26).toArray))] _ rfl ⟨⟨rfl, trivial⟩, rfl⟩ ?_)))))))
    obtain ⟨y29, hy30, h⟩ := bindO_some h
    refine JO.call rfl rfl rfl rfl (ok_i_EdOk x0 a5 c6 x0.2.2.1.1.length rfl a9 c10 x0.2.2.2.2.2.2.2.2.2.2.1.length rfl a13 c14 x0.2.2.2.2.2.2.2.2.2.2.2.1.length rfl a17 c18 x0.2.2.2.2.2.2.2.2.2.2.2.2.2.1.1.length rfl a21 c22 x0.2.2.2.2.2.2.2.2.2.2.2.2.2.2.1.length rfl a25 c26 x0.2.2.2.2.2.2.2.2.2.2.2.2.2.2.2.2.1.length rfl _ hy30) rfl [0, 1, 2, 3, 4, 5] rfl rfl fun _ _ => JO.reg ttOk 8 [] [] [(18, .v (.bool (bif (!y29) then true else (!(decide (x0.2.1 = 2)))))), (19, .cd [(18, false)] (.v (.int .i64 x1)))] _ rfl ⟨⟨rfl, rfl, trivial⟩, rfl⟩ ?_
    obtain ⟨y31, hy32, -, h⟩ := callO_some h
    refine JO.callg rfl rfl rfl rfl (fun q53 => ok_i_isAmong x1 ([100, 99, 121] : List UInt8) _ (hy32 q53)) rfl [] rfl rfl (JO.reg ttOk 7 [] [] [(23, .v (.bool (bif (bif (!y29) then true else (!(decide (x0.2.1 = 2)))) then true else (!y31)))), (25, .cd [(23, false)] (.v (.agg #[.slice a5 x0.2.2.1.1.length c6, .int .i64 x0.2.2.1.2]))), (26, .cd [(23, false)] (.v (.int .i64 x2))), (27, .cd [(23, false)] (.v (.int .i64 x3)))] _ rfl ⟨⟨rfl, rfl, rfl, rfl, trivial⟩, rfl⟩ ?_)
    obtain ⟨y34, hy35, -, h⟩ := callO_some h
    refine JO.callg rfl rfl rfl rfl (fun q54 => ok_i_inLine x0.2.2.1 x2 x3 a5 c6 x0.2.2.1.1.length rfl _ (hy35 q54)) rfl [0] rfl rfl (JO.reg ttOk 2 [] [] [(30, .v (.bool (bif (bif (bif (!y29) then true else (!(decide (x0.2.1 = 2)))) then true else (!y31)) then true else (!y34))))] _ rfl ⟨⟨rfl, trivial⟩, rfl⟩ (JO.done rfl ?_))
    refine JS.cond rfl (fun ht55 => ?_) (fun ht55 => ?_)
    · have h := condT h ht55
      refine JS.seq (JS.region (JO.regB ttOk 3 [] [] [(9, .v (.int .i64 0))] (.new 8 42 (cl42 (false, 0, ([], 0), 0, 0, 0, 0, 0, 0, 0, [], [], 0, ([], 0), [], 0, ([], 0)) none 0 none 0 none 0 none 0 none 0 none 0) .nil) rfl ⟨⟨rfl, trivial⟩, ⟨rfl, rfl, rfl, rfl, trivial⟩⟩ (JO.done rfl ?_)))
      cases h
      refine JS.nilO (.int .i64) Sl.nil rfl rfl (JS.nilO (.sl (.int .i64)) Sl.nil rfl rfl (JS.nilO (.pair (.sl (.int .i64)) (.int .i64)) Sl.nil rfl rfl (JS.nilO (.int .i64) Sl.nil rfl rfl (JS.nilO (.int .i64) Sl.nil rfl rfl (JS.nilO (.int .i64) Sl.nil rfl rfl (JS.ret ttOk (none, 0, none, 0, none, 0, none, 0, none, 0, none, 0) trivial rfl rfl [5, 4, 3, 2, 1, 0] rfl))))))
    have h := condF h ht55
    refine JS.skip (JS.seq (JS.region (JO.reg ttOk 4 [] [] [(32, .v (.agg (cl42 x0 a5 c6 a9 c10 a13 c14 a17 c18 a21 c22 a25 c26).toArray)), (33, .v (.int .i64 x1)), (34, .v (.int .i64 x2)), (35, .v (.int .i64 x3))] _ rfl ⟨⟨rfl, rfl, rfl, rfl, trivial⟩, rfl⟩ ?_)))
    obtain ⟨⟨y37, y38⟩, hy39, h⟩ := bindO_some h
    refine JO.call rfl rfl rfl rfl (ok_i_change x0 x1 x2 x3 a5 c6 x0.2.2.1.1.length rfl a9 c10 x0.2.2.2.2.2.2.2.2.2.2.1.length rfl a13 c14 x0.2.2.2.2.2.2.2.2.2.2.2.1.length rfl a17 c18 x0.2.2.2.2.2.2.2.2.2.2.2.2.2.1.1.length rfl a21 c22 x0.2.2.2.2.2.2.2.2.2.2.2.2.2.2.1.length rfl a25 c26 x0.2.2.2.2.2.2.2.2.2.2.2.2.2.2.2.2.1.length rfl _ hy39) rfl [0, 1, 2, 3, 4, 5] rfl rfl ?_
    rintro ⟨a40, c41, a42, c43, a44, c45, a46, c47, a48, c49, a50, c51⟩ -
    refine JO.regB ttOk 4 [] [] [(9, .v (.int .i64 y38))] (.new 8 42 (cl42 y37 a40 c41 a42 c43 a44 c45 a46 c47 a48 c49 a50 c51) .nil) rfl ⟨⟨rfl, trivial⟩, ⟨rfl, rfl, rfl, rfl, trivial⟩⟩ (JO.done rfl ?_)
    cases h
    exact JS.ret ttOk (a40, c41, a42, c43, a44, c45, a46, c47, a48, c49, a50, c51) trivial rfl rfl [0, 0, 0, 0, 0, 0] rfl

def M_l_eqIntS_L1 (x0 : List Int) (x1 : List Int) (j28 : Unit → Option Bool) (k20 : Int → Option Bool) : Int → Option Bool := fun x11 =>
  (bif (decide (x11 < (x0.length : Int))) then
  (guardO (0 ≤ x11 ∧ x11 < (x0.length : Int)) <|
  (guardO (0 ≤ x11 ∧ x11 < (x1.length : Int)) <|
  (bif (!(decide ((at' x0 x11) = (at' x1 x11)))) then
  some false
  else
  k20 (W (x11 + 1)))))
  else
  j28 ())

def M_l_eqIntS (x0 : List Int) (x1 : List Int) : Option Bool :=
  (bif (!(decide ((x0.length : Int) = (x1.length : Int)))) then
  some false
  else
  (joinO (fun (_ : Unit) =>
  some true) fun j28 =>
  (fixF (M_l_eqIntS_L1 x0 x1 j28) FUEL 0)))

theorem ok_l_eqIntS (x0 : List Int) (x1 : List Int) (a3 : Option Addr) (c4 : Nat) (l5 : Nat) (hl6 : x0.length = l5) (a7 : Option Addr) (c8 : Nat) (l9 : Nat) (hl10 : x1.length = l9) (r : Bool) (h : M_l_eqIntS x0 x1 = some r) :
    FC Tryz.prog 28 [.slice a3 l5 c4, .slice a7 l9 c8] [⟨(.int .i64), ⟨a3, l5, c4⟩, x0⟩, ⟨(.int .i64), ⟨a7, l9, c8⟩, x1⟩] (fun _ : Unit => True) (fun _ => .bool r) (fun _ => []) :=
  by
    subst hl6
    subst hl10
    refine FC.of (T := TTx) Tryz.call28 Tryz.func28 rfl rfl fun w0 => ?_
    unfold M_l_eqIntS at h
    refine JS.seq (JS.region (JO.reg ttOk 1 [] [] [] _ rfl ⟨trivial, rfl⟩ (JO.done rfl (JS.seq (JS.seq (JS.region (JO.reg ttOk 5 [] [] [(10, .v (.bool (!(decide ((x0.length : Int) = (x1.length : Int))))))] _ rfl ⟨⟨rfl, trivial⟩, rfl⟩ (JO.done rfl ?_))))))))
    refine JS.cond rfl (fun ht44 => ?_) (fun ht44 => ?_)
    · have h := condT h ht44
      refine JS.seq (JS.region (JO.reg ttOk 1 [] [] [(4, .v (.bool false))] _ rfl ⟨⟨rfl, trivial⟩, rfl⟩ (JO.done rfl ?_)))
      cases h
      exact JS.ret ttOk () trivial rfl rfl [] rfl
    have h := condF h ht44
    refine JS.skip (JS.seq (JS.seq (JS.region (JO.reg ttOk 1 [] [] [(5, .v (.int .i64 0))] _ rfl ⟨⟨rfl, trivial⟩, rfl⟩ (JO.done rfl ?_)))))
    obtain ⟨j28, hj43, h⟩ := joinO_some h
    refine JS.blockJ (ι := Unit) ⟨fun _ => j28 () = some r, fun _ => [], fun _ => .nil, fun _ => [], fun _ => [], fun _ => 0⟩ ?_ ?_
    · refine JS.loop (ι := Nat × Int) ⟨fun z => fixF (M_l_eqIntS_L1 x0 x1 j28) z.1 z.2 = some r, fun z => [(0, .v (.slice a3 x0.length c4)), (1, .v (.slice a7 x1.length c8)), (5, .v (.int .i64 z.2))], fun z => .nil, fun z => [⟨(.int .i64), ⟨a3, x0.length, c4⟩, x0⟩, ⟨(.int .i64), ⟨a7, x1.length, c8⟩, x1⟩], fun z => [], fun z => z.1⟩ (FUEL, 0) h ⟨rfl, rfl, rfl, trivial⟩ trivial [0, 1] rfl [] rfl ?_
      rintro ⟨n21, x11⟩ h
      obtain ⟨n21, rfl, h⟩ := fixF_some h
      rw [M_l_eqIntS_L1] at h
      refine JS.seq (JS.seq (JS.region (JO.reg ttOk 4 [] [] [(14, .v (.bool (decide (x11 < (x0.length : Int)))))] _ rfl ⟨⟨rfl, trivial⟩, rfl⟩ (JO.done rfl ?_))))
      refine JS.cond rfl (fun ht42 => ?_) (fun ht42 => ?_)
      · have h := condT h ht42
        refine JS.skip (JS.seq (JS.block (JS.seq ?_)))
        obtain ⟨g13, h⟩ := guardO_some h
        obtain ⟨g15, h⟩ := guardO_some h
        refine JS.know 0 rfl fun hs39 => JS.know 1 rfl fun hs40 => JS.regionQ rfl (by kernel_rfl) (JQ.reg ttOk 3 [] [(19, .ep ⟨a3, x0.length, c4⟩ (Int.toNat x11 * 1))] rfl ⟨hs39.ix g13, ⟨rfl, trivial⟩⟩ (JQ.load ttOk rfl rfl rfl rfl rfl rfl rfl 0 rfl rfl (Int.toNat x11) 0 (at' x0 x11) ⟨at_some g13, rfl⟩ rfl rfl (JQ.reg ttOk 3 [] [(23, .ep ⟨a7, x1.length, c8⟩ (Int.toNat x11 * 1))] rfl ⟨hs40.ix g15, ⟨rfl, trivial⟩⟩ (JQ.load ttOk rfl rfl rfl rfl rfl rfl rfl 1 rfl rfl (Int.toNat x11) 0 (at' x1 x11) ⟨at_some g15, rfl⟩ rfl rfl (JQ.reg ttOk 1 [] [(25, .v (.bool (!(decide ((at' x0 x11) = (at' x1 x11))))))] rfl ⟨rfl, trivial⟩ (JQ.done rfl ?_))))))
        refine JS.cond rfl (fun ht41 => ?_) (fun ht41 => ?_)
        · have h := condT h ht41
          refine JS.seq (JS.region (JO.reg ttOk 1 [] [] [(4, .v (.bool false))] _ rfl ⟨⟨rfl, trivial⟩, rfl⟩ (JO.done rfl ?_)))
          cases h
          exact JS.ret ttOk () trivial rfl rfl [] rfl
        have h := condF h ht41
        refine JS.skip (JS.endB (JS.region (JO.reg ttOk 3 [(W (x11 + 1))] [] [(5, .v (.int .i64 (W (x11 + 1))))] _ rfl ⟨⟨trivial, rfl⟩, ⟨rfl, trivial⟩, rfl⟩ (JO.done rfl (JS.endL (n21, (W (x11 + 1))) h (Nat.lt_succ_self _) ⟨rfl, rfl, rfl, trivial⟩ trivial [0, 1] rfl [] rfl)))))
      have h := condF h ht42
      refine JS.exit rfl (JS.endJ () h trivial trivial [] rfl [] rfl)
    rintro _ h
    subst hj43
    refine JS.seq (JS.region (JO.reg ttOk 1 [] [] [(4, .v (.bool true))] _ rfl ⟨⟨rfl, trivial⟩, rfl⟩ (JO.done rfl ?_)))
    cases h
    exact JS.ret ttOk () trivial rfl rfl [] rfl

def M_l_eqLine (x0 : List Int × Int) (x1 : List Int × Int) : Option Bool :=
  (bindO (M_l_eqIntS x0.1 x1.1) fun (y11 : Bool) =>
  (bif (!y11) then
  some false
  else
  (bif (!(decide (x0.2 = x1.2))) then
  some false
  else
  some true)))

theorem ok_l_eqLine (x0 : List Int × Int) (x1 : List Int × Int) (a3 : Option Addr) (c4 : Nat) (l5 : Nat) (hl6 : x0.1.length = l5) (a7 : Option Addr) (c8 : Nat) (l9 : Nat) (hl10 : x1.1.length = l9) (r : Bool) (h : M_l_eqLine x0 x1 = some r) :
    FC Tryz.prog 67 [.agg #[.slice a3 l5 c4, .int .i64 x0.2], .agg #[.slice a7 l9 c8, .int .i64 x1.2]] [⟨(.int .i64), ⟨a3, l5, c4⟩, x0.1⟩, ⟨(.int .i64), ⟨a7, l9, c8⟩, x1.1⟩] (fun _ : Unit => True) (fun _ => .bool r) (fun _ => []) :=
  by
    subst hl6
    subst hl10
    refine FC.of (T := TTx) Tryz.call67 Tryz.func67 rfl rfl fun w0 => ?_
    unfold M_l_eqLine at h
    refine JS.seq (JS.region (JO.regB ttOk 3 [] [3, 4] [(2, .bp 3 0), (3, .bp 4 0)] (.new 3 34 [.slice a3 x0.1.length c4, .int .i64 x0.2] (.new 4 34 [.slice a7 x1.1.length c8, .int .i64 x1.2] .nil)) rfl ⟨⟨rfl, rfl, trivial⟩, ⟨rfl, rfl, rfl, rfl, rfl, rfl, rfl, rfl, trivial⟩⟩ (JO.done rfl (JS.seq (JS.seq (JS.region (JO.reg ttOk 4 [] [] [(6, .v (.slice a3 x0.1.length c4)), (8, .v (.slice a7 x1.1.length c8))] _ rfl ⟨⟨rfl, rfl, trivial⟩, rfl⟩ ?_)))))))
    obtain ⟨y11, hy12, h⟩ := bindO_some h
    refine JO.call rfl rfl rfl rfl (ok_l_eqIntS x0.1 x1.1 a3 c4 x0.1.length rfl a7 c8 x1.1.length rfl _ hy12) rfl [0, 1] rfl rfl fun _ _ => JO.reg ttOk 1 [] [] [(10, .v (.bool (!y11)))] _ rfl ⟨⟨rfl, trivial⟩, rfl⟩ (JO.done rfl ?_)
    refine JS.cond rfl (fun ht16 => ?_) (fun ht16 => ?_)
    · have h := condT h ht16
      refine JS.seq (JS.region (JO.reg ttOk 1 [] [] [(4, .v (.bool false))] _ rfl ⟨⟨rfl, trivial⟩, rfl⟩ (JO.done rfl ?_)))
      cases h
      exact JS.ret ttOk () trivial rfl rfl [] rfl
    have h := condF h ht16
    refine JS.skip (JS.seq (JS.seq (JS.region (JO.reg ttOk 5 [] [] [(15, .v (.bool (!(decide (x0.2 = x1.2)))))] _ rfl ⟨⟨rfl, trivial⟩, rfl⟩ (JO.done rfl ?_)))))
    refine JS.cond rfl (fun ht15 => ?_) (fun ht15 => ?_)
    · have h := condT h ht15
      refine JS.seq (JS.region (JO.reg ttOk 1 [] [] [(4, .v (.bool false))] _ rfl ⟨⟨rfl, trivial⟩, rfl⟩ (JO.done rfl ?_)))
      cases h
      exact JS.ret ttOk () trivial rfl rfl [] rfl
    have h := condF h ht15
    refine JS.skip (JS.seq (JS.region (JO.reg ttOk 1 [] [] [(4, .v (.bool true))] _ rfl ⟨⟨rfl, trivial⟩, rfl⟩ (JO.done rfl ?_))))
    cases h
    exact JS.ret ttOk () trivial rfl rfl [] rfl

def M_l_eqPiece (x0 : List Int) (x1 : List Int) : Option Bool :=
  (bindO (M_l_eqIntS x0 x1) fun (y11 : Bool) =>
  (bif (!y11) then
  some false
  else
  some true))

theorem ok_l_eqPiece (x0 : List Int) (x1 : List Int) (a3 : Option Addr) (c4 : Nat) (l5 : Nat) (hl6 : x0.length = l5) (a7 : Option Addr) (c8 : Nat) (l9 : Nat) (hl10 : x1.length = l9) (r : Bool) (h : M_l_eqPiece x0 x1 = some r) :
    FC Tryz.prog 247 [.agg #[.slice a3 l5 c4], .agg #[.slice a7 l9 c8]] [⟨(.int .i64), ⟨a3, l5, c4⟩, x0⟩, ⟨(.int .i64), ⟨a7, l9, c8⟩, x1⟩] (fun _ : Unit => True) (fun _ => .bool r) (fun _ => []) :=
  by
    subst hl6
    subst hl10
    refine FC.of (T := TTx) Tryz.call247 Tryz.func247 rfl rfl fun w0 => ?_
    unfold M_l_eqPiece at h
    refine JS.seq (JS.region (JO.regB ttOk 3 [] [3, 4] [(2, .bp 3 0), (3, .bp 4 0)] (.new 3 159 [.slice a3 x0.length c4] (.new 4 159 [.slice a7 x1.length c8] .nil)) rfl ⟨⟨rfl, rfl, trivial⟩, ⟨rfl, rfl, rfl, rfl, rfl, rfl, rfl, rfl, trivial⟩⟩ (JO.done rfl (JS.seq (JS.seq (JS.region (JO.reg ttOk 4 [] [] [(6, .v (.slice a3 x0.length c4)), (8, .v (.slice a7 x1.length c8))] _ rfl ⟨⟨rfl, rfl, trivial⟩, rfl⟩ ?_)))))))
    obtain ⟨y11, hy12, h⟩ := bindO_some h
    refine JO.call rfl rfl rfl rfl (ok_l_eqIntS x0 x1 a3 c4 x0.length rfl a7 c8 x1.length rfl _ hy12) rfl [0, 1] rfl rfl fun _ _ => JO.reg ttOk 1 [] [] [(10, .v (.bool (!y11)))] _ rfl ⟨⟨rfl, trivial⟩, rfl⟩ (JO.done rfl ?_)
    refine JS.cond rfl (fun ht14 => ?_) (fun ht14 => ?_)
    · have h := condT h ht14
      refine JS.seq (JS.region (JO.reg ttOk 1 [] [] [(4, .v (.bool false))] _ rfl ⟨⟨rfl, trivial⟩, rfl⟩ (JO.done rfl ?_)))
      cases h
      exact JS.ret ttOk () trivial rfl rfl [] rfl
    have h := condF h ht14
    refine JS.skip (JS.seq (JS.region (JO.reg ttOk 1 [] [] [(4, .v (.bool true))] _ rfl ⟨⟨rfl, trivial⟩, rfl⟩ (JO.done rfl ?_))))
    cases h
    exact JS.ret ttOk () trivial rfl rfl [] rfl

def M_l_eqPieceS_L1 (x0 : List (List Int)) (x1 : List (List Int)) (j44 : Unit → Option Bool) (k34 : Int → Option Bool) : Int → Option Bool := fun x11 =>
  (bif (decide (x11 < (x0.length : Int))) then
  (guardO (0 ≤ x11 ∧ x11 < (x0.length : Int)) <|
  (guardO (0 ≤ x11 ∧ x11 < (x1.length : Int)) <|
  (bindO (M_l_eqPiece (at' x0 x11) (at' x1 x11)) fun (y26 : Bool) =>
  (bif (!y26) then
  some false
  else
  k34 (W (x11 + 1))))))
  else
  j44 ())

def M_l_eqPieceS (x0 : List (List Int)) (x1 : List (List Int)) : Option Bool :=
  (bif (!(decide ((x0.length : Int) = (x1.length : Int)))) then
  some false
  else
  (joinO (fun (_ : Unit) =>
  some true) fun j44 =>
  (fixF (M_l_eqPieceS_L1 x0 x1 j44) FUEL 0)))

theorem ok_l_eqPieceS (x0 : List (List Int)) (x1 : List (List Int)) (a3 : Option Addr) (c4 : Nat) (l5 : Nat) (hl6 : x0.length = l5) (a7 : Option Addr) (c8 : Nat) (l9 : Nat) (hl10 : x1.length = l9) (r : Bool) (h : M_l_eqPieceS x0 x1 = some r) :
    FC Tryz.prog 168 [.slice a3 l5 c4, .slice a7 l9 c8] [⟨(.sl (.int .i64)), ⟨a3, l5, c4⟩, x0⟩, ⟨(.sl (.int .i64)), ⟨a7, l9, c8⟩, x1⟩] (fun _ : Unit => True) (fun _ => .bool r) (fun _ => []) :=
  by
    subst hl6
    subst hl10
    refine FC.of (T := TTx) Tryz.call168 Tryz.func168 rfl rfl fun w0 => ?_
    unfold M_l_eqPieceS at h
    refine JS.seq (JS.region (JO.reg ttOk 1 [] [] [] _ rfl ⟨trivial, rfl⟩ (JO.done rfl (JS.seq (JS.seq (JS.region (JO.reg ttOk 5 [] [] [(10, .v (.bool (!(decide ((x0.length : Int) = (x1.length : Int))))))] _ rfl ⟨⟨rfl, trivial⟩, rfl⟩ (JO.done rfl ?_))))))))
    refine JS.cond rfl (fun ht64 => ?_) (fun ht64 => ?_)
    · have h := condT h ht64
      refine JS.seq (JS.region (JO.reg ttOk 1 [] [] [(4, .v (.bool false))] _ rfl ⟨⟨rfl, trivial⟩, rfl⟩ (JO.done rfl ?_)))
      cases h
      exact JS.ret ttOk () trivial rfl rfl [] rfl
    have h := condF h ht64
    refine JS.skip (JS.seq (JS.seq (JS.region (JO.reg ttOk 1 [] [] [(5, .v (.int .i64 0))] _ rfl ⟨⟨rfl, trivial⟩, rfl⟩ (JO.done rfl ?_)))))
    obtain ⟨j44, hj63, h⟩ := joinO_some h
    refine JS.blockJ (ι := Unit) ⟨fun _ => j44 () = some r, fun _ => [], fun _ => .nil, fun _ => [], fun _ => [], fun _ => 0⟩ ?_ ?_
    · refine JS.loop (ι := Nat × Int) ⟨fun z => fixF (M_l_eqPieceS_L1 x0 x1 j44) z.1 z.2 = some r, fun z => [(0, .v (.slice a3 x0.length c4)), (1, .v (.slice a7 x1.length c8)), (5, .v (.int .i64 z.2))], fun z => .nil, fun z => [⟨(.sl (.int .i64)), ⟨a3, x0.length, c4⟩, x0⟩, ⟨(.sl (.int .i64)), ⟨a7, x1.length, c8⟩, x1⟩], fun z => [], fun z => z.1⟩ (FUEL, 0) h ⟨rfl, rfl, rfl, trivial⟩ trivial [0, 1] rfl [] rfl ?_
      rintro ⟨n35, x11⟩ h
      obtain ⟨n35, rfl, h⟩ := fixF_some h
      rw [M_l_eqPieceS_L1] at h
      refine JS.seq (JS.seq (JS.region (JO.reg ttOk 4 [] [] [(14, .v (.bool (decide (x11 < (x0.length : Int)))))] _ rfl ⟨⟨rfl, trivial⟩, rfl⟩ (JO.done rfl ?_))))
      refine JS.cond rfl (fun ht62 => ?_) (fun ht62 => ?_)
      · have h := condT h ht62
        refine JS.skip (JS.seq (JS.block (JS.seq ?_)))
        obtain ⟨g13, h⟩ := guardO_some h
        obtain ⟨g20, h⟩ := guardO_some h
        obtain ⟨y26, hy27, h⟩ := bindO_some h
        refine JS.openR 0 rfl (Int.toNat x11) (at' x0 x11) rfl fun a14 c15 ys16 hl17 hy18 => JS.openR 3 rfl (Int.toNat x11) (at' x1 x11) rfl fun a21 c22 ys23 hl24 hy25 => JS.know 4 rfl fun hs59 => JS.know 5 rfl fun hs60 => JS.regionQ rfl (by kernel_rfl) (JQ.reg ttOk 3 [] [(19, .ep ⟨a3, x0.length, c4⟩ (Int.toNat x11 * 1))] rfl ⟨hs59.ix g13, ⟨rfl, trivial⟩⟩ (JQ.loadV ttOk rfl rfl rfl rfl rfl rfl 2 rfl rfl (Int.toNat x11) 0 (Sl.v ⟨a14, (at' x0 x11).length, c15⟩) ⟨hy18 (ltNat g13), rfl⟩ rfl rfl rfl (JQ.reg ttOk 3 [] [(23, .ep ⟨a7, x1.length, c8⟩ (Int.toNat x11 * 1))] rfl ⟨hs60.ix g20, ⟨rfl, trivial⟩⟩ (JQ.loadV ttOk rfl rfl rfl rfl rfl rfl 0 rfl rfl (Int.toNat x11) 0 (Sl.v ⟨a21, (at' x1 x11).length, c22⟩) ⟨hy25 (ltNat g20), rfl⟩ rfl rfl rfl (JQ.call rfl rfl rfl rfl (ok_l_eqPiece (at' x0 x11) (at' x1 x11) a14 c15 ((at' x0 x11).length) rfl a21 c22 ((at' x1 x11).length) rfl _ hy27) rfl [3, 1] rfl rfl (JQ.reg ttOk 1 [] [(26, .v (.bool (!y26)))] rfl ⟨rfl, trivial⟩ (JQ.done rfl ?_)))))))
        refine JS.cond rfl (fun ht61 => ?_) (fun ht61 => ?_)
        · have h := condT h ht61
          refine JS.seq (JS.region (JO.reg ttOk 1 [] [] [(4, .v (.bool false))] _ rfl ⟨⟨rfl, trivial⟩, rfl⟩ (JO.done rfl ?_)))
          cases h
          exact JS.ret ttOk () trivial rfl rfl [] rfl
        have h := condF h ht61
        refine JS.skip (JS.endB (JS.region (JO.reg ttOk 3 [(W (x11 + 1))] [] [(5, .v (.int .i64 (W (x11 + 1))))] _ rfl ⟨⟨trivial, rfl⟩, ⟨rfl, trivial⟩, rfl⟩ (JO.done rfl (JS.endL (n35, (W (x11 + 1))) h (Nat.lt_succ_self _) ⟨rfl, rfl, rfl, trivial⟩ trivial [4, 5] rfl [] rfl)))))
      have h := condF h ht62
      refine JS.exit rfl (JS.endJ () h trivial trivial [] rfl [] rfl)
    rintro _ h
    subst hj63
    refine JS.seq (JS.region (JO.reg ttOk 1 [] [] [(4, .v (.bool true))] _ rfl ⟨⟨rfl, trivial⟩, rfl⟩ (JO.done rfl ?_)))
    cases h
    exact JS.ret ttOk () trivial rfl rfl [] rfl

def M_l_eqRing (x0 : List (List Int)) (x1 : List (List Int)) : Option Bool :=
  (bindO (M_l_eqPieceS x0 x1) fun (y11 : Bool) =>
  (bif (!y11) then
  some false
  else
  some true))

theorem ok_l_eqRing (x0 : List (List Int)) (x1 : List (List Int)) (a3 : Option Addr) (c4 : Nat) (l5 : Nat) (hl6 : x0.length = l5) (a7 : Option Addr) (c8 : Nat) (l9 : Nat) (hl10 : x1.length = l9) (r : Bool) (h : M_l_eqRing x0 x1 = some r) :
    FC Tryz.prog 68 [.agg #[.slice a3 l5 c4], .agg #[.slice a7 l9 c8]] [⟨(.sl (.int .i64)), ⟨a3, l5, c4⟩, x0⟩, ⟨(.sl (.int .i64)), ⟨a7, l9, c8⟩, x1⟩] (fun _ : Unit => True) (fun _ => .bool r) (fun _ => []) :=
  by
    subst hl6
    subst hl10
    refine FC.of (T := TTx) Tryz.call68 Tryz.func68 rfl rfl fun w0 => ?_
    unfold M_l_eqRing at h
    refine JS.seq (JS.region (JO.regB ttOk 3 [] [3, 4] [(2, .bp 3 0), (3, .bp 4 0)] (.new 3 37 [.slice a3 x0.length c4] (.new 4 37 [.slice a7 x1.length c8] .nil)) rfl ⟨⟨rfl, rfl, trivial⟩, ⟨rfl, rfl, rfl, rfl, rfl, rfl, rfl, rfl, trivial⟩⟩ (JO.done rfl (JS.seq (JS.seq (JS.region (JO.reg ttOk 4 [] [] [(6, .v (.slice a3 x0.length c4)), (8, .v (.slice a7 x1.length c8))] _ rfl ⟨⟨rfl, rfl, trivial⟩, rfl⟩ ?_)))))))
    obtain ⟨y11, hy12, h⟩ := bindO_some h
    refine JO.call rfl rfl rfl rfl (ok_l_eqPieceS x0 x1 a3 c4 x0.length rfl a7 c8 x1.length rfl _ hy12) rfl [0, 1] rfl rfl fun _ _ => JO.reg ttOk 1 [] [] [(10, .v (.bool (!y11)))] _ rfl ⟨⟨rfl, trivial⟩, rfl⟩ (JO.done rfl ?_)
    refine JS.cond rfl (fun ht14 => ?_) (fun ht14 => ?_)
    · have h := condT h ht14
      refine JS.seq (JS.region (JO.reg ttOk 1 [] [] [(4, .v (.bool false))] _ rfl ⟨⟨rfl, trivial⟩, rfl⟩ (JO.done rfl ?_)))
      cases h
      exact JS.ret ttOk () trivial rfl rfl [] rfl
    have h := condF h ht14
    refine JS.skip (JS.seq (JS.region (JO.reg ttOk 1 [] [] [(4, .v (.bool true))] _ rfl ⟨⟨rfl, trivial⟩, rfl⟩ (JO.done rfl ?_))))
    cases h
    exact JS.ret ttOk () trivial rfl rfl [] rfl

def M_l_eqLineS_L1 (x0 : List (List Int × Int)) (x1 : List (List Int × Int)) (j44 : Unit → Option Bool) (k34 : Int → Option Bool) : Int → Option Bool := fun x11 =>
  (bif (decide (x11 < (x0.length : Int))) then
  (guardO (0 ≤ x11 ∧ x11 < (x0.length : Int)) <|
  (guardO (0 ≤ x11 ∧ x11 < (x1.length : Int)) <|
  (bindO (M_l_eqLine ((at' x0 x11).1, (at' x0 x11).2) ((at' x1 x11).1, (at' x1 x11).2)) fun (y26 : Bool) =>
  (bif (!y26) then
  some false
  else
  k34 (W (x11 + 1))))))
  else
  j44 ())

def M_l_eqLineS (x0 : List (List Int × Int)) (x1 : List (List Int × Int)) : Option Bool :=
  (bif (!(decide ((x0.length : Int) = (x1.length : Int)))) then
  some false
  else
  (joinO (fun (_ : Unit) =>
  some true) fun j44 =>
  (fixF (M_l_eqLineS_L1 x0 x1 j44) FUEL 0)))

theorem ok_l_eqLineS (x0 : List (List Int × Int)) (x1 : List (List Int × Int)) (a3 : Option Addr) (c4 : Nat) (l5 : Nat) (hl6 : x0.length = l5) (a7 : Option Addr) (c8 : Nat) (l9 : Nat) (hl10 : x1.length = l9) (r : Bool) (h : M_l_eqLineS x0 x1 = some r) :
    FC Tryz.prog 169 [.slice a3 l5 c4, .slice a7 l9 c8] [⟨(.pair (.sl (.int .i64)) (.int .i64)), ⟨a3, l5, c4⟩, x0⟩, ⟨(.pair (.sl (.int .i64)) (.int .i64)), ⟨a7, l9, c8⟩, x1⟩] (fun _ : Unit => True) (fun _ => .bool r) (fun _ => []) :=
  by
    subst hl6
    subst hl10
    refine FC.of (T := TTx) Tryz.call169 Tryz.func169 rfl rfl fun w0 => ?_
    unfold M_l_eqLineS at h
    refine JS.seq (JS.region (JO.reg ttOk 1 [] [] [] _ rfl ⟨trivial, rfl⟩ (JO.done rfl (JS.seq (JS.seq (JS.region (JO.reg ttOk 5 [] [] [(10, .v (.bool (!(decide ((x0.length : Int) = (x1.length : Int))))))] _ rfl ⟨⟨rfl, trivial⟩, rfl⟩ (JO.done rfl ?_))))))))
    refine JS.cond rfl (fun ht64 => ?_) (fun ht64 => ?_)
    · have h := condT h ht64
      refine JS.seq (JS.region (JO.reg ttOk 1 [] [] [(4, .v (.bool false))] _ rfl ⟨⟨rfl, trivial⟩, rfl⟩ (JO.done rfl ?_)))
      cases h
      exact JS.ret ttOk () trivial rfl rfl [] rfl
    have h := condF h ht64
    refine JS.skip (JS.seq (JS.seq (JS.region (JO.reg ttOk 1 [] [] [(5, .v (.int .i64 0))] _ rfl ⟨⟨rfl, trivial⟩, rfl⟩ (JO.done rfl ?_)))))
    obtain ⟨j44, hj63, h⟩ := joinO_some h
    refine JS.blockJ (ι := Unit) ⟨fun _ => j44 () = some r, fun _ => [], fun _ => .nil, fun _ => [], fun _ => [], fun _ => 0⟩ ?_ ?_
    · refine JS.loop (ι := Nat × Int) ⟨fun z => fixF (M_l_eqLineS_L1 x0 x1 j44) z.1 z.2 = some r, fun z => [(0, .v (.slice a3 x0.length c4)), (1, .v (.slice a7 x1.length c8)), (5, .v (.int .i64 z.2))], fun z => .nil, fun z => [⟨(.pair (.sl (.int .i64)) (.int .i64)), ⟨a3, x0.length, c4⟩, x0⟩, ⟨(.pair (.sl (.int .i64)) (.int .i64)), ⟨a7, x1.length, c8⟩, x1⟩], fun z => [], fun z => z.1⟩ (FUEL, 0) h ⟨rfl, rfl, rfl, trivial⟩ trivial [0, 1] rfl [] rfl ?_
      rintro ⟨n35, x11⟩ h
      obtain ⟨n35, rfl, h⟩ := fixF_some h
      rw [M_l_eqLineS_L1] at h
      refine JS.seq (JS.seq (JS.region (JO.reg ttOk 4 [] [] [(14, .v (.bool (decide (x11 < (x0.length : Int)))))] _ rfl ⟨⟨rfl, trivial⟩, rfl⟩ (JO.done rfl ?_))))
      refine JS.cond rfl (fun ht62 => ?_) (fun ht62 => ?_)
      · have h := condT h ht62
        refine JS.skip (JS.seq (JS.block (JS.seq ?_)))
        obtain ⟨g13, h⟩ := guardO_some h
        obtain ⟨g20, h⟩ := guardO_some h
        obtain ⟨y26, hy27, h⟩ := bindO_some h
        refine JS.openR 0 rfl (Int.toNat x11) (at' x0 x11) rfl fun a14 c15 ys16 hl17 hy18 => JS.openR 3 rfl (Int.toNat x11) (at' x1 x11) rfl fun a21 c22 ys23 hl24 hy25 => JS.know 4 rfl fun hs59 => JS.know 5 rfl fun hs60 => JS.regionQ rfl (by kernel_rfl) (JQ.reg ttOk 3 [] [(19, .ep ⟨a3, x0.length, c4⟩ (Int.toNat x11 * 2))] rfl ⟨hs59.ix g13, ⟨rfl, trivial⟩⟩ (JQ.loadV ttOk rfl rfl rfl rfl rfl rfl 2 rfl rfl (Int.toNat x11) 0 ((Sl.v ⟨a14, ((at' x0 x11).1).length, c15⟩), (at' x0 x11).2) ⟨hy18 (ltNat g13), rfl⟩ rfl rfl rfl (JQ.reg ttOk 3 [] [(23, .ep ⟨a7, x1.length, c8⟩ (Int.toNat x11 * 2))] rfl ⟨hs60.ix g20, ⟨rfl, trivial⟩⟩ (JQ.loadV ttOk rfl rfl rfl rfl rfl rfl 0 rfl rfl (Int.toNat x11) 0 ((Sl.v ⟨a21, ((at' x1 x11).1).length, c22⟩), (at' x1 x11).2) ⟨hy25 (ltNat g20), rfl⟩ rfl rfl rfl (JQ.call rfl rfl rfl rfl (ok_l_eqLine ((at' x0 x11).1, (at' x0 x11).2) ((at' x1 x11).1, (at' x1 x11).2) a14 c15 (((at' x0 x11).1).length) rfl a21 c22 (((at' x1 x11).1).length) rfl _ hy27) rfl [3, 1] rfl rfl (JQ.reg ttOk 1 [] [(26, .v (.bool (!y26)))] rfl ⟨rfl, trivial⟩ (JQ.done rfl ?_)))))))
        refine JS.cond rfl (fun ht61 => ?_) (fun ht61 => ?_)
        · have h := condT h ht61
          refine JS.seq (JS.region (JO.reg ttOk 1 [] [] [(4, .v (.bool false))] _ rfl ⟨⟨rfl, trivial⟩, rfl⟩ (JO.done rfl ?_)))
          cases h
          exact JS.ret ttOk () trivial rfl rfl [] rfl
        have h := condF h ht61
        refine JS.skip (JS.endB (JS.region (JO.reg ttOk 3 [(W (x11 + 1))] [] [(5, .v (.int .i64 (W (x11 + 1))))] _ rfl ⟨⟨trivial, rfl⟩, ⟨rfl, trivial⟩, rfl⟩ (JO.done rfl (JS.endL (n35, (W (x11 + 1))) h (Nat.lt_succ_self _) ⟨rfl, rfl, rfl, trivial⟩ trivial [4, 5] rfl [] rfl)))))
      have h := condF h ht62
      refine JS.exit rfl (JS.endJ () h trivial trivial [] rfl [] rfl)
    rintro _ h
    subst hj63
    refine JS.seq (JS.region (JO.reg ttOk 1 [] [] [(4, .v (.bool true))] _ rfl ⟨⟨rfl, trivial⟩, rfl⟩ (JO.done rfl ?_)))
    cases h
    exact JS.ret ttOk () trivial rfl rfl [] rfl

def M_l_eqUndo (x0 : List (List Int × Int)) (x1 : List (List Int × Int)) : Option Bool :=
  (bindO (M_l_eqLineS x0 x1) fun (y11 : Bool) =>
  (bif (!y11) then
  some false
  else
  some true))

theorem ok_l_eqUndo (x0 : List (List Int × Int)) (x1 : List (List Int × Int)) (a3 : Option Addr) (c4 : Nat) (l5 : Nat) (hl6 : x0.length = l5) (a7 : Option Addr) (c8 : Nat) (l9 : Nat) (hl10 : x1.length = l9) (r : Bool) (h : M_l_eqUndo x0 x1 = some r) :
    FC Tryz.prog 69 [.agg #[.slice a3 l5 c4], .agg #[.slice a7 l9 c8]] [⟨(.pair (.sl (.int .i64)) (.int .i64)), ⟨a3, l5, c4⟩, x0⟩, ⟨(.pair (.sl (.int .i64)) (.int .i64)), ⟨a7, l9, c8⟩, x1⟩] (fun _ : Unit => True) (fun _ => .bool r) (fun _ => []) :=
  by
    subst hl6
    subst hl10
    refine FC.of (T := TTx) Tryz.call69 Tryz.func69 rfl rfl fun w0 => ?_
    unfold M_l_eqUndo at h
    refine JS.seq (JS.region (JO.regB ttOk 3 [] [3, 4] [(2, .bp 3 0), (3, .bp 4 0)] (.new 3 40 [.slice a3 x0.length c4] (.new 4 40 [.slice a7 x1.length c8] .nil)) rfl ⟨⟨rfl, rfl, trivial⟩, ⟨rfl, rfl, rfl, rfl, rfl, rfl, rfl, rfl, trivial⟩⟩ (JO.done rfl (JS.seq (JS.seq (JS.region (JO.reg ttOk 4 [] [] [(6, .v (.slice a3 x0.length c4)), (8, .v (.slice a7 x1.length c8))] _ rfl ⟨⟨rfl, rfl, trivial⟩, rfl⟩ ?_)))))))
    obtain ⟨y11, hy12, h⟩ := bindO_some h
    refine JO.call rfl rfl rfl rfl (ok_l_eqLineS x0 x1 a3 c4 x0.length rfl a7 c8 x1.length rfl _ hy12) rfl [0, 1] rfl rfl fun _ _ => JO.reg ttOk 1 [] [] [(10, .v (.bool (!y11)))] _ rfl ⟨⟨rfl, trivial⟩, rfl⟩ (JO.done rfl ?_)
    refine JS.cond rfl (fun ht14 => ?_) (fun ht14 => ?_)
    · have h := condT h ht14
      refine JS.seq (JS.region (JO.reg ttOk 1 [] [] [(4, .v (.bool false))] _ rfl ⟨⟨rfl, trivial⟩, rfl⟩ (JO.done rfl ?_)))
      cases h
      exact JS.ret ttOk () trivial rfl rfl [] rfl
    have h := condF h ht14
    refine JS.skip (JS.seq (JS.region (JO.reg ttOk 1 [] [] [(4, .v (.bool true))] _ rfl ⟨⟨rfl, trivial⟩, rfl⟩ (JO.done rfl ?_))))
    cases h
    exact JS.ret ttOk () trivial rfl rfl [] rfl

def M_l_eqEd (x0 : Bool × Int × (List Int × Int) × Int × Int × Int × Int × Int × Int × Int × List (List Int) × (List (List Int × Int)) × Int × (List Int × Int) × List Int × Int × List Int × Int) (x1 : Bool × Int × (List Int × Int) × Int × Int × Int × Int × Int × Int × Int × List (List Int) × (List (List Int × Int)) × Int × (List Int × Int) × List Int × Int × List Int × Int) : Option Bool :=
  (bif (!(x0.1 == x1.1)) then
  some false
  else
  (bif (!(decide (x0.2.1 = x1.2.1))) then
  some false
  else
  (bindO (M_l_eqLine x0.2.2.1 x1.2.2.1) fun (y51 : Bool) =>
  (bif (!y51) then
  some false
  else
  (bif (!(decide (x0.2.2.2.1 = x1.2.2.2.1))) then
  some false
  else
  (bif (!(decide (x0.2.2.2.2.1 = x1.2.2.2.2.1))) then
  some false
  else
  (bif (!(decide (x0.2.2.2.2.2.1 = x1.2.2.2.2.2.1))) then
  some false
  else
  (bif (!(decide (x0.2.2.2.2.2.2.1 = x1.2.2.2.2.2.2.1))) then
  some false
  else
  (bif (!(decide (x0.2.2.2.2.2.2.2.1 = x1.2.2.2.2.2.2.2.1))) then
  some false
  else
  (bif (!(decide (x0.2.2.2.2.2.2.2.2.1 = x1.2.2.2.2.2.2.2.2.1))) then
  some false
  else
  (bif (!(decide (x0.2.2.2.2.2.2.2.2.2.1 = x1.2.2.2.2.2.2.2.2.2.1))) then
  some false
  else
  (bindO (M_l_eqRing x0.2.2.2.2.2.2.2.2.2.2.1 x1.2.2.2.2.2.2.2.2.2.2.1) fun (y53 : Bool) =>
  (bif (!y53) then
  some false
  else
  (bindO (M_l_eqUndo x0.2.2.2.2.2.2.2.2.2.2.2.1 x1.2.2.2.2.2.2.2.2.2.2.2.1) fun (y55 : Bool) =>
  (bif (!y55) then
  some false
  else
  (bif (!(decide (x0.2.2.2.2.2.2.2.2.2.2.2.2.1 = x1.2.2.2.2.2.2.2.2.2.2.2.2.1))) then
  some false
  else
  (bindO (M_l_eqLine x0.2.2.2.2.2.2.2.2.2.2.2.2.2.1 x1.2.2.2.2.2.2.2.2.2.2.2.2.2.1) fun (y57 : Bool) =>
  (bif (!y57) then
  some false
  else
  (bindO (M_l_eqIntS x0.2.2.2.2.2.2.2.2.2.2.2.2.2.2.1 x1.2.2.2.2.2.2.2.2.2.2.2.2.2.2.1) fun (y59 : Bool) =>
  (bif (!y59) then
  some false
  else
  (bif (!(decide (x0.2.2.2.2.2.2.2.2.2.2.2.2.2.2.2.1 = x1.2.2.2.2.2.2.2.2.2.2.2.2.2.2.2.1))) then
  some false
  else
  (bindO (M_l_eqLine x0.2.2.2.2.2.2.2.2.2.2.2.2.2.2.2.2 x1.2.2.2.2.2.2.2.2.2.2.2.2.2.2.2.2) fun (y61 : Bool) =>
  (bif (!y61) then
  some false
  else
  some true)))))))))))))))))))))))

theorem ok_l_eqEd (x0 : Bool × Int × (List Int × Int) × Int × Int × Int × Int × Int × Int × Int × List (List Int) × (List (List Int × Int)) × Int × (List Int × Int) × List Int × Int × List Int × Int) (x1 : Bool × Int × (List Int × Int) × Int × Int × Int × Int × Int × Int × Int × List (List Int) × (List (List Int × Int)) × Int × (List Int × Int) × List Int × Int × List Int × Int) (a3 : Option Addr) (c4 : Nat) (l5 : Nat) (hl6 : x0.2.2.1.1.length = l5) (a7 : Option Addr) (c8 : Nat) (l9 : Nat) (hl10 : x0.2.2.2.2.2.2.2.2.2.2.1.length = l9) (a11 : Option Addr) (c12 : Nat) (l13 : Nat) (hl14 : x0.2.2.2.2.2.2.2.2.2.2.2.1.length = l13) (a15 : Option Addr) (c16 : Nat) (l17 : Nat) (hl18 : x0.2.2.2.2.2.2.2.2.2.2.2.2.2.1.1.length = l17) (a19 : Option Addr) (c20 : Nat) (l21 : Nat) (hl22 : x0.2.2.2.2.2.2.2.2.2.2.2.2.2.2.1.length = l21) (a23 : Option Addr) (c24 : Nat) (l25 : Nat) (hl26 : x0.2.2.2.2.2.2.2.2.2.2.2.2.2.2.2.2.1.length = l25) (a27 : Option Addr) (c28 : Nat) (l29 : Nat) (hl30 : x1.2.2.1.1.length = l29) (a31 : Option Addr) (c32 : Nat) (l33 : Nat) (hl34 : x1.2.2.2.2.2.2.2.2.2.2.1.length = l33) (a35 : Option Addr) (c36 : Nat) (l37 : Nat) (hl38 : x1.2.2.2.2.2.2.2.2.2.2.2.1.length = l37) (a39 : Option Addr) (c40 : Nat) (l41 : Nat) (hl42 : x1.2.2.2.2.2.2.2.2.2.2.2.2.2.1.1.length = l41) (a43 : Option Addr) (c44 : Nat) (l45 : Nat) (hl46 : x1.2.2.2.2.2.2.2.2.2.2.2.2.2.2.1.length = l45) (a47 : Option Addr) (c48 : Nat) (l49 : Nat) (hl50 : x1.2.2.2.2.2.2.2.2.2.2.2.2.2.2.2.2.1.length = l49) (r : Bool) (h : M_l_eqEd x0 x1 = some r) :
    FC Tryz.prog 16 [.agg #[.bool x0.1, .int .i64 x0.2.1, .slice a3 l5 c4, .int .i64 x0.2.2.1.2, .int .i64 x0.2.2.2.1, .int .i64 x0.2.2.2.2.1, .int .i64 x0.2.2.2.2.2.1, .int .i64 x0.2.2.2.2.2.2.1, .int .i64 x0.2.2.2.2.2.2.2.1, .int .i64 x0.2.2.2.2.2.2.2.2.1, .int .i64 x0.2.2.2.2.2.2.2.2.2.1, .slice a7 l9 c8, .slice a11 l13 c12, .int .i64 x0.2.2.2.2.2.2.2.2.2.2.2.2.1, .slice a15 l17 c16, .int .i64 x0.2.2.2.2.2.2.2.2.2.2.2.2.2.1.2, .slice a19 l21 c20, .int .i64 x0.2.2.2.2.2.2.2.2.2.2.2.2.2.2.2.1, .slice a23 l25 c24, .int .i64 x0.2.2.2.2.2.2.2.2.2.2.2.2.2.2.2.2.2], .agg #[.bool x1.1, .int .i64 x1.2.1, .slice a27 l29 c28, .int .i64 x1.2.2.1.2, .int .i64 x1.2.2.2.1, .int .i64 x1.2.2.2.2.1, .int .i64 x1.2.2.2.2.2.1, .int .i64 x1.2.2.2.2.2.2.1, .int .i64 x1.2.2.2.2.2.2.2.1, .int .i64 x1.2.2.2.2.2.2.2.2.1, .int .i64 x1.2.2.2.2.2.2.2.2.2.1, .slice a31 l33 c32, .slice a35 l37 c36, .int .i64 x1.2.2.2.2.2.2.2.2.2.2.2.2.1, .slice a39 l41 c40, .int .i64 x1.2.2.2.2.2.2.2.2.2.2.2.2.2.1.2, .slice a43 l45 c44, .int .i64 x1.2.2.2.2.2.2.2.2.2.2.2.2.2.2.2.1, .slice a47 l49 c48, .int .i64 x1.2.2.2.2.2.2.2.2.2.2.2.2.2.2.2.2.2]] [⟨(.int .i64), ⟨a3, l5, c4⟩, x0.2.2.1.1⟩, ⟨(.sl (.int .i64)), ⟨a7, l9, c8⟩, x0.2.2.2.2.2.2.2.2.2.2.1⟩, ⟨(.pair (.sl (.int .i64)) (.int .i64)), ⟨a11, l13, c12⟩, x0.2.2.2.2.2.2.2.2.2.2.2.1⟩, ⟨(.int .i64), ⟨a15, l17, c16⟩, x0.2.2.2.2.2.2.2.2.2.2.2.2.2.1.1⟩, ⟨(.int .i64), ⟨a19, l21, c20⟩, x0.2.2.2.2.2.2.2.2.2.2.2.2.2.2.1⟩, ⟨(.int .i64), ⟨a23, l25, c24⟩, x0.2.2.2.2.2.2.2.2.2.2.2.2.2.2.2.2.1⟩, ⟨(.int .i64), ⟨a27, l29, c28⟩, x1.2.2.1.1⟩, ⟨(.sl (.int .i64)), ⟨a31, l33, c32⟩, x1.2.2.2.2.2.2.2.2.2.2.1⟩, ⟨(.pair (.sl (.int .i64)) (.int .i64)), ⟨a35, l37, c36⟩, x1.2.2.2.2.2.2.2.2.2.2.2.1⟩, ⟨(.int .i64), ⟨a39, l41, c40⟩, x1.2.2.2.2.2.2.2.2.2.2.2.2.2.1.1⟩, ⟨(.int .i64), ⟨a43, l45, c44⟩, x1.2.2.2.2.2.2.2.2.2.2.2.2.2.2.1⟩, ⟨(.int .i64), ⟨a47, l49, c48⟩, x1.2.2.2.2.2.2.2.2.2.2.2.2.2.2.2.2.1⟩] (fun _ : Unit => True) (fun _ => .bool r) (fun _ => []) :=
  by
    subst hl6
    subst hl10
    subst hl14
    subst hl18
    subst hl22
    subst hl26
    subst hl30
    subst hl34
    subst hl38
    subst hl42
    subst hl46
    subst hl50
    refine FC.of (T := TTx) Tryz.call16 Tryz.func16 rfl rfl fun w0 => ?_
    unfold M_l_eqEd at h
    refine JS.seq (JS.region (JO.regB ttOk 3 [] [13, 14] [(2, .bp 13 0), (3, .bp 14 0)] (.new 13 42 (cl42 x0 a3 c4 a7 c8 a11 c12 a15 c16 a19 c20 a23 c24) (.new 14 42 (cl42 x1 a27 c28 a31 c32 a35 c36 a39 c40 a43 c44 a47 c48) .nil)) rfl ⟨⟨rfl, rfl, trivial⟩, ⟨rfl, rfl, rfl, rfl, rfl, rfl, rfl, rfl, trivial⟩⟩ (JO.done rfl (JS.seq (JS.seq (JS.region (JO.reg ttOk 5 [] [] [(9, .v (.bool (!(x0.1 == x1.1))))] _ rfl ⟨⟨rfl, trivial⟩, rfl⟩ (JO.done rfl ?_))))))))
    refine JS.cond rfl (fun ht96 => ?_) (fun ht96 => ?_)
    · have h := condT h ht96
      refine JS.seq (JS.region (JO.reg ttOk 1 [] [] [(4, .v (.bool false))] _ rfl ⟨⟨rfl, trivial⟩, rfl⟩ (JO.done rfl ?_)))
      cases h
      exact JS.ret ttOk () trivial rfl rfl [] rfl
    have h := condF h ht96
    refine JS.skip (JS.seq (JS.seq (JS.region (JO.reg ttOk 5 [] [] [(14, .v (.bool (!(decide (x0.2.1 = x1.2.1)))))] _ rfl ⟨⟨rfl, trivial⟩, rfl⟩ (JO.done rfl ?_)))))
    refine JS.cond rfl (fun ht95 => ?_) (fun ht95 => ?_)
    · have h := condT h ht95
      refine JS.seq (JS.region (JO.reg ttOk 1 [] [] [(4, .v (.bool false))] _ rfl ⟨⟨rfl, trivial⟩, rfl⟩ (JO.done rfl ?_)))
      cases h
      exact JS.ret ttOk () trivial rfl rfl [] rfl
    have h := condF h ht95
    refine JS.skip (JS.seq (JS.seq (JS.region (JO.reg ttOk 4 [] [] [(16, .v (.agg #[.slice a3 x0.2.2.1.1.length c4, .int .i64 x0.2.2.1.2])), (18, .v (.agg #[.slice a27 x1.2.2.1.1.length c28, .int .i64 x1.2.2.1.2]))] _ rfl ⟨⟨rfl, rfl, trivial⟩, rfl⟩ ?_))))
    obtain ⟨y51, hy52, h⟩ := bindO_some h
    refine JO.call rfl rfl rfl rfl (ok_l_eqLine x0.2.2.1 x1.2.2.1 a3 c4 x0.2.2.1.1.length rfl a27 c28 x1.2.2.1.1.length rfl _ hy52) rfl [0, 6] rfl rfl fun _ _ => JO.reg ttOk 1 [] [] [(20, .v (.bool (!y51)))] _ rfl ⟨⟨rfl, trivial⟩, rfl⟩ (JO.done rfl ?_)
    refine JS.cond rfl (fun ht94 => ?_) (fun ht94 => ?_)
    · have h := condT h ht94
      refine JS.seq (JS.region (JO.reg ttOk 1 [] [] [(4, .v (.bool false))] _ rfl ⟨⟨rfl, trivial⟩, rfl⟩ (JO.done rfl ?_)))
      cases h
      exact JS.ret ttOk () trivial rfl rfl [] rfl
    have h := condF h ht94
    refine JS.skip (JS.seq (JS.seq (JS.region (JO.reg ttOk 5 [] [] [(25, .v (.bool (!(decide (x0.2.2.2.1 = x1.2.2.2.1)))))] _ rfl ⟨⟨rfl, trivial⟩, rfl⟩ (JO.done rfl ?_)))))
    refine JS.cond rfl (fun ht93 => ?_) (fun ht93 => ?_)
    · have h := condT h ht93
      refine JS.seq (JS.region (JO.reg ttOk 1 [] [] [(4, .v (.bool false))] _ rfl ⟨⟨rfl, trivial⟩, rfl⟩ (JO.done rfl ?_)))
      cases h
      exact JS.ret ttOk () trivial rfl rfl [] rfl
    have h := condF h ht93
    refine JS.skip (JS.seq (JS.seq (JS.region (JO.reg ttOk 5 [] [] [(30, .v (.bool (!(decide (x0.2.2.2.2.1 = x1.2.2.2.2.1)))))] _ rfl ⟨⟨rfl, trivial⟩, rfl⟩ (JO.done rfl ?_)))))
    refine JS.cond rfl (fun ht92 => ?_) (fun ht92 => ?_)
    · have h := condT h ht92
      refine JS.seq (JS.region (JO.reg ttOk 1 [] [] [(4, .v (.bool false))] _ rfl ⟨⟨rfl, trivial⟩, rfl⟩ (JO.done rfl ?_)))
      cases h
      exact JS.ret ttOk () trivial rfl rfl [] rfl
    have h := condF h ht92
    refine JS.skip (JS.seq (JS.seq (JS.region (JO.reg ttOk 5 [] [] [(35, .v (.bool (!(decide (x0.2.2.2.2.2.1 = x1.2.2.2.2.2.1)))))] _ rfl ⟨⟨rfl, trivial⟩, rfl⟩ (JO.done rfl ?_)))))
    refine JS.cond rfl (fun ht91 => ?_) (fun ht91 => ?_)
    · have h := condT h ht91
      refine JS.seq (JS.region (JO.reg ttOk 1 [] [] [(4, .v (.bool false))] _ rfl ⟨⟨rfl, trivial⟩, rfl⟩ (JO.done rfl ?_)))
      cases h
      exact JS.ret ttOk () trivial rfl rfl [] rfl
    have h := condF h ht91
    refine JS.skip (JS.seq (JS.seq (JS.region (JO.reg ttOk 5 [] [] [(40, .v (.bool (!(decide (x0.2.2.2.2.2.2.1 = x1.2.2.2.2.2.2.1)))))] _ rfl ⟨⟨rfl, trivial⟩, rfl⟩ (JO.done rfl ?_)))))
    refine JS.cond rfl (fun ht90 => ?_) (fun ht90 => ?_)
    · have h := condT h ht90
      refine JS.seq (JS.region (JO.reg ttOk 1 [] [] [(4, .v (.bool false))] _ rfl ⟨⟨rfl, trivial⟩, rfl⟩ (JO.done rfl ?_)))
      cases h
      exact JS.ret ttOk () trivial rfl rfl [] rfl
    have h := condF h ht90
    refine JS.skip (JS.seq (JS.seq (JS.region (JO.reg ttOk 5 [] [] [(45, .v (.bool (!(decide (x0.2.2.2.2.2.2.2.1 = x1.2.2.2.2.2.2.2.1)))))] _ rfl ⟨⟨rfl, trivial⟩, rfl⟩ (JO.done rfl ?_)))))
    refine JS.cond rfl (fun ht89 => ?_) (fun ht89 => ?_)
    · have h := condT h ht89
      refine JS.seq (JS.region (JO.reg ttOk 1 [] [] [(4, .v (.bool false))] _ rfl ⟨⟨rfl, trivial⟩, rfl⟩ (JO.done rfl ?_)))
      cases h
      exact JS.ret ttOk () trivial rfl rfl [] rfl
    have h := condF h ht89
    refine JS.skip (JS.seq (JS.seq (JS.region (JO.reg ttOk 5 [] [] [(50, .v (.bool (!(decide (x0.2.2.2.2.2.2.2.2.1 = x1.2.2.2.2.2.2.2.2.1)))))] _ rfl ⟨⟨rfl, trivial⟩, rfl⟩ (JO.done rfl ?_)))))
    refine JS.cond rfl (fun ht88 => ?_) (fun ht88 => ?_)
    · have h := condT h ht88
      refine JS.seq (JS.region (JO.reg ttOk 1 [] [] [(4, .v (.bool false))] _ rfl ⟨⟨rfl, trivial⟩, rfl⟩ (JO.done rfl ?_)))
      cases h
      exact JS.ret ttOk () trivial rfl rfl [] rfl
    have h := condF h ht88
    refine JS.skip (JS.seq (JS.seq (JS.region (JO.reg ttOk 5 [] [] [(55, .v (.bool (!(decide (x0.2.2.2.2.2.2.2.2.2.1 = x1.2.2.2.2.2.2.2.2.2.1)))))] _ rfl ⟨⟨rfl, trivial⟩, rfl⟩ (JO.done rfl ?_)))))
    refine JS.cond rfl (fun ht87 => ?_) (fun ht87 => ?_)
    · have h := condT h ht87
      refine JS.seq (JS.region (JO.reg ttOk 1 [] [] [(4, .v (.bool false))] _ rfl ⟨⟨rfl, trivial⟩, rfl⟩ (JO.done rfl ?_)))
      cases h
      exact JS.ret ttOk () trivial rfl rfl [] rfl
    have h := condF h ht87
    refine JS.skip (JS.seq (JS.seq (JS.region (JO.reg ttOk 4 [] [] [(57, .v (.agg #[.slice a7 x0.2.2.2.2.2.2.2.2.2.2.1.length c8])), (59, .v (.agg #[.slice a31 x1.2.2.2.2.2.2.2.2.2.2.1.length c32]))] _ rfl ⟨⟨rfl, rfl, trivial⟩, rfl⟩ ?_))))
    obtain ⟨y53, hy54, h⟩ := bindO_some h
    refine JO.call rfl rfl rfl rfl (ok_l_eqRing x0.2.2.2.2.2.2.2.2.2.2.1 x1.2.2.2.2.2.2.2.2.2.2.1 a7 c8 x0.2.2.2.2.2.2.2.2.2.2.1.length rfl a31 c32 x1.2.2.2.2.2.2.2.2.2.2.1.length rfl _ hy54) rfl [1, 7] rfl rfl fun _ _ => JO.reg ttOk 1 [] [] [(61, .v (.bool (!y53)))] _ rfl ⟨⟨rfl, trivial⟩, rfl⟩ (JO.done rfl ?_)
    refine JS.cond rfl (fun ht86 => ?_) (fun ht86 => ?_)
    · have h := condT h ht86
      refine JS.seq (JS.region (JO.reg ttOk 1 [] [] [(4, .v (.bool false))] _ rfl ⟨⟨rfl, trivial⟩, rfl⟩ (JO.done rfl ?_)))
      cases h
      exact JS.ret ttOk () trivial rfl rfl [] rfl
    have h := condF h ht86
    refine JS.skip (JS.seq (JS.seq (JS.region (JO.reg ttOk 4 [] [] [(63, .v (.agg #[.slice a11 x0.2.2.2.2.2.2.2.2.2.2.2.1.length c12])), (65, .v (.agg #[.slice a35 x1.2.2.2.2.2.2.2.2.2.2.2.1.length c36]))] _ rfl ⟨⟨rfl, rfl, trivial⟩, rfl⟩ ?_))))
    obtain ⟨y55, hy56, h⟩ := bindO_some h
    refine JO.call rfl rfl rfl rfl (ok_l_eqUndo x0.2.2.2.2.2.2.2.2.2.2.2.1 x1.2.2.2.2.2.2.2.2.2.2.2.1 a11 c12 x0.2.2.2.2.2.2.2.2.2.2.2.1.length rfl a35 c36 x1.2.2.2.2.2.2.2.2.2.2.2.1.length rfl _ hy56) rfl [2, 8] rfl rfl fun _ _ => JO.reg ttOk 1 [] [] [(67, .v (.bool (!y55)))] _ rfl ⟨⟨rfl, trivial⟩, rfl⟩ (JO.done rfl ?_)
    refine JS.cond rfl (fun ht85 => ?_) (fun ht85 => ?_)
    · have h := condT h ht85
      refine JS.seq (JS.region (JO.reg ttOk 1 [] [] [(4, .v (.bool false))] _ rfl ⟨⟨rfl, trivial⟩, rfl⟩ (JO.done rfl ?_)))
      cases h
      exact JS.ret ttOk () trivial rfl rfl [] rfl
    have h := condF h ht85
    refine JS.skip (JS.seq (JS.seq (JS.region (JO.reg ttOk 5 [] [] [(72, .v (.bool (!(decide (x0.2.2.2.2.2.2.2.2.2.2.2.2.1 = x1.2.2.2.2.2.2.2.2.2.2.2.2.1)))))] _ rfl ⟨⟨rfl, trivial⟩, rfl⟩ (JO.done rfl ?_)))))
    refine JS.cond rfl (fun ht84 => ?_) (fun ht84 => ?_)
    · have h := condT h ht84
      refine JS.seq (JS.region (JO.reg ttOk 1 [] [] [(4, .v (.bool false))] _ rfl ⟨⟨rfl, trivial⟩, rfl⟩ (JO.done rfl ?_)))
      cases h
      exact JS.ret ttOk () trivial rfl rfl [] rfl
    have h := condF h ht84
    refine JS.skip (JS.seq (JS.seq (JS.region (JO.reg ttOk 4 [] [] [(74, .v (.agg #[.slice a15 x0.2.2.2.2.2.2.2.2.2.2.2.2.2.1.1.length c16, .int .i64 x0.2.2.2.2.2.2.2.2.2.2.2.2.2.1.2])), (76, .v (.agg #[.slice a39 x1.2.2.2.2.2.2.2.2.2.2.2.2.2.1.1.length c40, .int .i64 x1.2.2.2.2.2.2.2.2.2.2.2.2.2.1.2]))] _ rfl ⟨⟨rfl, rfl, trivial⟩, rfl⟩ ?_))))
    obtain ⟨y57, hy58, h⟩ := bindO_some h
    refine JO.call rfl rfl rfl rfl (ok_l_eqLine x0.2.2.2.2.2.2.2.2.2.2.2.2.2.1 x1.2.2.2.2.2.2.2.2.2.2.2.2.2.1 a15 c16 x0.2.2.2.2.2.2.2.2.2.2.2.2.2.1.1.length rfl a39 c40 x1.2.2.2.2.2.2.2.2.2.2.2.2.2.1.1.length rfl _ hy58) rfl [3, 9] rfl rfl fun _ _ => JO.reg ttOk 1 [] [] [(78, .v (.bool (!y57)))] _ rfl ⟨⟨rfl, trivial⟩, rfl⟩ (JO.done rfl ?_)
    refine JS.cond rfl (fun ht83 => ?_) (fun ht83 => ?_)
    · have h := condT h ht83
      refine JS.seq (JS.region (JO.reg ttOk 1 [] [] [(4, .v (.bool false))] _ rfl ⟨⟨rfl, trivial⟩, rfl⟩ (JO.done rfl ?_)))
      cases h
      exact JS.ret ttOk () trivial rfl rfl [] rfl
    have h := condF h ht83
    refine JS.skip (JS.seq (JS.seq (JS.region (JO.reg ttOk 4 [] [] [(80, .v (.slice a19 x0.2.2.2.2.2.2.2.2.2.2.2.2.2.2.1.length c20)), (82, .v (.slice a43 x1.2.2.2.2.2.2.2.2.2.2.2.2.2.2.1.length c44))] _ rfl ⟨⟨rfl, rfl, trivial⟩, rfl⟩ ?_))))
    obtain ⟨y59, hy60, h⟩ := bindO_some h
    refine JO.call rfl rfl rfl rfl (ok_l_eqIntS x0.2.2.2.2.2.2.2.2.2.2.2.2.2.2.1 x1.2.2.2.2.2.2.2.2.2.2.2.2.2.2.1 a19 c20 x0.2.2.2.2.2.2.2.2.2.2.2.2.2.2.1.length rfl a43 c44 x1.2.2.2.2.2.2.2.2.2.2.2.2.2.2.1.length rfl _ hy60) rfl [4, 10] rfl rfl fun _ _ => JO.reg ttOk 1 [] [] [(84, .v (.bool (!y59)))] _ rfl ⟨⟨rfl, trivial⟩, rfl⟩ (JO.done rfl ?_)
    refine JS.cond rfl (fun ht82 => ?_) (fun ht82 => ?_)
    · have h := condT h ht82
      refine JS.seq (JS.region (JO.reg ttOk 1 [] [] [(4, .v (.bool false))] _ rfl ⟨⟨rfl, trivial⟩, rfl⟩ (JO.done rfl ?_)))
      cases h
      exact JS.ret ttOk () trivial rfl rfl [] rfl
    have h := condF h ht82
    refine JS.skip (JS.seq (JS.seq (JS.region (JO.reg ttOk 5 [] [] [(89, .v (.bool (!(decide (x0.2.2.2.2.2.2.2.2.2.2.2.2.2.2.2.1 = x1.2.2.2.2.2.2.2.2.2.2.2.2.2.2.2.1)))))] _ rfl ⟨⟨rfl, trivial⟩, rfl⟩ (JO.done rfl ?_)))))
    refine JS.cond rfl (fun ht81 => ?_) (fun ht81 => ?_)
    · have h := condT h ht81
      refine JS.seq (JS.region (JO.reg ttOk 1 [] [] [(4, .v (.bool false))] _ rfl ⟨⟨rfl, trivial⟩, rfl⟩ (JO.done rfl ?_)))
      cases h
      exact JS.ret ttOk () trivial rfl rfl [] rfl
    have h := condF h ht81
    refine JS.skip (JS.seq (JS.seq (JS.region (JO.reg ttOk 4 [] [] [(91, .v (.agg #[.slice a23 x0.2.2.2.2.2.2.2.2.2.2.2.2.2.2.2.2.1.length c24, .int .i64 x0.2.2.2.2.2.2.2.2.2.2.2.2.2.2.2.2.2])), (93, .v (.agg #[.slice a47 x1.2.2.2.2.2.2.2.2.2.2.2.2.2.2.2.2.1.length c48, .int .i64 x1.2.2.2.2.2.2.2.2.2.2.2.2.2.2.2.2.2]))] _ rfl ⟨⟨rfl, rfl, trivial⟩, rfl⟩ ?_))))
    obtain ⟨y61, hy62, h⟩ := bindO_some h
    refine JO.call rfl rfl rfl rfl (ok_l_eqLine x0.2.2.2.2.2.2.2.2.2.2.2.2.2.2.2.2 x1.2.2.2.2.2.2.2.2.2.2.2.2.2.2.2.2 a23 c24 x0.2.2.2.2.2.2.2.2.2.2.2.2.2.2.2.2.1.length rfl a47 c48 x1.2.2.2.2.2.2.2.2.2.2.2.2.2.2.2.2.1.length rfl _ hy62) rfl [5, 11] rfl rfl fun _ _ => JO.reg ttOk 1 [] [] [(95, .v (.bool (!y61)))] _ rfl ⟨⟨rfl, trivial⟩, rfl⟩ (JO.done rfl ?_)
    refine JS.cond rfl (fun ht80 => ?_) (fun ht80 => ?_)
    · have h := condT h ht80
      refine JS.seq (JS.region (JO.reg ttOk 1 [] [] [(4, .v (.bool false))] _ rfl ⟨⟨rfl, trivial⟩, rfl⟩ (JO.done rfl ?_)))
      cases h
      exact JS.ret ttOk () trivial rfl rfl [] rfl
    have h := condF h ht80
    refine JS.skip (JS.seq (JS.region (JO.reg ttOk 1 [] [] [(4, .v (.bool true))] _ rfl ⟨⟨rfl, trivial⟩, rfl⟩ (JO.done rfl ?_))))
    cases h
    exact JS.ret ttOk () trivial rfl rfl [] rfl

def M_l_markIntS_L1 (x0 : List Int) (j19 : (List Int × Int) → Option (Int × List Int)) (k13 : (List Int × Int × Int) → Option (Int × List Int)) : (List Int × Int × Int) → Option (Int × List Int) := fun (x7, x8, x9) =>
  (bif (decide (x9 < (x0.length : Int))) then
  (guardO (0 ≤ x9 ∧ x9 < (x0.length : Int)) <|
  k13 ((List.set x7 (Int.toNat x9) x8), (W (x8 + 1)), (W (x9 + 1))))
  else
  j19 (x7, x8))

def M_l_markIntS (x0 : List Int) (x1 : Int) : Option (Int × List Int) :=
  (joinO (fun ((x17, x18) : List Int × Int) =>
  some (x18, x17)) fun j19 =>
  (fixF (M_l_markIntS_L1 x0 j19) FUEL (x0, x1, 0)))

theorem ok_l_markIntS (x0 : List Int) (x1 : Int) (a3 : Option Addr) (c4 : Nat) (l5 : Nat) (hl6 : x0.length = l5) (r : Int × List Int) (h : M_l_markIntS x0 x1 = some r) :
    FX Tryz.prog 29 [.slice a3 l5 c4, .int .i64 x1] [] [⟨(.int .i64), ⟨a3, l5, c4⟩, x0⟩] (fun _ : Unit => True) (fun _ => .int .i64 r.1) (fun _ => [⟨(.int .i64), ⟨a3, l5, c4⟩, r.2⟩]) :=
  by
    subst hl6
    refine FX.of (T := TTx) Tryz.call29 Tryz.func29 rfl rfl fun w0 L0 => ?_
    unfold M_l_markIntS at h
    refine JS.seq (JS.region (JO.reg ttOk 1 [] [] [] _ rfl ⟨trivial, rfl⟩ (JO.done rfl (JS.seq (JS.seq (JS.region (JO.reg ttOk 1 [] [] [(5, .v (.int .i64 0))] _ rfl ⟨⟨rfl, trivial⟩, rfl⟩ (JO.done rfl ?_))))))))
    obtain ⟨j19, hj27, h⟩ := joinO_some h
    refine JS.blockJ (ι := List Int × Int) ⟨fun z => j19 (z.1, z.2) = some r, fun z => [(1, .v (.int .i64 z.2))], fun z => .nil, fun z => [], fun z => [⟨(.int .i64), ⟨a3, x0.length, c4⟩, z.1⟩], fun z => 0⟩ ?_ ?_
    · refine JS.loop (ι := Nat × List Int × Int × Int) ⟨fun z => fixF (M_l_markIntS_L1 x0 j19) z.1 (z.2.1, z.2.2.1, z.2.2.2) = some r, fun z => [(0, .v (.slice a3 x0.length c4)), (1, .v (.int .i64 z.2.2.1)), (5, .v (.int .i64 z.2.2.2))], fun z => .nil, fun z => [], fun z => [⟨(.int .i64), ⟨a3, x0.length, c4⟩, z.2.1⟩], fun z => z.1⟩ (FUEL, x0, x1, 0) h ⟨rfl, rfl, rfl, trivial⟩ trivial [] rfl [0] rfl ?_
      rintro ⟨n14, x7, x8, x9⟩ h
      obtain ⟨n14, rfl, h⟩ := fixF_some h
      rw [M_l_markIntS_L1] at h
      refine JS.know 0 rfl fun hs24 => JS.seq (JS.seq (JS.region (JO.reg ttOk 4 [] [] [(9, .v (.bool (decide (x9 < (x0.length : Int)))))] _ rfl ⟨⟨rfl, trivial⟩, rfl⟩ (JO.done rfl ?_))))
      refine JS.cond rfl (fun ht25 => ?_) (fun ht25 => ?_)
      · have h := condT h ht25
        refine JS.skip (JS.seq (JS.block (JS.seq (JS.region ?_))))
        obtain ⟨g11, h⟩ := guardO_some h
        refine JO.reg ttOk 4 [] [] [(14, .v (.int .i64 x8)), (15, .ep ⟨a3, x0.length, c4⟩ (Int.toNat x9 * 1))] _ rfl ⟨(hs24.cast hs24.len.symm).ix g11, ⟨rfl, rfl, trivial⟩, rfl⟩ (JO.storeE ttOk rfl rfl rfl rfl rfl rfl rfl rfl rfl [0] (fs := []) rfl (Int.toNat x9) 0 (at' x7 x9) x8 ⟨at_someL hs24.len.symm g11, rfl⟩ ⟨rfl, rfl, rfl⟩ (JO.done rfl (JS.region (JO.reg ttOk 3 [(W (x8 + 1))] [] [(1, .v (.int .i64 (W (x8 + 1))))] _ rfl ⟨⟨trivial, rfl⟩, ⟨rfl, trivial⟩, rfl⟩ (JO.done rfl (JS.endB (JS.region (JO.reg ttOk 3 [(W (x9 + 1))] [] [(5, .v (.int .i64 (W (x9 + 1))))] _ rfl ⟨⟨trivial, rfl⟩, ⟨rfl, trivial⟩, rfl⟩ (JO.done rfl (JS.endL (n14, (List.set x7 (Int.toNat x9) x8), (W (x8 + 1)), (W (x9 + 1))) h (Nat.lt_succ_self _) ⟨rfl, rfl, rfl, trivial⟩ trivial [] rfl [0] rfl))))))))))
      have h := condF h ht25
      refine JS.exit rfl (JS.endJ (x7, x8) h ⟨rfl, trivial⟩ trivial [] rfl [0] rfl)
    rintro ⟨x17, x18⟩ h
    subst hj27
    refine JS.know 0 rfl fun hs26 => JS.seq (JS.region (JO.reg ttOk 2 [] [] [(4, .v (.int .i64 x18))] _ rfl ⟨⟨rfl, trivial⟩, rfl⟩ (JO.done rfl ?_)))
    cases h
    exact JS.retX ttOk () trivial rfl rfl [0] rfl

def M_l_markLine (x0 : List Int × Int) (x1 : Int) : Option (Int × List Int) :=
  (bindO (M_l_markIntS x0.1 x1) fun (y7, y8) =>
  some (y7, y8))

theorem ok_l_markLine (x0 : List Int × Int) (x1 : Int) (a3 : Option Addr) (c4 : Nat) (l5 : Nat) (hl6 : x0.1.length = l5) (r : Int × List Int) (h : M_l_markLine x0 x1 = some r) :
    FX Tryz.prog 70 [.agg #[.slice a3 l5 c4, .int .i64 x0.2], .int .i64 x1] [] [⟨(.int .i64), ⟨a3, l5, c4⟩, x0.1⟩] (fun _ : Unit => True) (fun _ => .int .i64 r.1) (fun _ => [⟨(.int .i64), ⟨a3, l5, c4⟩, r.2⟩]) :=
  by
    subst hl6
    refine FX.of (T := TTx) Tryz.call70 Tryz.func70 rfl rfl fun w0 L0 => ?_
    unfold M_l_markLine at h
    refine JS.seq (JS.region (JO.regB ttOk 2 [] [2] [(2, .bp 2 0)] (.new 2 34 [.slice a3 x0.1.length c4, .int .i64 x0.2] .nil) rfl ⟨⟨rfl, trivial⟩, ⟨rfl, rfl, rfl, rfl, trivial⟩⟩ (JO.done rfl (JS.seq (JS.region (JO.reg ttOk 3 [] [] [(6, .v (.slice a3 x0.1.length c4)), (7, .v (.int .i64 x1))] _ rfl ⟨⟨rfl, rfl, trivial⟩, rfl⟩ ?_))))))
    obtain ⟨⟨y7, y8⟩, hy9, h⟩ := bindO_some h
    refine JO.callX rfl rfl rfl rfl (ok_l_markIntS x0.1 x1 a3 c4 x0.1.length rfl _ hy9) rfl [0] rfl [] rfl rfl fun _ _ => JO.know 0 rfl fun hs10 => JO.reg ttOk 1 [] [] [(1, .v (.int .i64 y7))] _ rfl ⟨⟨rfl, trivial⟩, rfl⟩ (JO.done rfl (JS.seq (JS.region (JO.reg ttOk 2 [] [] [(4, .v (.int .i64 y7))] _ rfl ⟨⟨rfl, trivial⟩, rfl⟩ (JO.done rfl ?_)))))
    cases h
    exact JS.retX ttOk () trivial rfl rfl [0] rfl

def M_l_markPieceS_L1 (x0 : List (List Int)) (j27 : (List (List Int) × Int) → Option (Int × List (List Int))) (k21 : (List (List Int) × Int × Int) → Option (Int × List (List Int))) : (List (List Int) × Int × Int) → Option (Int × List (List Int)) := fun (x7, x8, x9) =>
  (bif (decide (x9 < (x0.length : Int))) then
  (guardO (0 ≤ x9 ∧ x9 < (x0.length : Int)) <|
  (bindO (M_l_markIntS (at' x7 x9) x8) fun (y16, y17) =>
  k21 ((List.set x7 (Int.toNat x9) y17), y16, (W (x9 + 1)))))
  else
  j27 (x7, x8))

def M_l_markPieceS (x0 : List (List Int)) (x1 : Int) : Option (Int × List (List Int)) :=
  (joinO (fun ((x25, x26) : List (List Int) × Int) =>
  some (x26, x25)) fun j27 =>
  (fixF (M_l_markPieceS_L1 x0 j27) FUEL (x0, x1, 0)))

theorem ok_l_markPieceS (x0 : List (List Int)) (x1 : Int) (a3 : Option Addr) (c4 : Nat) (l5 : Nat) (hl6 : x0.length = l5) (r : Int × List (List Int)) (h : M_l_markPieceS x0 x1 = some r) :
    FX Tryz.prog 170 [.slice a3 l5 c4, .int .i64 x1] [] [⟨(.sl (.int .i64)), ⟨a3, l5, c4⟩, x0⟩] (fun _ : Unit => True) (fun _ => .int .i64 r.1) (fun _ => [⟨(.sl (.int .i64)), ⟨a3, l5, c4⟩, r.2⟩]) :=
  by
    subst hl6
    refine FX.of (T := TTx) Tryz.call170 Tryz.func170 rfl rfl fun w0 L0 => ?_
    unfold M_l_markPieceS at h
    refine JS.seq (JS.region (JO.reg ttOk 1 [] [] [] _ rfl ⟨trivial, rfl⟩ (JO.done rfl (JS.seq (JS.seq (JS.region (JO.reg ttOk 1 [] [] [(5, .v (.int .i64 0))] _ rfl ⟨⟨rfl, trivial⟩, rfl⟩ (JO.done rfl ?_))))))))
    obtain ⟨j27, hj35, h⟩ := joinO_some h
    refine JS.blockJ (ι := List (List Int) × Int) ⟨fun z => j27 (z.1, z.2) = some r, fun z => [(1, .v (.int .i64 z.2))], fun z => .nil, fun z => [], fun z => [⟨(.sl (.int .i64)), ⟨a3, x0.length, c4⟩, z.1⟩], fun z => 0⟩ ?_ ?_
    · refine JS.loop (ι := Nat × List (List Int) × Int × Int) ⟨fun z => fixF (M_l_markPieceS_L1 x0 j27) z.1 (z.2.1, z.2.2.1, z.2.2.2) = some r, fun z => [(0, .v (.slice a3 x0.length c4)), (1, .v (.int .i64 z.2.2.1)), (5, .v (.int .i64 z.2.2.2))], fun z => .nil, fun z => [], fun z => [⟨(.sl (.int .i64)), ⟨a3, x0.length, c4⟩, z.2.1⟩], fun z => z.1⟩ (FUEL, x0, x1, 0) h ⟨rfl, rfl, rfl, trivial⟩ trivial [] rfl [0] rfl ?_
      rintro ⟨n22, x7, x8, x9⟩ h
      obtain ⟨n22, rfl, h⟩ := fixF_some h
      rw [M_l_markPieceS_L1] at h
      refine JS.know 0 rfl fun hs32 => JS.seq (JS.seq (JS.region (JO.reg ttOk 4 [] [] [(9, .v (.bool (decide (x9 < (x0.length : Int)))))] _ rfl ⟨⟨rfl, trivial⟩, rfl⟩ (JO.done rfl ?_))))
      refine JS.cond rfl (fun ht33 => ?_) (fun ht33 => ?_)
      · have h := condT h ht33
        refine JS.skip (JS.seq (JS.block (JS.region ?_)))
        obtain ⟨g11, h⟩ := guardO_some h
        refine JO.reg ttOk 4 [] [] [(15, .ep ⟨a3, x0.length, c4⟩ (Int.toNat x9 * 1))] _ rfl ⟨(hs32.cast hs32.len.symm).ix g11, (hs32.cast hs32.len.symm).fa g11, ⟨rfl, trivial⟩, rfl⟩ (JO.lend [0] rfl (Int.toNat x9) (at' x7 x9) rfl fun a12 c13 l14 hl15 => ?_)
        obtain rfl : ([.slice a12 (at' x7 x9).length c13] : List Value) = l14 := Option.some.inj hl15
        refine JO.loadV ttOk rfl rfl rfl rfl rfl rfl 0 rfl rfl (Int.toNat x9) 0 (Sum.inr [.slice a12 (at' x7 x9).length c13]) ⟨lentL_at (at_someL hs32.len.symm g11), rfl⟩ rfl rfl rfl (JO.reg ttOk 1 [] [] [(17, .v (.int .i64 x8))] _ rfl ⟨⟨rfl, trivial⟩, rfl⟩ ?_)
        obtain ⟨⟨y16, y17⟩, hy18, h⟩ := bindO_some h
        refine JO.callX rfl rfl rfl rfl (ok_l_markIntS (at' x7 x9) x8 a12 c13 ((at' x7 x9).length) rfl _ hy18) rfl [1] rfl [] rfl rfl fun _ _ => JO.know 0 rfl fun hs19 => JO.reg ttOk 1 [] [] [(1, .v (.int .i64 y16))] _ rfl ⟨⟨rfl, trivial⟩, rfl⟩ (JO.unlend [1, 0] rfl y17 ⟨rfl, rfl, rfl⟩ (JO.done rfl (JS.endB (JS.region (JO.reg ttOk 3 [(W (x9 + 1))] [] [(5, .v (.int .i64 (W (x9 + 1))))] _ rfl ⟨⟨trivial, rfl⟩, ⟨rfl, trivial⟩, rfl⟩ (JO.done rfl (JS.endL (n22, (List.set x7 (Int.toNat x9) y17), y16, (W (x9 + 1))) h (Nat.lt_succ_self _) ⟨rfl, rfl, rfl, trivial⟩ trivial [] rfl [0] rfl)))))))
      have h := condF h ht33
      refine JS.exit rfl (JS.endJ (x7, x8) h ⟨rfl, trivial⟩ trivial [] rfl [0] rfl)
    rintro ⟨x25, x26⟩ h
    subst hj35
    refine JS.know 0 rfl fun hs34 => JS.seq (JS.region (JO.reg ttOk 2 [] [] [(4, .v (.int .i64 x26))] _ rfl ⟨⟨rfl, trivial⟩, rfl⟩ (JO.done rfl ?_)))
    cases h
    exact JS.retX ttOk () trivial rfl rfl [0] rfl

def M_l_markRing (x0 : List (List Int)) (x1 : Int) : Option (Int × List (List Int)) :=
  (bindO (M_l_markPieceS x0 x1) fun (y7, y8) =>
  some (y7, y8))

theorem ok_l_markRing (x0 : List (List Int)) (x1 : Int) (a3 : Option Addr) (c4 : Nat) (l5 : Nat) (hl6 : x0.length = l5) (r : Int × List (List Int)) (h : M_l_markRing x0 x1 = some r) :
    FX Tryz.prog 71 [.agg #[.slice a3 l5 c4], .int .i64 x1] [] [⟨(.sl (.int .i64)), ⟨a3, l5, c4⟩, x0⟩] (fun _ : Unit => True) (fun _ => .int .i64 r.1) (fun _ => [⟨(.sl (.int .i64)), ⟨a3, l5, c4⟩, r.2⟩]) :=
  by
    subst hl6
    refine FX.of (T := TTx) Tryz.call71 Tryz.func71 rfl rfl fun w0 L0 => ?_
    unfold M_l_markRing at h
    refine JS.seq (JS.region (JO.regB ttOk 2 [] [2] [(2, .bp 2 0)] (.new 2 37 [.slice a3 x0.length c4] .nil) rfl ⟨⟨rfl, trivial⟩, ⟨rfl, rfl, rfl, rfl, trivial⟩⟩ (JO.done rfl (JS.seq (JS.region (JO.reg ttOk 3 [] [] [(6, .v (.slice a3 x0.length c4)), (7, .v (.int .i64 x1))] _ rfl ⟨⟨rfl, rfl, trivial⟩, rfl⟩ ?_))))))
    obtain ⟨⟨y7, y8⟩, hy9, h⟩ := bindO_some h
    refine JO.callX rfl rfl rfl rfl (ok_l_markPieceS x0 x1 a3 c4 x0.length rfl _ hy9) rfl [0] rfl [] rfl rfl fun _ _ => JO.know 0 rfl fun hs10 => JO.reg ttOk 1 [] [] [(1, .v (.int .i64 y7))] _ rfl ⟨⟨rfl, trivial⟩, rfl⟩ (JO.done rfl (JS.seq (JS.region (JO.reg ttOk 2 [] [] [(4, .v (.int .i64 y7))] _ rfl ⟨⟨rfl, trivial⟩, rfl⟩ (JO.done rfl ?_)))))
    cases h
    exact JS.retX ttOk () trivial rfl rfl [0] rfl

def M_l_markLineS_L1 (x0 : List (List Int × Int)) (j28 : ((List (List Int × Int)) × Int) → Option (Int × List (List Int × Int))) (k22 : ((List (List Int × Int)) × Int × Int) → Option (Int × List (List Int × Int))) : ((List (List Int × Int)) × Int × Int) → Option (Int × List (List Int × Int)) := fun (x7, x8, x9) =>
  (bif (decide (x9 < (x0.length : Int))) then
  (guardO (0 ≤ x9 ∧ x9 < (x0.length : Int)) <|
  (bindO (M_l_markIntS ((at' x7 x9).1) x8) fun (y16, y17) =>
  (guardO (0 ≤ x9 ∧ x9 < (x0.length : Int)) <|
  k22 ((List.set (List.set x7 (Int.toNat x9) (y17, (at' x7 x9).2)) (Int.toNat x9) ((at' (List.set x7 (Int.toNat x9) (y17, (at' x7 x9).2)) x9).1, y16)), (W (y16 + 1)), (W (x9 + 1))))))
  else
  j28 (x7, x8))

def M_l_markLineS (x0 : List (List Int × Int)) (x1 : Int) : Option (Int × List (List Int × Int)) :=
  (joinO (fun ((x26, x27) : (List (List Int × Int)) × Int) =>
  some (x27, x26)) fun j28 =>
  (fixF (M_l_markLineS_L1 x0 j28) FUEL (x0, x1, 0)))

theorem ok_l_markLineS (x0 : List (List Int × Int)) (x1 : Int) (a3 : Option Addr) (c4 : Nat) (l5 : Nat) (hl6 : x0.length = l5) (r : Int × List (List Int × Int)) (h : M_l_markLineS x0 x1 = some r) :
    FX Tryz.prog 171 [.slice a3 l5 c4, .int .i64 x1] [] [⟨(.pair (.sl (.int .i64)) (.int .i64)), ⟨a3, l5, c4⟩, x0⟩] (fun _ : Unit => True) (fun _ => .int .i64 r.1) (fun _ => [⟨(.pair (.sl (.int .i64)) (.int .i64)), ⟨a3, l5, c4⟩, r.2⟩]) :=
  by
    subst hl6
    refine FX.of (T := TTx) Tryz.call171 Tryz.func171 rfl rfl fun w0 L0 => ?_
    unfold M_l_markLineS at h
    refine JS.seq (JS.region (JO.reg ttOk 1 [] [] [] _ rfl ⟨trivial, rfl⟩ (JO.done rfl (JS.seq (JS.seq (JS.region (JO.reg ttOk 1 [] [] [(5, .v (.int .i64 0))] _ rfl ⟨⟨rfl, trivial⟩, rfl⟩ (JO.done rfl ?_))))))))
    obtain ⟨j28, hj36, h⟩ := joinO_some h
    refine JS.blockJ (ι := (List (List Int × Int)) × Int) ⟨fun z => j28 (z.1, z.2) = some r, fun z => [(1, .v (.int .i64 z.2))], fun z => .nil, fun z => [], fun z => [⟨(.pair (.sl (.int .i64)) (.int .i64)), ⟨a3, x0.length, c4⟩, z.1⟩], fun z => 0⟩ ?_ ?_
    · refine JS.loop (ι := Nat × (List (List Int × Int)) × Int × Int) ⟨fun z => fixF (M_l_markLineS_L1 x0 j28) z.1 (z.2.1, z.2.2.1, z.2.2.2) = some r, fun z => [(0, .v (.slice a3 x0.length c4)), (1, .v (.int .i64 z.2.2.1)), (5, .v (.int .i64 z.2.2.2))], fun z => .nil, fun z => [], fun z => [⟨(.pair (.sl (.int .i64)) (.int .i64)), ⟨a3, x0.length, c4⟩, z.2.1⟩], fun z => z.1⟩ (FUEL, x0, x1, 0) h ⟨rfl, rfl, rfl, trivial⟩ trivial [] rfl [0] rfl ?_
      rintro ⟨n23, x7, x8, x9⟩ h
      obtain ⟨n23, rfl, h⟩ := fixF_some h
      rw [M_l_markLineS_L1] at h
      refine JS.know 0 rfl fun hs33 => JS.seq (JS.seq (JS.region (JO.reg ttOk 4 [] [] [(9, .v (.bool (decide (x9 < (x0.length : Int)))))] _ rfl ⟨⟨rfl, trivial⟩, rfl⟩ (JO.done rfl ?_))))
      refine JS.cond rfl (fun ht34 => ?_) (fun ht34 => ?_)
      · have h := condT h ht34
        refine JS.skip (JS.seq (JS.block (JS.seq (JS.region ?_))))
        obtain ⟨g11, h⟩ := guardO_some h
        refine JO.reg ttOk 4 [] [] [(15, .ep ⟨a3, x0.length, c4⟩ (Int.toNat x9 * 2))] _ rfl ⟨(hs33.cast hs33.len.symm).ix g11, (hs33.cast hs33.len.symm).fa g11, ⟨rfl, trivial⟩, rfl⟩ (JO.lend [0] rfl (Int.toNat x9) (at' x7 x9) rfl fun a12 c13 l14 hl15 => ?_)
        obtain rfl : ([.slice a12 ((at' x7 x9).1).length c13, .int .i64 (at' x7 x9).2] : List Value) = l14 := Option.some.inj hl15
        refine JO.loadV ttOk rfl rfl rfl rfl rfl rfl 0 rfl rfl (Int.toNat x9) 0 (Sum.inr [.slice a12 ((at' x7 x9).1).length c13, .int .i64 (at' x7 x9).2]) ⟨lentL_at (at_someL hs33.len.symm g11), rfl⟩ rfl rfl rfl (JO.reg ttOk 1 [] [] [(17, .v (.int .i64 x8))] _ rfl ⟨⟨rfl, trivial⟩, rfl⟩ ?_)
        obtain ⟨⟨y16, y17⟩, hy18, h⟩ := bindO_some h
        refine JO.callX rfl rfl rfl rfl (ok_l_markIntS ((at' x7 x9).1) x8 a12 c13 (((at' x7 x9).1).length) rfl _ hy18) rfl [1] rfl [] rfl rfl fun _ _ => JO.know 0 rfl fun hs19 => JO.reg ttOk 1 [] [] [(1, .v (.int .i64 y16))] _ rfl ⟨⟨rfl, trivial⟩, rfl⟩ (JO.unlend [1, 0] rfl (y17, (at' x7 x9).2) ⟨rfl, rfl, rfl⟩ (JO.done rfl (JS.seq (JS.region ?_))))
        obtain ⟨g20, h⟩ := guardO_some h
        refine JO.reg ttOk 5 [] [] [(21, .v (.int .i64 y16)), (23, .ep ⟨a3, x0.length, c4⟩ (Int.toNat x9 * 2 + 1))] _ rfl ⟨(hs33.cast hs33.len.symm).ix g20, (hs33.cast hs33.len.symm).fa g20, ⟨rfl, rfl, trivial⟩, rfl⟩ (JO.storeE ttOk rfl rfl rfl rfl rfl rfl rfl rfl rfl [0] (fs := []) rfl (Int.toNat x9) 1 (at' (List.set x7 (Int.toNat x9) (y17, (at' x7 x9).2)) x9) ((at' (List.set x7 (Int.toNat x9) (y17, (at' x7 x9).2)) x9).1, y16) ⟨at_someL (List.length_set.trans hs33.len.symm) g20, rfl⟩ ⟨⟨rfl, rfl, rfl⟩, rfl⟩ (JO.done rfl (JS.region (JO.reg ttOk 3 [(W (y16 + 1))] [] [(1, .v (.int .i64 (W (y16 + 1))))] _ rfl ⟨⟨trivial, rfl⟩, ⟨rfl, trivial⟩, rfl⟩ (JO.done rfl (JS.endB (JS.region (JO.reg ttOk 3 [(W (x9 + 1))] [] [(5, .v (.int .i64 (W (x9 + 1))))] _ rfl ⟨⟨trivial, rfl⟩, ⟨rfl, trivial⟩, rfl⟩ (JO.done rfl (JS.endL (n23, (List.set (List.set x7 (Int.toNat x9) (y17, (at' x7 x9).2)) (Int.toNat x9) ((at' (List.set x7 (Int.toNat x9) (y17, (at' x7 x9).2)) x9).1, y16)), (W (y16 + 1)), (W (x9 + 1))) h (Nat.lt_succ_self _) ⟨rfl, rfl, rfl, trivial⟩ trivial [] rfl [0] rfl))))))))))
      have h := condF h ht34
      refine JS.exit rfl (JS.endJ (x7, x8) h ⟨rfl, trivial⟩ trivial [] rfl [0] rfl)
    rintro ⟨x26, x27⟩ h
    subst hj36
    refine JS.know 0 rfl fun hs35 => JS.seq (JS.region (JO.reg ttOk 2 [] [] [(4, .v (.int .i64 x27))] _ rfl ⟨⟨rfl, trivial⟩, rfl⟩ (JO.done rfl ?_)))
    cases h
    exact JS.retX ttOk () trivial rfl rfl [0] rfl

def M_l_markUndo (x0 : List (List Int × Int)) (x1 : Int) : Option (Int × List (List Int × Int)) :=
  (bindO (M_l_markLineS x0 x1) fun (y7, y8) =>
  some (y7, y8))

theorem ok_l_markUndo (x0 : List (List Int × Int)) (x1 : Int) (a3 : Option Addr) (c4 : Nat) (l5 : Nat) (hl6 : x0.length = l5) (r : Int × List (List Int × Int)) (h : M_l_markUndo x0 x1 = some r) :
    FX Tryz.prog 72 [.agg #[.slice a3 l5 c4], .int .i64 x1] [] [⟨(.pair (.sl (.int .i64)) (.int .i64)), ⟨a3, l5, c4⟩, x0⟩] (fun _ : Unit => True) (fun _ => .int .i64 r.1) (fun _ => [⟨(.pair (.sl (.int .i64)) (.int .i64)), ⟨a3, l5, c4⟩, r.2⟩]) :=
  by
    subst hl6
    refine FX.of (T := TTx) Tryz.call72 Tryz.func72 rfl rfl fun w0 L0 => ?_
    unfold M_l_markUndo at h
    refine JS.seq (JS.region (JO.regB ttOk 2 [] [2] [(2, .bp 2 0)] (.new 2 40 [.slice a3 x0.length c4] .nil) rfl ⟨⟨rfl, trivial⟩, ⟨rfl, rfl, rfl, rfl, trivial⟩⟩ (JO.done rfl (JS.seq (JS.region (JO.reg ttOk 3 [] [] [(6, .v (.slice a3 x0.length c4)), (7, .v (.int .i64 x1))] _ rfl ⟨⟨rfl, rfl, trivial⟩, rfl⟩ ?_))))))
    obtain ⟨⟨y7, y8⟩, hy9, h⟩ := bindO_some h
    refine JO.callX rfl rfl rfl rfl (ok_l_markLineS x0 x1 a3 c4 x0.length rfl _ hy9) rfl [0] rfl [] rfl rfl fun _ _ => JO.know 0 rfl fun hs10 => JO.reg ttOk 1 [] [] [(1, .v (.int .i64 y7))] _ rfl ⟨⟨rfl, trivial⟩, rfl⟩ (JO.done rfl (JS.seq (JS.region (JO.reg ttOk 2 [] [] [(4, .v (.int .i64 y7))] _ rfl ⟨⟨rfl, trivial⟩, rfl⟩ (JO.done rfl ?_)))))
    cases h
    exact JS.retX ttOk () trivial rfl rfl [0] rfl

def M_l_markEd (x0 : Bool × Int × (List Int × Int) × Int × Int × Int × Int × Int × Int × Int × List (List Int) × (List (List Int × Int)) × Int × (List Int × Int) × List Int × Int × List Int × Int) (x1 : Int) : Option (Int × List Int × List (List Int) × (List (List Int × Int)) × List Int × List Int × List Int) :=
  (bindO (M_l_markLine x0.2.2.1 x1) fun (y27, y28) =>
  (bindO (M_l_markRing x0.2.2.2.2.2.2.2.2.2.2.1 y27) fun (y31, y32) =>
  (bindO (M_l_markUndo x0.2.2.2.2.2.2.2.2.2.2.2.1 y31) fun (y35, y36) =>
  (bindO (M_l_markLine x0.2.2.2.2.2.2.2.2.2.2.2.2.2.1 y35) fun (y39, y40) =>
  (bindO (M_l_markIntS x0.2.2.2.2.2.2.2.2.2.2.2.2.2.2.1 y39) fun (y43, y44) =>
  (bindO (M_l_markLine x0.2.2.2.2.2.2.2.2.2.2.2.2.2.2.2.2 y43) fun (y47, y48) =>
  some (y47, y28, y32, y36, y40, y44, y48)))))))

theorem ok_l_markEd (x0 : Bool × Int × (List Int × Int) × Int × Int × Int × Int × Int × Int × Int × List (List Int) × (List (List Int × Int)) × Int × (List Int × Int) × List Int × Int × List Int × Int) (x1 : Int) (a3 : Option Addr) (c4 : Nat) (l5 : Nat) (hl6 : x0.2.2.1.1.length = l5) (a7 : Option Addr) (c8 : Nat) (l9 : Nat) (hl10 : x0.2.2.2.2.2.2.2.2.2.2.1.length = l9) (a11 : Option Addr) (c12 : Nat) (l13 : Nat) (hl14 : x0.2.2.2.2.2.2.2.2.2.2.2.1.length = l13) (a15 : Option Addr) (c16 : Nat) (l17 : Nat) (hl18 : x0.2.2.2.2.2.2.2.2.2.2.2.2.2.1.1.length = l17) (a19 : Option Addr) (c20 : Nat) (l21 : Nat) (hl22 : x0.2.2.2.2.2.2.2.2.2.2.2.2.2.2.1.length = l21) (a23 : Option Addr) (c24 : Nat) (l25 : Nat) (hl26 : x0.2.2.2.2.2.2.2.2.2.2.2.2.2.2.2.2.1.length = l25) (r : Int × List Int × List (List Int) × (List (List Int × Int)) × List Int × List Int × List Int) (h : M_l_markEd x0 x1 = some r) :
    FX Tryz.prog 17 [.agg #[.bool x0.1, .int .i64 x0.2.1, .slice a3 l5 c4, .int .i64 x0.2.2.1.2, .int .i64 x0.2.2.2.1, .int .i64 x0.2.2.2.2.1, .int .i64 x0.2.2.2.2.2.1, .int .i64 x0.2.2.2.2.2.2.1, .int .i64 x0.2.2.2.2.2.2.2.1, .int .i64 x0.2.2.2.2.2.2.2.2.1, .int .i64 x0.2.2.2.2.2.2.2.2.2.1, .slice a7 l9 c8, .slice a11 l13 c12, .int .i64 x0.2.2.2.2.2.2.2.2.2.2.2.2.1, .slice a15 l17 c16, .int .i64 x0.2.2.2.2.2.2.2.2.2.2.2.2.2.1.2, .slice a19 l21 c20, .int .i64 x0.2.2.2.2.2.2.2.2.2.2.2.2.2.2.2.1, .slice a23 l25 c24, .int .i64 x0.2.2.2.2.2.2.2.2.2.2.2.2.2.2.2.2.2], .int .i64 x1] [] [⟨(.int .i64), ⟨a3, l5, c4⟩, x0.2.2.1.1⟩, ⟨(.sl (.int .i64)), ⟨a7, l9, c8⟩, x0.2.2.2.2.2.2.2.2.2.2.1⟩, ⟨(.pair (.sl (.int .i64)) (.int .i64)), ⟨a11, l13, c12⟩, x0.2.2.2.2.2.2.2.2.2.2.2.1⟩, ⟨(.int .i64), ⟨a15, l17, c16⟩, x0.2.2.2.2.2.2.2.2.2.2.2.2.2.1.1⟩, ⟨(.int .i64), ⟨a19, l21, c20⟩, x0.2.2.2.2.2.2.2.2.2.2.2.2.2.2.1⟩, ⟨(.int .i64), ⟨a23, l25, c24⟩, x0.2.2.2.2.2.2.2.2.2.2.2.2.2.2.2.2.1⟩] (fun _ : Unit => True) (fun _ => .int .i64 r.1) (fun _ => [⟨(.int .i64), ⟨a3, l5, c4⟩, r.2.1⟩, ⟨(.sl (.int .i64)), ⟨a7, l9, c8⟩, r.2.2.1⟩, ⟨(.pair (.sl (.int .i64)) (.int .i64)), ⟨a11, l13, c12⟩, r.2.2.2.1⟩, ⟨(.int .i64), ⟨a15, l17, c16⟩, r.2.2.2.2.1⟩, ⟨(.int .i64), ⟨a19, l21, c20⟩, r.2.2.2.2.2.1⟩, ⟨(.int .i64), ⟨a23, l25, c24⟩, r.2.2.2.2.2.2⟩]) :=
  by
    subst hl6
    subst hl10
    subst hl14
    subst hl18
    subst hl22
    subst hl26
    refine FX.of (T := TTx) Tryz.call17 Tryz.func17 rfl rfl fun w0 L0 => ?_
    unfold M_l_markEd at h
    refine JS.seq (JS.region (JO.regB ttOk 2 [] [7] [(2, .bp 7 0)] (.new 7 42 (cl42 x0 a3 c4 a7 c8 a11 c12 a15 c16 a19 c20 a23 c24) .nil) rfl ⟨⟨rfl, trivial⟩, ⟨rfl, rfl, rfl, rfl, trivial⟩⟩ (JO.done rfl (JS.seq (JS.region (JO.reg ttOk 3 [] [] [(6, .v (.agg #[.slice a3 x0.2.2.1.1.length c4, .int .i64 x0.2.2.1.2])), (7, .v (.int .i64 x1))] _ rfl ⟨⟨rfl, rfl, trivial⟩, rfl⟩ ?_))))))
    obtain ⟨⟨y27, y28⟩, hy29, h⟩ := bindO_some h
    refine JO.callX rfl rfl rfl rfl (ok_l_markLine x0.2.2.1 x1 a3 c4 x0.2.2.1.1.length rfl _ hy29) rfl [0] rfl [] rfl rfl fun _ _ => JO.know 0 rfl fun hs30 => JO.reg ttOk 1 [] [] [(1, .v (.int .i64 y27))] _ rfl ⟨⟨rfl, trivial⟩, rfl⟩ (JO.done rfl (JS.seq (JS.region (JO.reg ttOk 3 [] [] [(10, .v (.agg #[.slice a7 x0.2.2.2.2.2.2.2.2.2.2.1.length c8])), (11, .v (.int .i64 y27))] _ rfl ⟨⟨rfl, rfl, trivial⟩, rfl⟩ ?_))))
    obtain ⟨⟨y31, y32⟩, hy33, h⟩ := bindO_some h
    refine JO.callX rfl rfl rfl rfl (ok_l_markRing x0.2.2.2.2.2.2.2.2.2.2.1 y27 a7 c8 x0.2.2.2.2.2.2.2.2.2.2.1.length rfl _ hy33) rfl [1] rfl [] rfl rfl fun _ _ => JO.know 0 rfl fun hs34 => JO.reg ttOk 1 [] [] [(1, .v (.int .i64 y31))] _ rfl ⟨⟨rfl, trivial⟩, rfl⟩ (JO.done rfl (JS.seq (JS.region (JO.reg ttOk 3 [] [] [(14, .v (.agg #[.slice a11 x0.2.2.2.2.2.2.2.2.2.2.2.1.length c12])), (15, .v (.int .i64 y31))] _ rfl ⟨⟨rfl, rfl, trivial⟩, rfl⟩ ?_))))
    obtain ⟨⟨y35, y36⟩, hy37, h⟩ := bindO_some h
    refine JO.callX rfl rfl rfl rfl (ok_l_markUndo x0.2.2.2.2.2.2.2.2.2.2.2.1 y31 a11 c12 x0.2.2.2.2.2.2.2.2.2.2.2.1.length rfl _ hy37) rfl [2] rfl [] rfl rfl fun _ _ => JO.know 0 rfl fun hs38 => JO.reg ttOk 1 [] [] [(1, .v (.int .i64 y35))] _ rfl ⟨⟨rfl, trivial⟩, rfl⟩ (JO.done rfl (JS.seq (JS.region (JO.reg ttOk 3 [] [] [(18, .v (.agg #[.slice a15 x0.2.2.2.2.2.2.2.2.2.2.2.2.2.1.1.length c16, .int .i64 x0.2.2.2.2.2.2.2.2.2.2.2.2.2.1.2])), (19, .v (.int .i64 y35))] _ rfl ⟨⟨rfl, rfl, trivial⟩, rfl⟩ ?_))))
    obtain ⟨⟨y39, y40⟩, hy41, h⟩ := bindO_some h
    refine JO.callX rfl rfl rfl rfl (ok_l_markLine x0.2.2.2.2.2.2.2.2.2.2.2.2.2.1 y35 a15 c16 x0.2.2.2.2.2.2.2.2.2.2.2.2.2.1.1.length rfl _ hy41) rfl [3] rfl [] rfl rfl fun _ _ => JO.know 0 rfl fun hs42 => JO.reg ttOk 1 [] [] [(1, .v (.int .i64 y39))] _ rfl ⟨⟨rfl, trivial⟩, rfl⟩ (JO.done rfl (JS.seq (JS.region (JO.reg ttOk 3 [] [] [(22, .v (.slice a19 x0.2.2.2.2.2.2.2.2.2.2.2.2.2.2.1.length c20)), (23, .v (.int .i64 y39))] _ rfl ⟨⟨rfl, rfl, trivial⟩, rfl⟩ ?_))))
    obtain ⟨⟨y43, y44⟩, hy45, h⟩ := bindO_some h
    refine JO.callX rfl rfl rfl rfl (ok_l_markIntS x0.2.2.2.2.2.2.2.2.2.2.2.2.2.2.1 y39 a19 c20 x0.2.2.2.2.2.2.2.2.2.2.2.2.2.2.1.length rfl _ hy45) rfl [4] rfl [] rfl rfl fun _ _ => JO.know 0 rfl fun hs46 => JO.reg ttOk 1 [] [] [(1, .v (.int .i64 y43))] _ rfl ⟨⟨rfl, trivial⟩, rfl⟩ (JO.done rfl (JS.seq (JS.region (JO.reg ttOk 3 [] [] [(26, .v (.agg #[.slice a23 x0.2.2.2.2.2.2.2.2.2.2.2.2.2.2.2.2.1.length c24, .int .i64 x0.2.2.2.2.2.2.2.2.2.2.2.2.2.2.2.2.2])), (27, .v (.int .i64 y43))] _ rfl ⟨⟨rfl, rfl, trivial⟩, rfl⟩ ?_))))
    obtain ⟨⟨y47, y48⟩, hy49, h⟩ := bindO_some h
    refine JO.callX rfl rfl rfl rfl (ok_l_markLine x0.2.2.2.2.2.2.2.2.2.2.2.2.2.2.2.2 y43 a23 c24 x0.2.2.2.2.2.2.2.2.2.2.2.2.2.2.2.2.1.length rfl _ hy49) rfl [5] rfl [] rfl rfl fun _ _ => JO.know 0 rfl fun hs50 => JO.reg ttOk 1 [] [] [(1, .v (.int .i64 y47))] _ rfl ⟨⟨rfl, trivial⟩, rfl⟩ (JO.done rfl (JS.seq (JS.region (JO.reg ttOk 2 [] [] [(4, .v (.int .i64 y47))] _ rfl ⟨⟨rfl, trivial⟩, rfl⟩ (JO.done rfl ?_)))))
    cases h
    exact JS.retX ttOk () trivial rfl rfl [5, 4, 3, 2, 1, 0] rfl

def M_l_heldIntS_L1 (x0 : List Int) (j19 : Int → Option Int) (k13 : (Int × Int) → Option Int) : (Int × Int) → Option Int := fun (x7, x8) =>
  (bif (decide (x8 < (x0.length : Int))) then
  (guardO (0 ≤ x8 ∧ x8 < (x0.length : Int)) <|
  (bif (!(decide ((at' x0 x8) = x7))) then
  some (-1)
  else
  k13 ((W (x7 + 1)), (W (x8 + 1)))))
  else
  j19 x7)

def M_l_heldIntS (x0 : List Int) (x1 : Int) : Option Int :=
  (joinO (fun (x18 : Int) =>
  some x18) fun j19 =>
  (fixF (M_l_heldIntS_L1 x0 j19) FUEL (x1, 0)))

theorem ok_l_heldIntS (x0 : List Int) (x1 : Int) (a3 : Option Addr) (c4 : Nat) (l5 : Nat) (hl6 : x0.length = l5) (r : Int) (h : M_l_heldIntS x0 x1 = some r) :
    FC Tryz.prog 76 [.slice a3 l5 c4, .int .i64 x1] [⟨(.int .i64), ⟨a3, l5, c4⟩, x0⟩] (fun _ : Unit => True) (fun _ => .int .i64 r) (fun _ => []) :=
  by
    subst hl6
    refine FC.of (T := TTx) Tryz.call76 Tryz.func76 rfl rfl fun w0 => ?_
    unfold M_l_heldIntS at h
    refine JS.seq (JS.region (JO.reg ttOk 1 [] [] [] _ rfl ⟨trivial, rfl⟩ (JO.done rfl (JS.seq (JS.seq (JS.region (JO.reg ttOk 1 [] [] [(5, .v (.int .i64 0))] _ rfl ⟨⟨rfl, trivial⟩, rfl⟩ (JO.done rfl ?_))))))))
    obtain ⟨j19, hj27, h⟩ := joinO_some h
    refine JS.blockJ (ι := Int) ⟨fun z => j19 z = some r, fun z => [(1, .v (.int .i64 z))], fun z => .nil, fun z => [], fun z => [], fun z => 0⟩ ?_ ?_
    · refine JS.loop (ι := Nat × Int × Int) ⟨fun z => fixF (M_l_heldIntS_L1 x0 j19) z.1 (z.2.1, z.2.2) = some r, fun z => [(0, .v (.slice a3 x0.length c4)), (1, .v (.int .i64 z.2.1)), (5, .v (.int .i64 z.2.2))], fun z => .nil, fun z => [⟨(.int .i64), ⟨a3, x0.length, c4⟩, x0⟩], fun z => [], fun z => z.1⟩ (FUEL, x1, 0) h ⟨rfl, rfl, rfl, trivial⟩ trivial [0] rfl [] rfl ?_
      rintro ⟨n14, x7, x8⟩ h
      obtain ⟨n14, rfl, h⟩ := fixF_some h
      rw [M_l_heldIntS_L1] at h
      refine JS.seq (JS.seq (JS.region (JO.reg ttOk 4 [] [] [(9, .v (.bool (decide (x8 < (x0.length : Int)))))] _ rfl ⟨⟨rfl, trivial⟩, rfl⟩ (JO.done rfl ?_))))
      refine JS.cond rfl (fun ht26 => ?_) (fun ht26 => ?_)
      · have h := condT h ht26
        refine JS.skip (JS.seq (JS.block (JS.seq (JS.seq (JS.region (JO.know 0 rfl fun hs24 => ?_))))))
        obtain ⟨g10, h⟩ := guardO_some h
        refine JO.reg ttOk 3 [] [] [(14, .ep ⟨a3, x0.length, c4⟩ (Int.toNat x8 * 1))] _ rfl ⟨hs24.ix g10, ⟨rfl, trivial⟩, rfl⟩ (JO.load ttOk rfl rfl rfl rfl rfl rfl rfl 0 rfl rfl (Int.toNat x8) 0 (at' x0 x8) ⟨at_some g10, rfl⟩ rfl rfl (JO.reg ttOk 2 [] [] [(17, .v (.bool (!(decide ((at' x0 x8) = x7)))))] _ rfl ⟨⟨rfl, trivial⟩, rfl⟩ (JO.done rfl ?_)))
        refine JS.cond rfl (fun ht25 => ?_) (fun ht25 => ?_)
        · have h := condT h ht25
          refine JS.seq (JS.region (JO.reg ttOk 1 [] [] [(4, .v (.int .i64 (-1)))] _ rfl ⟨⟨rfl, trivial⟩, rfl⟩ (JO.done rfl ?_)))
          cases h
          exact JS.ret ttOk () trivial rfl rfl [] rfl
        have h := condF h ht25
        refine JS.skip (JS.region (JO.reg ttOk 3 [(W (x7 + 1))] [] [(1, .v (.int .i64 (W (x7 + 1))))] _ rfl ⟨⟨trivial, rfl⟩, ⟨rfl, trivial⟩, rfl⟩ (JO.done rfl (JS.endB (JS.region (JO.reg ttOk 3 [(W (x8 + 1))] [] [(5, .v (.int .i64 (W (x8 + 1))))] _ rfl ⟨⟨trivial, rfl⟩, ⟨rfl, trivial⟩, rfl⟩ (JO.done rfl (JS.endL (n14, (W (x7 + 1)), (W (x8 + 1))) h (Nat.lt_succ_self _) ⟨rfl, rfl, rfl, trivial⟩ trivial [0] rfl [] rfl))))))))
      have h := condF h ht26
      refine JS.exit rfl (JS.endJ x7 h ⟨rfl, trivial⟩ trivial [] rfl [] rfl)
    rintro x18 h
    subst hj27
    refine JS.seq (JS.region (JO.reg ttOk 2 [] [] [(4, .v (.int .i64 x18))] _ rfl ⟨⟨rfl, trivial⟩, rfl⟩ (JO.done rfl ?_)))
    cases h
    exact JS.ret ttOk () trivial rfl rfl [] rfl

def M_l_heldLine (x0 : List Int × Int) (x1 : Int) : Option Int :=
  (bindO (M_l_heldIntS x0.1 x1) fun (y7 : Int) =>
  (bif (decide (y7 < 0)) then
  some (-1)
  else
  some y7))

theorem ok_l_heldLine (x0 : List Int × Int) (x1 : Int) (a3 : Option Addr) (c4 : Nat) (l5 : Nat) (hl6 : x0.1.length = l5) (r : Int) (h : M_l_heldLine x0 x1 = some r) :
    FC Tryz.prog 73 [.agg #[.slice a3 l5 c4, .int .i64 x0.2], .int .i64 x1] [⟨(.int .i64), ⟨a3, l5, c4⟩, x0.1⟩] (fun _ : Unit => True) (fun _ => .int .i64 r) (fun _ => []) :=
  by
    subst hl6
    refine FC.of (T := TTx) Tryz.call73 Tryz.func73 rfl rfl fun w0 => ?_
    unfold M_l_heldLine at h
    refine JS.seq (JS.region (JO.regB ttOk 2 [] [2] [(2, .bp 2 0)] (.new 2 34 [.slice a3 x0.1.length c4, .int .i64 x0.2] .nil) rfl ⟨⟨rfl, trivial⟩, ⟨rfl, rfl, rfl, rfl, trivial⟩⟩ (JO.done rfl (JS.seq (JS.region (JO.reg ttOk 3 [] [] [(6, .v (.slice a3 x0.1.length c4)), (7, .v (.int .i64 x1))] _ rfl ⟨⟨rfl, rfl, trivial⟩, rfl⟩ ?_))))))
    obtain ⟨y7, hy8, h⟩ := bindO_some h
    refine JO.call rfl rfl rfl rfl (ok_l_heldIntS x0.1 x1 a3 c4 x0.1.length rfl _ hy8) rfl [0] rfl rfl fun _ _ => JO.reg ttOk 1 [] [] [(1, .v (.int .i64 y7))] _ rfl ⟨⟨rfl, trivial⟩, rfl⟩ (JO.done rfl (JS.seq (JS.seq (JS.region (JO.reg ttOk 2 [] [] [(10, .v (.bool (decide (y7 < 0))))] _ rfl ⟨⟨rfl, trivial⟩, rfl⟩ (JO.done rfl ?_))))))
    refine JS.cond rfl (fun ht10 => ?_) (fun ht10 => ?_)
    · have h := condT h ht10
      refine JS.seq (JS.region (JO.reg ttOk 1 [] [] [(4, .v (.int .i64 (-1)))] _ rfl ⟨⟨rfl, trivial⟩, rfl⟩ (JO.done rfl ?_)))
      cases h
      exact JS.ret ttOk () trivial rfl rfl [] rfl
    have h := condF h ht10
    refine JS.skip (JS.seq (JS.region (JO.reg ttOk 2 [] [] [(4, .v (.int .i64 y7))] _ rfl ⟨⟨rfl, trivial⟩, rfl⟩ (JO.done rfl ?_))))
    cases h
    exact JS.ret ttOk () trivial rfl rfl [] rfl

def M_l_heldPieceS_L1 (x0 : List (List Int)) (j26 : Int → Option Int) (k20 : (Int × Int) → Option Int) : (Int × Int) → Option Int := fun (x7, x8) =>
  (bif (decide (x8 < (x0.length : Int))) then
  (guardO (0 ≤ x8 ∧ x8 < (x0.length : Int)) <|
  (bindO (M_l_heldIntS (at' x0 x8) x7) fun (y16 : Int) =>
  (bif (decide (y16 < 0)) then
  some (-1)
  else
  k20 (y16, (W (x8 + 1))))))
  else
  j26 x7)

def M_l_heldPieceS (x0 : List (List Int)) (x1 : Int) : Option Int :=
  (joinO (fun (x25 : Int) =>
  some x25) fun j26 =>
  (fixF (M_l_heldPieceS_L1 x0 j26) FUEL (x1, 0)))

theorem ok_l_heldPieceS (x0 : List (List Int)) (x1 : Int) (a3 : Option Addr) (c4 : Nat) (l5 : Nat) (hl6 : x0.length = l5) (r : Int) (h : M_l_heldPieceS x0 x1 = some r) :
    FC Tryz.prog 172 [.slice a3 l5 c4, .int .i64 x1] [⟨(.sl (.int .i64)), ⟨a3, l5, c4⟩, x0⟩] (fun _ : Unit => True) (fun _ => .int .i64 r) (fun _ => []) :=
  by
    subst hl6
    refine FC.of (T := TTx) Tryz.call172 Tryz.func172 rfl rfl fun w0 => ?_
    unfold M_l_heldPieceS at h
    refine JS.seq (JS.region (JO.reg ttOk 1 [] [] [] _ rfl ⟨trivial, rfl⟩ (JO.done rfl (JS.seq (JS.seq (JS.region (JO.reg ttOk 1 [] [] [(5, .v (.int .i64 0))] _ rfl ⟨⟨rfl, trivial⟩, rfl⟩ (JO.done rfl ?_))))))))
    obtain ⟨j26, hj34, h⟩ := joinO_some h
    refine JS.blockJ (ι := Int) ⟨fun z => j26 z = some r, fun z => [(1, .v (.int .i64 z))], fun z => .nil, fun z => [], fun z => [], fun z => 0⟩ ?_ ?_
    · refine JS.loop (ι := Nat × Int × Int) ⟨fun z => fixF (M_l_heldPieceS_L1 x0 j26) z.1 (z.2.1, z.2.2) = some r, fun z => [(0, .v (.slice a3 x0.length c4)), (1, .v (.int .i64 z.2.1)), (5, .v (.int .i64 z.2.2))], fun z => .nil, fun z => [⟨(.sl (.int .i64)), ⟨a3, x0.length, c4⟩, x0⟩], fun z => [], fun z => z.1⟩ (FUEL, x1, 0) h ⟨rfl, rfl, rfl, trivial⟩ trivial [0] rfl [] rfl ?_
      rintro ⟨n21, x7, x8⟩ h
      obtain ⟨n21, rfl, h⟩ := fixF_some h
      rw [M_l_heldPieceS_L1] at h
      refine JS.seq (JS.seq (JS.region (JO.reg ttOk 4 [] [] [(9, .v (.bool (decide (x8 < (x0.length : Int)))))] _ rfl ⟨⟨rfl, trivial⟩, rfl⟩ (JO.done rfl ?_))))
      refine JS.cond rfl (fun ht33 => ?_) (fun ht33 => ?_)
      · have h := condT h ht33
        refine JS.skip (JS.seq (JS.block (JS.seq (JS.region (JO.know 0 rfl fun hs31 => ?_)))))
        obtain ⟨g10, h⟩ := guardO_some h
        refine JO.reg ttOk 4 [] [] [(15, .ep ⟨a3, x0.length, c4⟩ (Int.toNat x8 * 1))] _ rfl ⟨hs31.ix g10, hs31.fa g10, ⟨rfl, trivial⟩, rfl⟩ (JO.openR 0 rfl (Int.toNat x8) (at' x0 x8) rfl fun a11 c12 ys13 hl14 hy15 => JO.loadV ttOk rfl rfl rfl rfl rfl rfl 0 rfl rfl (Int.toNat x8) 0 (Sl.v ⟨a11, (at' x0 x8).length, c12⟩) ⟨hy15 (ltNat g10), rfl⟩ rfl rfl rfl (JO.reg ttOk 1 [] [] [(17, .v (.int .i64 x7))] _ rfl ⟨⟨rfl, trivial⟩, rfl⟩ ?_))
        obtain ⟨y16, hy17, h⟩ := bindO_some h
        refine JO.call rfl rfl rfl rfl (ok_l_heldIntS (at' x0 x8) x7 a11 c12 ((at' x0 x8).length) rfl _ hy17) rfl [1] rfl rfl fun _ _ => JO.reg ttOk 1 [] [] [(1, .v (.int .i64 y16))] _ rfl ⟨⟨rfl, trivial⟩, rfl⟩ (JO.done rfl (JS.seq (JS.region (JO.reg ttOk 2 [] [] [(20, .v (.bool (decide (y16 < 0))))] _ rfl ⟨⟨rfl, trivial⟩, rfl⟩ (JO.done rfl ?_)))))
        refine JS.cond rfl (fun ht32 => ?_) (fun ht32 => ?_)
        · have h := condT h ht32
          refine JS.seq (JS.region (JO.reg ttOk 1 [] [] [(4, .v (.int .i64 (-1)))] _ rfl ⟨⟨rfl, trivial⟩, rfl⟩ (JO.done rfl ?_)))
          cases h
          exact JS.ret ttOk () trivial rfl rfl [] rfl
        have h := condF h ht32
        refine JS.skip (JS.endB (JS.region (JO.reg ttOk 3 [(W (x8 + 1))] [] [(5, .v (.int .i64 (W (x8 + 1))))] _ rfl ⟨⟨trivial, rfl⟩, ⟨rfl, trivial⟩, rfl⟩ (JO.done rfl (JS.endL (n21, y16, (W (x8 + 1))) h (Nat.lt_succ_self _) ⟨rfl, rfl, rfl, trivial⟩ trivial [2] rfl [] rfl)))))
      have h := condF h ht33
      refine JS.exit rfl (JS.endJ x7 h ⟨rfl, trivial⟩ trivial [] rfl [] rfl)
    rintro x25 h
    subst hj34
    refine JS.seq (JS.region (JO.reg ttOk 2 [] [] [(4, .v (.int .i64 x25))] _ rfl ⟨⟨rfl, trivial⟩, rfl⟩ (JO.done rfl ?_)))
    cases h
    exact JS.ret ttOk () trivial rfl rfl [] rfl

def M_l_heldRing (x0 : List (List Int)) (x1 : Int) : Option Int :=
  (bindO (M_l_heldPieceS x0 x1) fun (y7 : Int) =>
  (bif (decide (y7 < 0)) then
  some (-1)
  else
  some y7))

theorem ok_l_heldRing (x0 : List (List Int)) (x1 : Int) (a3 : Option Addr) (c4 : Nat) (l5 : Nat) (hl6 : x0.length = l5) (r : Int) (h : M_l_heldRing x0 x1 = some r) :
    FC Tryz.prog 74 [.agg #[.slice a3 l5 c4], .int .i64 x1] [⟨(.sl (.int .i64)), ⟨a3, l5, c4⟩, x0⟩] (fun _ : Unit => True) (fun _ => .int .i64 r) (fun _ => []) :=
  by
    subst hl6
    refine FC.of (T := TTx) Tryz.call74 Tryz.func74 rfl rfl fun w0 => ?_
    unfold M_l_heldRing at h
    refine JS.seq (JS.region (JO.regB ttOk 2 [] [2] [(2, .bp 2 0)] (.new 2 37 [.slice a3 x0.length c4] .nil) rfl ⟨⟨rfl, trivial⟩, ⟨rfl, rfl, rfl, rfl, trivial⟩⟩ (JO.done rfl (JS.seq (JS.region (JO.reg ttOk 3 [] [] [(6, .v (.slice a3 x0.length c4)), (7, .v (.int .i64 x1))] _ rfl ⟨⟨rfl, rfl, trivial⟩, rfl⟩ ?_))))))
    obtain ⟨y7, hy8, h⟩ := bindO_some h
    refine JO.call rfl rfl rfl rfl (ok_l_heldPieceS x0 x1 a3 c4 x0.length rfl _ hy8) rfl [0] rfl rfl fun _ _ => JO.reg ttOk 1 [] [] [(1, .v (.int .i64 y7))] _ rfl ⟨⟨rfl, trivial⟩, rfl⟩ (JO.done rfl (JS.seq (JS.seq (JS.region (JO.reg ttOk 2 [] [] [(10, .v (.bool (decide (y7 < 0))))] _ rfl ⟨⟨rfl, trivial⟩, rfl⟩ (JO.done rfl ?_))))))
    refine JS.cond rfl (fun ht10 => ?_) (fun ht10 => ?_)
    · have h := condT h ht10
      refine JS.seq (JS.region (JO.reg ttOk 1 [] [] [(4, .v (.int .i64 (-1)))] _ rfl ⟨⟨rfl, trivial⟩, rfl⟩ (JO.done rfl ?_)))
      cases h
      exact JS.ret ttOk () trivial rfl rfl [] rfl
    have h := condF h ht10
    refine JS.skip (JS.seq (JS.region (JO.reg ttOk 2 [] [] [(4, .v (.int .i64 y7))] _ rfl ⟨⟨rfl, trivial⟩, rfl⟩ (JO.done rfl ?_))))
    cases h
    exact JS.ret ttOk () trivial rfl rfl [] rfl

def M_l_heldLineS_L1 (x0 : List (List Int × Int)) (j29 : Int → Option Int) (k22 : (Int × Int) → Option Int) : (Int × Int) → Option Int := fun (x7, x8) =>
  (bif (decide (x8 < (x0.length : Int))) then
  (guardO (0 ≤ x8 ∧ x8 < (x0.length : Int)) <|
  (bindO (M_l_heldIntS ((at' x0 x8).1) x7) fun (y16 : Int) =>
  (bif (decide (y16 < 0)) then
  some (-1)
  else
  (guardO (0 ≤ x8 ∧ x8 < (x0.length : Int)) <|
  (bif (!(decide ((at' x0 x8).2 = y16))) then
  some (-1)
  else
  k22 ((W (y16 + 1)), (W (x8 + 1))))))))
  else
  j29 x7)

def M_l_heldLineS (x0 : List (List Int × Int)) (x1 : Int) : Option Int :=
  (joinO (fun (x28 : Int) =>
  some x28) fun j29 =>
  (fixF (M_l_heldLineS_L1 x0 j29) FUEL (x1, 0)))

theorem ok_l_heldLineS (x0 : List (List Int × Int)) (x1 : Int) (a3 : Option Addr) (c4 : Nat) (l5 : Nat) (hl6 : x0.length = l5) (r : Int) (h : M_l_heldLineS x0 x1 = some r) :
    FC Tryz.prog 173 [.slice a3 l5 c4, .int .i64 x1] [⟨(.pair (.sl (.int .i64)) (.int .i64)), ⟨a3, l5, c4⟩, x0⟩] (fun _ : Unit => True) (fun _ => .int .i64 r) (fun _ => []) :=
  by
    subst hl6
    refine FC.of (T := TTx) Tryz.call173 Tryz.func173 rfl rfl fun w0 => ?_
    unfold M_l_heldLineS at h
    refine JS.seq (JS.region (JO.reg ttOk 1 [] [] [] _ rfl ⟨trivial, rfl⟩ (JO.done rfl (JS.seq (JS.seq (JS.region (JO.reg ttOk 1 [] [] [(5, .v (.int .i64 0))] _ rfl ⟨⟨rfl, trivial⟩, rfl⟩ (JO.done rfl ?_))))))))
    obtain ⟨j29, hj39, h⟩ := joinO_some h
    refine JS.blockJ (ι := Int) ⟨fun z => j29 z = some r, fun z => [(1, .v (.int .i64 z))], fun z => .nil, fun z => [], fun z => [], fun z => 0⟩ ?_ ?_
    · refine JS.loop (ι := Nat × Int × Int) ⟨fun z => fixF (M_l_heldLineS_L1 x0 j29) z.1 (z.2.1, z.2.2) = some r, fun z => [(0, .v (.slice a3 x0.length c4)), (1, .v (.int .i64 z.2.1)), (5, .v (.int .i64 z.2.2))], fun z => .nil, fun z => [⟨(.pair (.sl (.int .i64)) (.int .i64)), ⟨a3, x0.length, c4⟩, x0⟩], fun z => [], fun z => z.1⟩ (FUEL, x1, 0) h ⟨rfl, rfl, rfl, trivial⟩ trivial [0] rfl [] rfl ?_
      rintro ⟨n23, x7, x8⟩ h
      obtain ⟨n23, rfl, h⟩ := fixF_some h
      rw [M_l_heldLineS_L1] at h
      refine JS.seq (JS.seq (JS.region (JO.reg ttOk 4 [] [] [(9, .v (.bool (decide (x8 < (x0.length : Int)))))] _ rfl ⟨⟨rfl, trivial⟩, rfl⟩ (JO.done rfl ?_))))
      refine JS.cond rfl (fun ht38 => ?_) (fun ht38 => ?_)
      · have h := condT h ht38
        refine JS.skip (JS.seq (JS.block (JS.seq (JS.region (JO.know 0 rfl fun hs35 => ?_)))))
        obtain ⟨g10, h⟩ := guardO_some h
        refine JO.reg ttOk 4 [] [] [(15, .ep ⟨a3, x0.length, c4⟩ (Int.toNat x8 * 2))] _ rfl ⟨hs35.ix g10, hs35.fa g10, ⟨rfl, trivial⟩, rfl⟩ (JO.openR 0 rfl (Int.toNat x8) (at' x0 x8) rfl fun a11 c12 ys13 hl14 hy15 => JO.loadV ttOk rfl rfl rfl rfl rfl rfl 0 rfl rfl (Int.toNat x8) 0 ((Sl.v ⟨a11, ((at' x0 x8).1).length, c12⟩), (at' x0 x8).2) ⟨hy15 (ltNat g10), rfl⟩ rfl rfl rfl (JO.reg ttOk 1 [] [] [(17, .v (.int .i64 x7))] _ rfl ⟨⟨rfl, trivial⟩, rfl⟩ ?_))
        obtain ⟨y16, hy17, h⟩ := bindO_some h
        refine JO.call rfl rfl rfl rfl (ok_l_heldIntS ((at' x0 x8).1) x7 a11 c12 (((at' x0 x8).1).length) rfl _ hy17) rfl [1] rfl rfl fun _ _ => JO.reg ttOk 1 [] [] [(1, .v (.int .i64 y16))] _ rfl ⟨⟨rfl, trivial⟩, rfl⟩ (JO.done rfl (JS.seq (JS.seq (JS.region (JO.reg ttOk 2 [] [] [(20, .v (.bool (decide (y16 < 0))))] _ rfl ⟨⟨rfl, trivial⟩, rfl⟩ (JO.done rfl ?_))))))
        refine JS.cond rfl (fun ht37 => ?_) (fun ht37 => ?_)
        · have h := condT h ht37
          refine JS.seq (JS.region (JO.reg ttOk 1 [] [] [(4, .v (.int .i64 (-1)))] _ rfl ⟨⟨rfl, trivial⟩, rfl⟩ (JO.done rfl ?_)))
          cases h
          exact JS.ret ttOk () trivial rfl rfl [] rfl
        have h := condF h ht37
        refine JS.skip (JS.seq (JS.seq (JS.region ?_)))
        obtain ⟨g18, h⟩ := guardO_some h
        refine JO.reg ttOk 4 [] [] [(24, .ep ⟨a3, x0.length, c4⟩ (Int.toNat x8 * 2 + 1))] _ rfl ⟨hs35.ix g18, hs35.fa g18, ⟨rfl, trivial⟩, rfl⟩ (JO.load ttOk rfl rfl rfl rfl rfl rfl rfl 2 rfl rfl (Int.toNat x8) 1 (at' x0 x8) ⟨at_some g18, rfl⟩ rfl rfl (JO.reg ttOk 2 [] [] [(27, .v (.bool (!(decide ((at' x0 x8).2 = y16)))))] _ rfl ⟨⟨rfl, trivial⟩, rfl⟩ (JO.done rfl ?_)))
        refine JS.cond rfl (fun ht36 => ?_) (fun ht36 => ?_)
        · have h := condT h ht36
          refine JS.seq (JS.region (JO.reg ttOk 1 [] [] [(4, .v (.int .i64 (-1)))] _ rfl ⟨⟨rfl, trivial⟩, rfl⟩ (JO.done rfl ?_)))
          cases h
          exact JS.ret ttOk () trivial rfl rfl [] rfl
        have h := condF h ht36
        refine JS.skip (JS.region (JO.reg ttOk 3 [(W (y16 + 1))] [] [(1, .v (.int .i64 (W (y16 + 1))))] _ rfl ⟨⟨trivial, rfl⟩, ⟨rfl, trivial⟩, rfl⟩ (JO.done rfl (JS.endB (JS.region (JO.reg ttOk 3 [(W (x8 + 1))] [] [(5, .v (.int .i64 (W (x8 + 1))))] _ rfl ⟨⟨trivial, rfl⟩, ⟨rfl, trivial⟩, rfl⟩ (JO.done rfl (JS.endL (n23, (W (y16 + 1)), (W (x8 + 1))) h (Nat.lt_succ_self _) ⟨rfl, rfl, rfl, trivial⟩ trivial [2] rfl [] rfl))))))))
      have h := condF h ht38
      refine JS.exit rfl (JS.endJ x7 h ⟨rfl, trivial⟩ trivial [] rfl [] rfl)
    rintro x28 h
    subst hj39
    refine JS.seq (JS.region (JO.reg ttOk 2 [] [] [(4, .v (.int .i64 x28))] _ rfl ⟨⟨rfl, trivial⟩, rfl⟩ (JO.done rfl ?_)))
    cases h
    exact JS.ret ttOk () trivial rfl rfl [] rfl

def M_l_heldUndo (x0 : List (List Int × Int)) (x1 : Int) : Option Int :=
  (bindO (M_l_heldLineS x0 x1) fun (y7 : Int) =>
  (bif (decide (y7 < 0)) then
  some (-1)
  else
  some y7))

theorem ok_l_heldUndo (x0 : List (List Int × Int)) (x1 : Int) (a3 : Option Addr) (c4 : Nat) (l5 : Nat) (hl6 : x0.length = l5) (r : Int) (h : M_l_heldUndo x0 x1 = some r) :
    FC Tryz.prog 75 [.agg #[.slice a3 l5 c4], .int .i64 x1] [⟨(.pair (.sl (.int .i64)) (.int .i64)), ⟨a3, l5, c4⟩, x0⟩] (fun _ : Unit => True) (fun _ => .int .i64 r) (fun _ => []) :=
  by
    subst hl6
    refine FC.of (T := TTx) Tryz.call75 Tryz.func75 rfl rfl fun w0 => ?_
    unfold M_l_heldUndo at h
    refine JS.seq (JS.region (JO.regB ttOk 2 [] [2] [(2, .bp 2 0)] (.new 2 40 [.slice a3 x0.length c4] .nil) rfl ⟨⟨rfl, trivial⟩, ⟨rfl, rfl, rfl, rfl, trivial⟩⟩ (JO.done rfl (JS.seq (JS.region (JO.reg ttOk 3 [] [] [(6, .v (.slice a3 x0.length c4)), (7, .v (.int .i64 x1))] _ rfl ⟨⟨rfl, rfl, trivial⟩, rfl⟩ ?_))))))
    obtain ⟨y7, hy8, h⟩ := bindO_some h
    refine JO.call rfl rfl rfl rfl (ok_l_heldLineS x0 x1 a3 c4 x0.length rfl _ hy8) rfl [0] rfl rfl fun _ _ => JO.reg ttOk 1 [] [] [(1, .v (.int .i64 y7))] _ rfl ⟨⟨rfl, trivial⟩, rfl⟩ (JO.done rfl (JS.seq (JS.seq (JS.region (JO.reg ttOk 2 [] [] [(10, .v (.bool (decide (y7 < 0))))] _ rfl ⟨⟨rfl, trivial⟩, rfl⟩ (JO.done rfl ?_))))))
    refine JS.cond rfl (fun ht10 => ?_) (fun ht10 => ?_)
    · have h := condT h ht10
      refine JS.seq (JS.region (JO.reg ttOk 1 [] [] [(4, .v (.int .i64 (-1)))] _ rfl ⟨⟨rfl, trivial⟩, rfl⟩ (JO.done rfl ?_)))
      cases h
      exact JS.ret ttOk () trivial rfl rfl [] rfl
    have h := condF h ht10
    refine JS.skip (JS.seq (JS.region (JO.reg ttOk 2 [] [] [(4, .v (.int .i64 y7))] _ rfl ⟨⟨rfl, trivial⟩, rfl⟩ (JO.done rfl ?_))))
    cases h
    exact JS.ret ttOk () trivial rfl rfl [] rfl

def M_l_heldEd (x0 : Bool × Int × (List Int × Int) × Int × Int × Int × Int × Int × Int × Int × List (List Int) × (List (List Int × Int)) × Int × (List Int × Int) × List Int × Int × List Int × Int) (x1 : Int) : Option Int :=
  (bindO (M_l_heldLine x0.2.2.1 x1) fun (y27 : Int) =>
  (bif (decide (y27 < 0)) then
  some (-1)
  else
  (bindO (M_l_heldRing x0.2.2.2.2.2.2.2.2.2.2.1 y27) fun (y29 : Int) =>
  (bif (decide (y29 < 0)) then
  some (-1)
  else
  (bindO (M_l_heldUndo x0.2.2.2.2.2.2.2.2.2.2.2.1 y29) fun (y31 : Int) =>
  (bif (decide (y31 < 0)) then
  some (-1)
  else
  (bindO (M_l_heldLine x0.2.2.2.2.2.2.2.2.2.2.2.2.2.1 y31) fun (y33 : Int) =>
  (bif (decide (y33 < 0)) then
  some (-1)
  else
  (bindO (M_l_heldIntS x0.2.2.2.2.2.2.2.2.2.2.2.2.2.2.1 y33) fun (y35 : Int) =>
  (bif (decide (y35 < 0)) then
  some (-1)
  else
  (bindO (M_l_heldLine x0.2.2.2.2.2.2.2.2.2.2.2.2.2.2.2.2 y35) fun (y37 : Int) =>
  (bif (decide (y37 < 0)) then
  some (-1)
  else
  some y37))))))))))))

theorem ok_l_heldEd (x0 : Bool × Int × (List Int × Int) × Int × Int × Int × Int × Int × Int × Int × List (List Int) × (List (List Int × Int)) × Int × (List Int × Int) × List Int × Int × List Int × Int) (x1 : Int) (a3 : Option Addr) (c4 : Nat) (l5 : Nat) (hl6 : x0.2.2.1.1.length = l5) (a7 : Option Addr) (c8 : Nat) (l9 : Nat) (hl10 : x0.2.2.2.2.2.2.2.2.2.2.1.length = l9) (a11 : Option Addr) (c12 : Nat) (l13 : Nat) (hl14 : x0.2.2.2.2.2.2.2.2.2.2.2.1.length = l13) (a15 : Option Addr) (c16 : Nat) (l17 : Nat) (hl18 : x0.2.2.2.2.2.2.2.2.2.2.2.2.2.1.1.length = l17) (a19 : Option Addr) (c20 : Nat) (l21 : Nat) (hl22 : x0.2.2.2.2.2.2.2.2.2.2.2.2.2.2.1.length = l21) (a23 : Option Addr) (c24 : Nat) (l25 : Nat) (hl26 : x0.2.2.2.2.2.2.2.2.2.2.2.2.2.2.2.2.1.length = l25) (r : Int) (h : M_l_heldEd x0 x1 = some r) :
    FC Tryz.prog 18 [.agg #[.bool x0.1, .int .i64 x0.2.1, .slice a3 l5 c4, .int .i64 x0.2.2.1.2, .int .i64 x0.2.2.2.1, .int .i64 x0.2.2.2.2.1, .int .i64 x0.2.2.2.2.2.1, .int .i64 x0.2.2.2.2.2.2.1, .int .i64 x0.2.2.2.2.2.2.2.1, .int .i64 x0.2.2.2.2.2.2.2.2.1, .int .i64 x0.2.2.2.2.2.2.2.2.2.1, .slice a7 l9 c8, .slice a11 l13 c12, .int .i64 x0.2.2.2.2.2.2.2.2.2.2.2.2.1, .slice a15 l17 c16, .int .i64 x0.2.2.2.2.2.2.2.2.2.2.2.2.2.1.2, .slice a19 l21 c20, .int .i64 x0.2.2.2.2.2.2.2.2.2.2.2.2.2.2.2.1, .slice a23 l25 c24, .int .i64 x0.2.2.2.2.2.2.2.2.2.2.2.2.2.2.2.2.2], .int .i64 x1] [⟨(.int .i64), ⟨a3, l5, c4⟩, x0.2.2.1.1⟩, ⟨(.sl (.int .i64)), ⟨a7, l9, c8⟩, x0.2.2.2.2.2.2.2.2.2.2.1⟩, ⟨(.pair (.sl (.int .i64)) (.int .i64)), ⟨a11, l13, c12⟩, x0.2.2.2.2.2.2.2.2.2.2.2.1⟩, ⟨(.int .i64), ⟨a15, l17, c16⟩, x0.2.2.2.2.2.2.2.2.2.2.2.2.2.1.1⟩, ⟨(.int .i64), ⟨a19, l21, c20⟩, x0.2.2.2.2.2.2.2.2.2.2.2.2.2.2.1⟩, ⟨(.int .i64), ⟨a23, l25, c24⟩, x0.2.2.2.2.2.2.2.2.2.2.2.2.2.2.2.2.1⟩] (fun _ : Unit => True) (fun _ => .int .i64 r) (fun _ => []) :=
  by
    subst hl6
    subst hl10
    subst hl14
    subst hl18
    subst hl22
    subst hl26
    refine FC.of (T := TTx) Tryz.call18 Tryz.func18 rfl rfl fun w0 => ?_
    unfold M_l_heldEd at h
    refine JS.seq (JS.region (JO.regB ttOk 2 [] [7] [(2, .bp 7 0)] (.new 7 42 (cl42 x0 a3 c4 a7 c8 a11 c12 a15 c16 a19 c20 a23 c24) .nil) rfl ⟨⟨rfl, trivial⟩, ⟨rfl, rfl, rfl, rfl, trivial⟩⟩ (JO.done rfl (JS.seq (JS.region (JO.reg ttOk 3 [] [] [(6, .v (.agg #[.slice a3 x0.2.2.1.1.length c4, .int .i64 x0.2.2.1.2])), (7, .v (.int .i64 x1))] _ rfl ⟨⟨rfl, rfl, trivial⟩, rfl⟩ ?_))))))
    obtain ⟨y27, hy28, h⟩ := bindO_some h
    refine JO.call rfl rfl rfl rfl (ok_l_heldLine x0.2.2.1 x1 a3 c4 x0.2.2.1.1.length rfl _ hy28) rfl [0] rfl rfl fun _ _ => JO.reg ttOk 1 [] [] [(1, .v (.int .i64 y27))] _ rfl ⟨⟨rfl, trivial⟩, rfl⟩ (JO.done rfl (JS.seq (JS.seq (JS.region (JO.reg ttOk 2 [] [] [(10, .v (.bool (decide (y27 < 0))))] _ rfl ⟨⟨rfl, trivial⟩, rfl⟩ (JO.done rfl ?_))))))
    refine JS.cond rfl (fun ht50 => ?_) (fun ht50 => ?_)
    · have h := condT h ht50
      refine JS.seq (JS.region (JO.reg ttOk 1 [] [] [(4, .v (.int .i64 (-1)))] _ rfl ⟨⟨rfl, trivial⟩, rfl⟩ (JO.done rfl ?_)))
      cases h
      exact JS.ret ttOk () trivial rfl rfl [] rfl
    have h := condF h ht50
    refine JS.skip (JS.seq (JS.region (JO.reg ttOk 3 [] [] [(12, .v (.agg #[.slice a7 x0.2.2.2.2.2.2.2.2.2.2.1.length c8])), (13, .v (.int .i64 y27))] _ rfl ⟨⟨rfl, rfl, trivial⟩, rfl⟩ ?_)))
    obtain ⟨y29, hy30, h⟩ := bindO_some h
    refine JO.call rfl rfl rfl rfl (ok_l_heldRing x0.2.2.2.2.2.2.2.2.2.2.1 y27 a7 c8 x0.2.2.2.2.2.2.2.2.2.2.1.length rfl _ hy30) rfl [1] rfl rfl fun _ _ => JO.reg ttOk 1 [] [] [(1, .v (.int .i64 y29))] _ rfl ⟨⟨rfl, trivial⟩, rfl⟩ (JO.done rfl (JS.seq (JS.seq (JS.region (JO.reg ttOk 2 [] [] [(16, .v (.bool (decide (y29 < 0))))] _ rfl ⟨⟨rfl, trivial⟩, rfl⟩ (JO.done rfl ?_))))))
    refine JS.cond rfl (fun ht49 => ?_) (fun ht49 => ?_)
    · have h := condT h ht49
      refine JS.seq (JS.region (JO.reg ttOk 1 [] [] [(4, .v (.int .i64 (-1)))] _ rfl ⟨⟨rfl, trivial⟩, rfl⟩ (JO.done rfl ?_)))
      cases h
      exact JS.ret ttOk () trivial rfl rfl [] rfl
    have h := condF h ht49
    refine JS.skip (JS.seq (JS.region (JO.reg ttOk 3 [] [] [(18, .v (.agg #[.slice a11 x0.2.2.2.2.2.2.2.2.2.2.2.1.length c12])), (19, .v (.int .i64 y29))] _ rfl ⟨⟨rfl, rfl, trivial⟩, rfl⟩ ?_)))
    obtain ⟨y31, hy32, h⟩ := bindO_some h
    refine JO.call rfl rfl rfl rfl (ok_l_heldUndo x0.2.2.2.2.2.2.2.2.2.2.2.1 y29 a11 c12 x0.2.2.2.2.2.2.2.2.2.2.2.1.length rfl _ hy32) rfl [2] rfl rfl fun _ _ => JO.reg ttOk 1 [] [] [(1, .v (.int .i64 y31))] _ rfl ⟨⟨rfl, trivial⟩, rfl⟩ (JO.done rfl (JS.seq (JS.seq (JS.region (JO.reg ttOk 2 [] [] [(22, .v (.bool (decide (y31 < 0))))] _ rfl ⟨⟨rfl, trivial⟩, rfl⟩ (JO.done rfl ?_))))))
    refine JS.cond rfl (fun ht48 => ?_) (fun ht48 => ?_)
    · have h := condT h ht48
      refine JS.seq (JS.region (JO.reg ttOk 1 [] [] [(4, .v (.int .i64 (-1)))] _ rfl ⟨⟨rfl, trivial⟩, rfl⟩ (JO.done rfl ?_)))
      cases h
      exact JS.ret ttOk () trivial rfl rfl [] rfl
    have h := condF h ht48
    refine JS.skip (JS.seq (JS.region (JO.reg ttOk 3 [] [] [(24, .v (.agg #[.slice a15 x0.2.2.2.2.2.2.2.2.2.2.2.2.2.1.1.length c16, .int .i64 x0.2.2.2.2.2.2.2.2.2.2.2.2.2.1.2])), (25, .v (.int .i64 y31))] _ rfl ⟨⟨rfl, rfl, trivial⟩, rfl⟩ ?_)))
    obtain ⟨y33, hy34, h⟩ := bindO_some h
    refine JO.call rfl rfl rfl rfl (ok_l_heldLine x0.2.2.2.2.2.2.2.2.2.2.2.2.2.1 y31 a15 c16 x0.2.2.2.2.2.2.2.2.2.2.2.2.2.1.1.length rfl _ hy34) rfl [3] rfl rfl fun _ _ => JO.reg ttOk 1 [] [] [(1, .v (.int .i64 y33))] _ rfl ⟨⟨rfl, trivial⟩, rfl⟩ (JO.done rfl (JS.seq (JS.seq (JS.region (JO.reg ttOk 2 [] [] [(28, .v (.bool (decide (y33 < 0))))] _ rfl ⟨⟨rfl, trivial⟩, rfl⟩ (JO.done rfl ?_))))))
    refine JS.cond rfl (fun ht47 => ?_) (fun ht47 => ?_)
    · have h := condT h ht47
      refine JS.seq (JS.region (JO.reg ttOk 1 [] [] [(4, .v (.int .i64 (-1)))] _ rfl ⟨⟨rfl, trivial⟩, rfl⟩ (JO.done rfl ?_)))
      cases h
      exact JS.ret ttOk () trivial rfl rfl [] rfl
    have h := condF h ht47
    refine JS.skip (JS.seq (JS.region (JO.reg ttOk 3 [] [] [(30, .v (.slice a19 x0.2.2.2.2.2.2.2.2.2.2.2.2.2.2.1.length c20)), (31, .v (.int .i64 y33))] _ rfl ⟨⟨rfl, rfl, trivial⟩, rfl⟩ ?_)))
    obtain ⟨y35, hy36, h⟩ := bindO_some h
    refine JO.call rfl rfl rfl rfl (ok_l_heldIntS x0.2.2.2.2.2.2.2.2.2.2.2.2.2.2.1 y33 a19 c20 x0.2.2.2.2.2.2.2.2.2.2.2.2.2.2.1.length rfl _ hy36) rfl [4] rfl rfl fun _ _ => JO.reg ttOk 1 [] [] [(1, .v (.int .i64 y35))] _ rfl ⟨⟨rfl, trivial⟩, rfl⟩ (JO.done rfl (JS.seq (JS.seq (JS.region (JO.reg ttOk 2 [] [] [(34, .v (.bool (decide (y35 < 0))))] _ rfl ⟨⟨rfl, trivial⟩, rfl⟩ (JO.done rfl ?_))))))
    refine JS.cond rfl (fun ht46 => ?_) (fun ht46 => ?_)
    · have h := condT h ht46
      refine JS.seq (JS.region (JO.reg ttOk 1 [] [] [(4, .v (.int .i64 (-1)))] _ rfl ⟨⟨rfl, trivial⟩, rfl⟩ (JO.done rfl ?_)))
      cases h
      exact JS.ret ttOk () trivial rfl rfl [] rfl
    have h := condF h ht46
    refine JS.skip (JS.seq (JS.region (JO.reg ttOk 3 [] [] [(36, .v (.agg #[.slice a23 x0.2.2.2.2.2.2.2.2.2.2.2.2.2.2.2.2.1.length c24, .int .i64 x0.2.2.2.2.2.2.2.2.2.2.2.2.2.2.2.2.2])), (37, .v (.int .i64 y35))] _ rfl ⟨⟨rfl, rfl, trivial⟩, rfl⟩ ?_)))
    obtain ⟨y37, hy38, h⟩ := bindO_some h
    refine JO.call rfl rfl rfl rfl (ok_l_heldLine x0.2.2.2.2.2.2.2.2.2.2.2.2.2.2.2.2 y35 a23 c24 x0.2.2.2.2.2.2.2.2.2.2.2.2.2.2.2.2.1.length rfl _ hy38) rfl [5] rfl rfl fun _ _ => JO.reg ttOk 1 [] [] [(1, .v (.int .i64 y37))] _ rfl ⟨⟨rfl, trivial⟩, rfl⟩ (JO.done rfl (JS.seq (JS.seq (JS.region (JO.reg ttOk 2 [] [] [(40, .v (.bool (decide (y37 < 0))))] _ rfl ⟨⟨rfl, trivial⟩, rfl⟩ (JO.done rfl ?_))))))
    refine JS.cond rfl (fun ht45 => ?_) (fun ht45 => ?_)
    · have h := condT h ht45
      refine JS.seq (JS.region (JO.reg ttOk 1 [] [] [(4, .v (.int .i64 (-1)))] _ rfl ⟨⟨rfl, trivial⟩, rfl⟩ (JO.done rfl ?_)))
      cases h
      exact JS.ret ttOk () trivial rfl rfl [] rfl
    have h := condF h ht45
    refine JS.skip (JS.seq (JS.region (JO.reg ttOk 2 [] [] [(4, .v (.int .i64 y37))] _ rfl ⟨⟨rfl, trivial⟩, rfl⟩ (JO.done rfl ?_))))
    cases h
    exact JS.ret ttOk () trivial rfl rfl [] rfl

def M_l_FnExactChange (x0 : Bool × Int × (List Int × Int) × Int × Int × Int × Int × Int × Int × Int × List (List Int) × (List (List Int × Int)) × Int × (List Int × Int) × List Int × Int × List Int × Int) (x1 : Int) (x2 : Int) (x3 : Int) : Option Bool :=
  (bindO (M_l_szEd x0 1048576) fun (y29 : Int) =>
  (bif (decide (y29 < 0)) then
  some true
  else
  (bindO (M_l_toEd x0) fun (y31 : Bool × Int × (List Int × Int) × Int × Int × Int × Int × Int × Int × Int × List (List Int) × (List (List Int × Int)) × Int × (List Int × Int) × List Int × Int × List Int × Int) =>
  (bindO (M_s_Change y31 x1 x2 x3) fun (y45, y46) =>
  (bindO (M_l_toEd x0) fun (y60 : Bool × Int × (List Int × Int) × Int × Int × Int × Int × Int × Int × Int × List (List Int) × (List (List Int × Int)) × Int × (List Int × Int) × List Int × Int × List Int × Int) =>
  (bindO (M_i_Change y60 x1 x2 x3) fun (y74, y75) =>
  (bindO (M_l_eqEd y74 y45) fun (y89 : Bool) =>
  (bif (bif (!y89) then true else (!(decide (y75 = y46)))) then
  some false
  else
  (bindO (M_l_toEd x0) fun (y91 : Bool × Int × (List Int × Int) × Int × Int × Int × Int × Int × Int × Int × List (List Int) × (List (List Int × Int)) × Int × (List Int × Int) × List Int × Int × List Int × Int) =>
  (bindO (M_l_eqEd y60 y91) fun (y105 : Bool) =>
  (bif (!y105) then
  some false
  else
  (bindO (M_l_markEd y60 1) fun (y108, y109, y110, y111, y112, y113, y114) =>
  (callO ((decide (y108 < 0)) = false) (M_l_eqEd y74 y45) false fun (y122 : Bool) =>
  (bif (bif (bif (decide (y108 < 0)) then true else (!y122)) then true else (!(decide (y75 = y46)))) then
  some false
  else
  (bindO (M_l_markEd y74 1) fun (y125, y126, y127, y128, y129, y130, y131) =>
  (bindO (M_l_heldEd (y74.1, y74.2.1, (y126, y74.2.2.1.2), y74.2.2.2.1, y74.2.2.2.2.1, y74.2.2.2.2.2.1, y74.2.2.2.2.2.2.1, y74.2.2.2.2.2.2.2.1, y74.2.2.2.2.2.2.2.2.1, y74.2.2.2.2.2.2.2.2.2.1, y127, y128, y74.2.2.2.2.2.2.2.2.2.2.2.2.1, (y129, y74.2.2.2.2.2.2.2.2.2.2.2.2.2.1.2), y130, y74.2.2.2.2.2.2.2.2.2.2.2.2.2.2.2.1, (y131, y74.2.2.2.2.2.2.2.2.2.2.2.2.2.2.2.2.2)) 1) fun (y139 : Int) =>
  (bif (decide (y139 < 0)) then
  some false
  else
  (bif (!(decide (y139 = y125))) then
  some false
  else
  (bindO (M_l_toEd x0) fun (y141 : Bool × Int × (List Int × Int) × Int × Int × Int × Int × Int × Int × Int × List (List Int) × (List (List Int × Int)) × Int × (List Int × Int) × List Int × Int × List Int × Int) =>
  (bindO (M_i_Change y141 x1 x2 x3) fun (y155, y156) =>
  (bindO (M_l_eqEd y155 y45) fun (y170 : Bool) =>
  (bif (bif (!y170) then true else (!(decide (y156 = y46)))) then
  some false
  else
  (bindO (M_l_heldEd (y74.1, y74.2.1, (y126, y74.2.2.1.2), y74.2.2.2.1, y74.2.2.2.2.1, y74.2.2.2.2.2.1, y74.2.2.2.2.2.2.1, y74.2.2.2.2.2.2.2.1, y74.2.2.2.2.2.2.2.2.1, y74.2.2.2.2.2.2.2.2.2.1, y127, y128, y74.2.2.2.2.2.2.2.2.2.2.2.2.1, (y129, y74.2.2.2.2.2.2.2.2.2.2.2.2.2.1.2), y130, y74.2.2.2.2.2.2.2.2.2.2.2.2.2.2.2.1, (y131, y74.2.2.2.2.2.2.2.2.2.2.2.2.2.2.2.2.2)) 1) fun (y172 : Int) =>
  (bif (decide (y172 < 0)) then
  some false
  else
  (bif (!(decide (y172 = y125))) then
  some false
  else
  some true)))))))))))))))))))))))))

theorem ok_l_FnExactChange (x0 : Bool × Int × (List Int × Int) × Int × Int × Int × Int × Int × Int × Int × List (List Int) × (List (List Int × Int)) × Int × (List Int × Int) × List Int × Int × List Int × Int) (x1 : Int) (x2 : Int) (x3 : Int) (a5 : Option Addr) (c6 : Nat) (l7 : Nat) (hl8 : x0.2.2.1.1.length = l7) (a9 : Option Addr) (c10 : Nat) (l11 : Nat) (hl12 : x0.2.2.2.2.2.2.2.2.2.2.1.length = l11) (a13 : Option Addr) (c14 : Nat) (l15 : Nat) (hl16 : x0.2.2.2.2.2.2.2.2.2.2.2.1.length = l15) (a17 : Option Addr) (c18 : Nat) (l19 : Nat) (hl20 : x0.2.2.2.2.2.2.2.2.2.2.2.2.2.1.1.length = l19) (a21 : Option Addr) (c22 : Nat) (l23 : Nat) (hl24 : x0.2.2.2.2.2.2.2.2.2.2.2.2.2.2.1.length = l23) (a25 : Option Addr) (c26 : Nat) (l27 : Nat) (hl28 : x0.2.2.2.2.2.2.2.2.2.2.2.2.2.2.2.2.1.length = l27) (r : Bool) (h : M_l_FnExactChange x0 x1 x2 x3 = some r) :
    FC Tryz.prog 3 [.agg #[.bool x0.1, .int .i64 x0.2.1, .slice a5 l7 c6, .int .i64 x0.2.2.1.2, .int .i64 x0.2.2.2.1, .int .i64 x0.2.2.2.2.1, .int .i64 x0.2.2.2.2.2.1, .int .i64 x0.2.2.2.2.2.2.1, .int .i64 x0.2.2.2.2.2.2.2.1, .int .i64 x0.2.2.2.2.2.2.2.2.1, .int .i64 x0.2.2.2.2.2.2.2.2.2.1, .slice a9 l11 c10, .slice a13 l15 c14, .int .i64 x0.2.2.2.2.2.2.2.2.2.2.2.2.1, .slice a17 l19 c18, .int .i64 x0.2.2.2.2.2.2.2.2.2.2.2.2.2.1.2, .slice a21 l23 c22, .int .i64 x0.2.2.2.2.2.2.2.2.2.2.2.2.2.2.2.1, .slice a25 l27 c26, .int .i64 x0.2.2.2.2.2.2.2.2.2.2.2.2.2.2.2.2.2], .int .i64 x1, .int .i64 x2, .int .i64 x3] [⟨(.int .i64), ⟨a5, l7, c6⟩, x0.2.2.1.1⟩, ⟨(.sl (.int .i64)), ⟨a9, l11, c10⟩, x0.2.2.2.2.2.2.2.2.2.2.1⟩, ⟨(.pair (.sl (.int .i64)) (.int .i64)), ⟨a13, l15, c14⟩, x0.2.2.2.2.2.2.2.2.2.2.2.1⟩, ⟨(.int .i64), ⟨a17, l19, c18⟩, x0.2.2.2.2.2.2.2.2.2.2.2.2.2.1.1⟩, ⟨(.int .i64), ⟨a21, l23, c22⟩, x0.2.2.2.2.2.2.2.2.2.2.2.2.2.2.1⟩, ⟨(.int .i64), ⟨a25, l27, c26⟩, x0.2.2.2.2.2.2.2.2.2.2.2.2.2.2.2.2.1⟩] (fun _ : Unit => True) (fun _ => .bool r) (fun _ => []) :=
  by
    subst hl8
    subst hl12
    subst hl16
    subst hl20
    subst hl24
    subst hl28
    refine FC.of (T := TTx) Tryz.call3 Tryz.func3 rfl rfl fun w0 => ?_
    unfold M_l_FnExactChange at h
    refine JS.seq (JS.region (JO.regB ttOk 2 [] [7] [(4, .bp 7 0)] (.new 7 32 (cl32 x0 a5 c6 a9 c10 a13 c14 a17 c18 a21 c22 a25 c26) .nil) rfl ⟨⟨rfl, trivial⟩, ⟨rfl, rfl, rfl, rfl, trivial⟩⟩ (JO.done rfl (JS.seq (JS.region (JO.reg ttOk 1 [] [] [(9, .v (.int .i64 1048576))] _ rfl ⟨⟨rfl, trivial⟩, rfl⟩ (JO.done rfl (JS.seq (JS.region (JO.reg ttOk 2 [] [] [(20, .v (.agg (cl32 x0 a5 c6 a9 c10 a13 c14 a17 c18 a21 c22 a25 c26).toArray)), (21, .v (.int .i64 1048576))] _ rfl ⟨⟨rfl, rfl, trivial⟩, rfl⟩ ?_))))))))))
    obtain ⟨y29, hy30, h⟩ := bindO_some h
    refine JO.call rfl rfl rfl rfl (ok_l_szEd x0 1048576 a5 c6 x0.2.2.1.1.length rfl a9 c10 x0.2.2.2.2.2.2.2.2.2.2.1.length rfl a13 c14 x0.2.2.2.2.2.2.2.2.2.2.2.1.length rfl a17 c18 x0.2.2.2.2.2.2.2.2.2.2.2.2.2.1.1.length rfl a21 c22 x0.2.2.2.2.2.2.2.2.2.2.2.2.2.2.1.length rfl a25 c26 x0.2.2.2.2.2.2.2.2.2.2.2.2.2.2.2.2.1.length rfl _ hy30) rfl [0, 1, 2, 3, 4, 5] rfl rfl fun _ _ => JO.reg ttOk 1 [] [] [(9, .v (.int .i64 y29))] _ rfl ⟨⟨rfl, trivial⟩, rfl⟩ (JO.done rfl (JS.seq (JS.seq (JS.region (JO.reg ttOk 2 [] [] [(24, .v (.bool (decide (y29 < 0))))] _ rfl ⟨⟨rfl, trivial⟩, rfl⟩ (JO.done rfl ?_))))))
    refine JS.cond rfl (fun ht192 => ?_) (fun ht192 => ?_)
    · have h := condT h ht192
      refine JS.seq (JS.region (JO.reg ttOk 1 [] [] [(8, .v (.bool true))] _ rfl ⟨⟨rfl, trivial⟩, rfl⟩ (JO.done rfl ?_)))
      cases h
      exact JS.ret ttOk () trivial rfl rfl [] rfl
    have h := condF h ht192
    refine JS.skip (JS.seq (JS.region (JO.reg ttOk 1 [] [] [(26, .v (.agg (cl32 x0 a5 c6 a9 c10 a13 c14 a17 c18 a21 c22 a25 c26).toArray))] _ rfl ⟨⟨rfl, trivial⟩, rfl⟩ ?_)))
    obtain ⟨y31, hy32, h⟩ := bindO_some h
    refine JO.call rfl rfl rfl rfl (ok_l_toEd x0 a5 c6 x0.2.2.1.1.length rfl a9 c10 x0.2.2.2.2.2.2.2.2.2.2.1.length rfl a13 c14 x0.2.2.2.2.2.2.2.2.2.2.2.1.length rfl a17 c18 x0.2.2.2.2.2.2.2.2.2.2.2.2.2.1.1.length rfl a21 c22 x0.2.2.2.2.2.2.2.2.2.2.2.2.2.2.1.length rfl a25 c26 x0.2.2.2.2.2.2.2.2.2.2.2.2.2.2.2.2.1.length rfl _ hy32) rfl [0, 1, 2, 3, 4, 5] rfl rfl ?_
    rintro ⟨a33, c34, a35, c36, a37, c38, a39, c40, a41, c42, a43, c44⟩ -
    refine JO.reg ttOk 3 [] [] [(28, .v (.int .i64 x1)), (29, .v (.int .i64 x2)), (30, .v (.int .i64 x3))] _ rfl ⟨⟨rfl, rfl, rfl, trivial⟩, rfl⟩ ?_
    obtain ⟨⟨y45, y46⟩, hy47, h⟩ := bindO_some h
    refine JO.call rfl rfl rfl rfl (ok_s_Change y31 x1 x2 x3 a33 c34 y31.2.2.1.1.length rfl a35 c36 y31.2.2.2.2.2.2.2.2.2.2.1.length rfl a37 c38 y31.2.2.2.2.2.2.2.2.2.2.2.1.length rfl a39 c40 y31.2.2.2.2.2.2.2.2.2.2.2.2.2.1.1.length rfl a41 c42 y31.2.2.2.2.2.2.2.2.2.2.2.2.2.2.1.length rfl a43 c44 y31.2.2.2.2.2.2.2.2.2.2.2.2.2.2.2.2.1.length rfl _ hy47) rfl [6, 7, 8, 9, 10, 11] rfl rfl ?_
    rintro ⟨a48, c49, a50, c51, a52, c53, a54, c55, a56, c57, a58, c59⟩ -
    refine JO.regB ttOk 6 [] [51] [(10, .bp 51 0), (11, .v (.int .i64 y46))] (.new 7 32 (cl32 x0 a5 c6 a9 c10 a13 c14 a17 c18 a21 c22 a25 c26) (.new 51 42 (cl42 y45 a48 c49 a50 c51 a52 c53 a54 c55 a56 c57 a58 c59) .nil)) rfl ⟨⟨rfl, rfl, trivial⟩, ⟨rfl, rfl, rfl, rfl, rfl, rfl, rfl, rfl, trivial⟩⟩ (JO.done rfl (JS.seq (JS.norm [true, true, true, true, true, true, false, false, false, false, false, false] [⟨(.int .i64), ⟨a5, x0.2.2.1.1.length, c6⟩, x0.2.2.1.1⟩, ⟨(.sl (.int .i64)), ⟨a9, x0.2.2.2.2.2.2.2.2.2.2.1.length, c10⟩, x0.2.2.2.2.2.2.2.2.2.2.1⟩, ⟨(.pair (.sl (.int .i64)) (.int .i64)), ⟨a13, x0.2.2.2.2.2.2.2.2.2.2.2.1.length, c14⟩, x0.2.2.2.2.2.2.2.2.2.2.2.1⟩, ⟨(.int .i64), ⟨a17, x0.2.2.2.2.2.2.2.2.2.2.2.2.2.1.1.length, c18⟩, x0.2.2.2.2.2.2.2.2.2.2.2.2.2.1.1⟩, ⟨(.int .i64), ⟨a21, x0.2.2.2.2.2.2.2.2.2.2.2.2.2.2.1.length, c22⟩, x0.2.2.2.2.2.2.2.2.2.2.2.2.2.2.1⟩, ⟨(.int .i64), ⟨a25, x0.2.2.2.2.2.2.2.2.2.2.2.2.2.2.2.2.1.length, c26⟩, x0.2.2.2.2.2.2.2.2.2.2.2.2.2.2.2.2.1⟩] [⟨(.int .i64), ⟨a48, y45.2.2.1.1.length, c49⟩, y45.2.2.1.1⟩, ⟨(.sl (.int .i64)), ⟨a50, y45.2.2.2.2.2.2.2.2.2.2.1.length, c51⟩, y45.2.2.2.2.2.2.2.2.2.2.1⟩, ⟨(.pair (.sl (.int .i64)) (.int .i64)), ⟨a52, y45.2.2.2.2.2.2.2.2.2.2.2.1.length, c53⟩, y45.2.2.2.2.2.2.2.2.2.2.2.1⟩, ⟨(.int .i64), ⟨a54, y45.2.2.2.2.2.2.2.2.2.2.2.2.2.1.1.length, c55⟩, y45.2.2.2.2.2.2.2.2.2.2.2.2.2.1.1⟩, ⟨(.int .i64), ⟨a56, y45.2.2.2.2.2.2.2.2.2.2.2.2.2.2.1.length, c57⟩, y45.2.2.2.2.2.2.2.2.2.2.2.2.2.2.1⟩, ⟨(.int .i64), ⟨a58, y45.2.2.2.2.2.2.2.2.2.2.2.2.2.2.2.2.1.length, c59⟩, y45.2.2.2.2.2.2.2.2.2.2.2.2.2.2.2.2.1⟩] rfl rfl (JS.region (JO.reg ttOk 1 [] [] [(34, .v (.agg (cl32 x0 a5 c6 a9 c10 a13 c14 a17 c18 a21 c22 a25 c26).toArray))] _ rfl ⟨⟨rfl, trivial⟩, rfl⟩ ?_)))))
    obtain ⟨y60, hy61, h⟩ := bindO_some h
    refine JO.call rfl rfl rfl rfl (ok_l_toEd x0 a5 c6 x0.2.2.1.1.length rfl a9 c10 x0.2.2.2.2.2.2.2.2.2.2.1.length rfl a13 c14 x0.2.2.2.2.2.2.2.2.2.2.2.1.length rfl a17 c18 x0.2.2.2.2.2.2.2.2.2.2.2.2.2.1.1.length rfl a21 c22 x0.2.2.2.2.2.2.2.2.2.2.2.2.2.2.1.length rfl a25 c26 x0.2.2.2.2.2.2.2.2.2.2.2.2.2.2.2.2.1.length rfl _ hy61) rfl [0, 1, 2, 3, 4, 5] rfl rfl ?_
    rintro ⟨a62, c63, a64, c65, a66, c67, a68, c69, a70, c71, a72, c73⟩ -
    refine JO.regB ttOk 2 [] [72] [(12, .bp 72 0)] (.new 7 32 (cl32 x0 a5 c6 a9 c10 a13 c14 a17 c18 a21 c22 a25 c26) (.new 51 42 (cl42 y45 a48 c49 a50 c51 a52 c53 a54 c55 a56 c57 a58 c59) (.new 72 42 (cl42 y60 a62 c63 a64 c65 a66 c67 a68 c69 a70 c71 a72 c73) .nil))) rfl ⟨⟨rfl, trivial⟩, ⟨rfl, rfl, rfl, rfl, rfl, rfl, rfl, rfl, rfl, rfl, rfl, rfl, trivial⟩⟩ (JO.done rfl (JS.seq (JS.region (JO.reg ttOk 4 [] [] [(37, .v (.agg (cl42 y60 a62 c63 a64 c65 a66 c67 a68 c69 a70 c71 a72 c73).toArray)), (38, .v (.int .i64 x1)), (39, .v (.int .i64 x2)), (40, .v (.int .i64 x3))] _ rfl ⟨⟨rfl, rfl, rfl, rfl, trivial⟩, rfl⟩ ?_))))
    obtain ⟨⟨y74, y75⟩, hy76, h⟩ := bindO_some h
    refine JO.call rfl rfl rfl rfl (ok_i_Change y60 x1 x2 x3 a62 c63 y60.2.2.1.1.length rfl a64 c65 y60.2.2.2.2.2.2.2.2.2.2.1.length rfl a66 c67 y60.2.2.2.2.2.2.2.2.2.2.2.1.length rfl a68 c69 y60.2.2.2.2.2.2.2.2.2.2.2.2.2.1.1.length rfl a70 c71 y60.2.2.2.2.2.2.2.2.2.2.2.2.2.2.1.length rfl a72 c73 y60.2.2.2.2.2.2.2.2.2.2.2.2.2.2.2.2.1.length rfl _ hy76) rfl [6, 7, 8, 9, 10, 11] rfl rfl ?_
    rintro ⟨a77, c78, a79, c80, a81, c82, a83, c84, a85, c86, a87, c88⟩ -
    refine JO.regB ttOk 6 [] [94] [(13, .bp 94 0), (14, .v (.int .i64 y75))] (.new 7 32 (cl32 x0 a5 c6 a9 c10 a13 c14 a17 c18 a21 c22 a25 c26) (.new 51 42 (cl42 y45 a48 c49 a50 c51 a52 c53 a54 c55 a56 c57 a58 c59) (.new 72 42 (cl42 y60 a62 c63 a64 c65 a66 c67 a68 c69 a70 c71 a72 c73) (.new 94 42 (cl42 y74 a77 c78 a79 c80 a81 c82 a83 c84 a85 c86 a87 c88) .nil)))) rfl ⟨⟨rfl, rfl, trivial⟩, ⟨rfl, rfl, rfl, rfl, rfl, rfl, rfl, rfl, rfl, rfl, rfl, rfl, rfl, rfl, rfl, rfl, trivial⟩⟩ (JO.done rfl (JS.seq (JS.seq (JS.region (JO.reg ttOk 2 [] [] [(44, .v (.agg (cl42 y74 a77 c78 a79 c80 a81 c82 a83 c84 a85 c86 a87 c88).toArray)), (45, .v (.agg (cl42 y45 a48 c49 a50 c51 a52 c53 a54 c55 a56 c57 a58 c59).toArray))] _ rfl ⟨⟨rfl, rfl, trivial⟩, rfl⟩ ?_)))))
    obtain ⟨y89, hy90, h⟩ := bindO_some h
    refine JO.call rfl rfl rfl rfl (ok_l_eqEd y74 y45 a77 c78 y74.2.2.1.1.length rfl a79 c80 y74.2.2.2.2.2.2.2.2.2.2.1.length rfl a81 c82 y74.2.2.2.2.2.2.2.2.2.2.2.1.length rfl a83 c84 y74.2.2.2.2.2.2.2.2.2.2.2.2.2.1.1.length rfl a85 c86 y74.2.2.2.2.2.2.2.2.2.2.2.2.2.2.1.length rfl a87 c88 y74.2.2.2.2.2.2.2.2.2.2.2.2.2.2.2.2.1.length rfl a48 c49 y45.2.2.1.1.length rfl a50 c51 y45.2.2.2.2.2.2.2.2.2.2.1.length rfl a52 c53 y45.2.2.2.2.2.2.2.2.2.2.2.1.length rfl a54 c55 y45.2.2.2.2.2.2.2.2.2.2.2.2.2.1.1.length rfl a56 c57 y45.2.2.2.2.2.2.2.2.2.2.2.2.2.2.1.length rfl a58 c59 y45.2.2.2.2.2.2.2.2.2.2.2.2.2.2.2.2.1.length rfl _ hy90) rfl [6, 7, 8, 9, 10, 11, 18, 19, 20, 21, 22, 23] rfl rfl fun _ _ => JO.reg ttOk 6 [] [] [(52, .v (.bool (bif (!y89) then true else (!(decide (y75 = y46))))))] _ rfl ⟨⟨rfl, trivial⟩, rfl⟩ (JO.done rfl ?_)
    refine JS.cond rfl (fun ht191 => ?_) (fun ht191 => ?_)
    · have h := condT h ht191
      refine JS.seq (JS.region (JO.reg ttOk 1 [] [] [(8, .v (.bool false))] _ rfl ⟨⟨rfl, trivial⟩, rfl⟩ (JO.done rfl ?_)))
      cases h
      exact JS.ret ttOk () trivial rfl rfl [] rfl
    have h := condF h ht191
    refine JS.skip (JS.seq (JS.seq ?_))
    obtain ⟨y91, hy92, h⟩ := bindO_some h
    obtain ⟨y105, hy106, h⟩ := bindO_some h
    refine JS.regionA rfl (.new 7 32 (cl32 x0 a5 c6 a9 c10 a13 c14 a17 c18 a21 c22 a25 c26) (.new 72 42 (cl42 y60 a62 c63 a64 c65 a66 c67 a68 c69 a70 c71 a72 c73) .nil)) [] [] ⟨rfl, rfl, rfl, rfl, rfl, rfl, rfl, rfl, trivial⟩ rfl (fun be107 => ?_)
    refine JA.reg ttOk panic_cx true 3 [0, 1] rfl (by kernel_rfl) [] [(53, .v (.agg (cl42 y60 a62 c63 a64 c65 a66 c67 a68 c69 a70 c71 a72 c73).toArray)), (54, .v (.agg (cl32 x0 a5 c6 a9 c10 a13 c14 a17 c18 a21 c22 a25 c26).toArray))] ⟨rfl, rfl, rfl, rfl, rfl, rfl, rfl, rfl, trivial⟩ [] rfl rfl ⟨rfl, rfl, trivial⟩ (JA.one 2 (by kernel_rfl) (JK.call rfl rfl rfl rfl (ok_l_toEd x0 a5 c6 x0.2.2.1.1.length rfl a9 c10 x0.2.2.2.2.2.2.2.2.2.2.1.length rfl a13 c14 x0.2.2.2.2.2.2.2.2.2.2.2.1.length rfl a17 c18 x0.2.2.2.2.2.2.2.2.2.2.2.2.2.1.1.length rfl a21 c22 x0.2.2.2.2.2.2.2.2.2.2.2.2.2.2.1.length rfl a25 c26 x0.2.2.2.2.2.2.2.2.2.2.2.2.2.2.2.2.1.length rfl _ hy92) rfl [0, 1, 2, 3, 4, 5] rfl rfl ?_))
    rintro ⟨a93, c94, a95, c96, a97, c98, a99, c100, a101, c102, a103, c104⟩ -
    refine JA.next ⟨rfl, rfl, rfl, rfl, rfl, rfl, rfl, rfl, trivial⟩ [] rfl (JA.one 3 (by kernel_rfl) (JK.call rfl rfl rfl rfl (ok_l_eqEd y60 y91 a62 c63 y60.2.2.1.1.length rfl a64 c65 y60.2.2.2.2.2.2.2.2.2.2.1.length rfl a66 c67 y60.2.2.2.2.2.2.2.2.2.2.2.1.length rfl a68 c69 y60.2.2.2.2.2.2.2.2.2.2.2.2.2.1.1.length rfl a70 c71 y60.2.2.2.2.2.2.2.2.2.2.2.2.2.2.1.length rfl a72 c73 y60.2.2.2.2.2.2.2.2.2.2.2.2.2.2.2.2.1.length rfl a93 c94 y91.2.2.1.1.length rfl a95 c96 y91.2.2.2.2.2.2.2.2.2.2.1.length rfl a97 c98 y91.2.2.2.2.2.2.2.2.2.2.2.1.length rfl a99 c100 y91.2.2.2.2.2.2.2.2.2.2.2.2.2.1.1.length rfl a101 c102 y91.2.2.2.2.2.2.2.2.2.2.2.2.2.2.1.length rfl a103 c104 y91.2.2.2.2.2.2.2.2.2.2.2.2.2.2.2.2.1.length rfl _ hy106) rfl [18, 19, 20, 21, 22, 23, 6, 7, 8, 9, 10, 11] rfl rfl fun _ _ => JA.next ⟨rfl, rfl, rfl, rfl, rfl, rfl, rfl, rfl, trivial⟩ [] rfl (JA.reg ttOk panic_cx true 0 [4] rfl (by kernel_rfl) [] [(53, .v (.agg (cl42 y60 a62 c63 a64 c65 a66 c67 a68 c69 a70 c71 a72 c73).toArray)), (54, .v (.agg (cl32 x0 a5 c6 a9 c10 a13 c14 a17 c18 a21 c22 a25 c26).toArray)), (55, .v (.agg (cl42 y91 a93 c94 a95 c96 a97 c98 a99 c100 a101 c102 a103 c104).toArray)), (56, .v (.bool y105)), (57, .v (.bool (!y105)))] ⟨rfl, rfl, rfl, rfl, rfl, rfl, rfl, rfl, trivial⟩ [] rfl rfl ⟨rfl, rfl, rfl, rfl, rfl, trivial⟩ (JA.done (by kernel_rfl) (JS.boxes (B' := (.new 7 32 (cl32 x0 a5 c6 a9 c10 a13 c14 a17 c18 a21 c22 a25 c26) (.new 51 42 (cl42 y45 a48 c49 a50 c51 a52 c53 a54 c55 a56 c57 a58 c59) (.new 72 42 (cl42 y60 a62 c63 a64 c65 a66 c67 a68 c69 a70 c71 a72 c73) (.new 94 42 (cl42 y74 a77 c78 a79 c80 a81 c82 a83 c84 a85 c86 a87 c88) .nil))))) ⟨rfl, rfl, rfl, rfl, rfl, rfl, rfl, rfl, rfl, rfl, rfl, rfl, rfl, rfl, rfl, rfl, trivial⟩ ?_)))))
    refine JS.cond rfl (fun ht190 => ?_) (fun ht190 => ?_)
    · have h := condT h ht190
      refine JS.seq (JS.norm [false, false, false, false, false, false, true, true, true, true, true, true, true, true, true, true, true, true, true, true, true, true, true, true] [⟨(.int .i64), ⟨a5, x0.2.2.1.1.length, c6⟩, x0.2.2.1.1⟩, ⟨(.sl (.int .i64)), ⟨a9, x0.2.2.2.2.2.2.2.2.2.2.1.length, c10⟩, x0.2.2.2.2.2.2.2.2.2.2.1⟩, ⟨(.pair (.sl (.int .i64)) (.int .i64)), ⟨a13, x0.2.2.2.2.2.2.2.2.2.2.2.1.length, c14⟩, x0.2.2.2.2.2.2.2.2.2.2.2.1⟩, ⟨(.int .i64), ⟨a17, x0.2.2.2.2.2.2.2.2.2.2.2.2.2.1.1.length, c18⟩, x0.2.2.2.2.2.2.2.2.2.2.2.2.2.1.1⟩, ⟨(.int .i64), ⟨a21, x0.2.2.2.2.2.2.2.2.2.2.2.2.2.2.1.length, c22⟩, x0.2.2.2.2.2.2.2.2.2.2.2.2.2.2.1⟩, ⟨(.int .i64), ⟨a25, x0.2.2.2.2.2.2.2.2.2.2.2.2.2.2.2.2.1.length, c26⟩, x0.2.2.2.2.2.2.2.2.2.2.2.2.2.2.2.2.1⟩] [⟨(.int .i64), ⟨a77, y74.2.2.1.1.length, c78⟩, y74.2.2.1.1⟩, ⟨(.sl (.int .i64)), ⟨a79, y74.2.2.2.2.2.2.2.2.2.2.1.length, c80⟩, y74.2.2.2.2.2.2.2.2.2.2.1⟩, ⟨(.pair (.sl (.int .i64)) (.int .i64)), ⟨a81, y74.2.2.2.2.2.2.2.2.2.2.2.1.length, c82⟩, y74.2.2.2.2.2.2.2.2.2.2.2.1⟩, ⟨(.int .i64), ⟨a83, y74.2.2.2.2.2.2.2.2.2.2.2.2.2.1.1.length, c84⟩, y74.2.2.2.2.2.2.2.2.2.2.2.2.2.1.1⟩, ⟨(.int .i64), ⟨a85, y74.2.2.2.2.2.2.2.2.2.2.2.2.2.2.1.length, c86⟩, y74.2.2.2.2.2.2.2.2.2.2.2.2.2.2.1⟩, ⟨(.int .i64), ⟨a87, y74.2.2.2.2.2.2.2.2.2.2.2.2.2.2.2.2.1.length, c88⟩, y74.2.2.2.2.2.2.2.2.2.2.2.2.2.2.2.2.1⟩, ⟨(.int .i64), ⟨a62, y60.2.2.1.1.length, c63⟩, y60.2.2.1.1⟩, ⟨(.sl (.int .i64)), ⟨a64, y60.2.2.2.2.2.2.2.2.2.2.1.length, c65⟩, y60.2.2.2.2.2.2.2.2.2.2.1⟩, ⟨(.pair (.sl (.int .i64)) (.int .i64)), ⟨a66, y60.2.2.2.2.2.2.2.2.2.2.2.1.length, c67⟩, y60.2.2.2.2.2.2.2.2.2.2.2.1⟩, ⟨(.int .i64), ⟨a68, y60.2.2.2.2.2.2.2.2.2.2.2.2.2.1.1.length, c69⟩, y60.2.2.2.2.2.2.2.2.2.2.2.2.2.1.1⟩, ⟨(.int .i64), ⟨a70, y60.2.2.2.2.2.2.2.2.2.2.2.2.2.2.1.length, c71⟩, y60.2.2.2.2.2.2.2.2.2.2.2.2.2.2.1⟩, ⟨(.int .i64), ⟨a72, y60.2.2.2.2.2.2.2.2.2.2.2.2.2.2.2.2.1.length, c73⟩, y60.2.2.2.2.2.2.2.2.2.2.2.2.2.2.2.2.1⟩, ⟨(.int .i64), ⟨a48, y45.2.2.1.1.length, c49⟩, y45.2.2.1.1⟩, ⟨(.sl (.int .i64)), ⟨a50, y45.2.2.2.2.2.2.2.2.2.2.1.length, c51⟩, y45.2.2.2.2.2.2.2.2.2.2.1⟩, ⟨(.pair (.sl (.int .i64)) (.int .i64)), ⟨a52, y45.2.2.2.2.2.2.2.2.2.2.2.1.length, c53⟩, y45.2.2.2.2.2.2.2.2.2.2.2.1⟩, ⟨(.int .i64), ⟨a54, y45.2.2.2.2.2.2.2.2.2.2.2.2.2.1.1.length, c55⟩, y45.2.2.2.2.2.2.2.2.2.2.2.2.2.1.1⟩, ⟨(.int .i64), ⟨a56, y45.2.2.2.2.2.2.2.2.2.2.2.2.2.2.1.length, c57⟩, y45.2.2.2.2.2.2.2.2.2.2.2.2.2.2.1⟩, ⟨(.int .i64), ⟨a58, y45.2.2.2.2.2.2.2.2.2.2.2.2.2.2.2.2.1.length, c59⟩, y45.2.2.2.2.2.2.2.2.2.2.2.2.2.2.2.2.1⟩] rfl rfl (JS.region (JO.reg ttOk 1 [] [] [(8, .v (.bool false))] _ rfl ⟨⟨rfl, trivial⟩, rfl⟩ (JO.done rfl ?_))))
      cases h
      exact JS.ret ttOk () trivial rfl rfl [] rfl
    have h := condF h ht190
    refine JS.skip (JS.seq (JS.norm [false, false, false, false, false, false, true, true, true, true, true, true, true, true, true, true, true, true, true, true, true, true, true, true] [⟨(.int .i64), ⟨a5, x0.2.2.1.1.length, c6⟩, x0.2.2.1.1⟩, ⟨(.sl (.int .i64)), ⟨a9, x0.2.2.2.2.2.2.2.2.2.2.1.length, c10⟩, x0.2.2.2.2.2.2.2.2.2.2.1⟩, ⟨(.pair (.sl (.int .i64)) (.int .i64)), ⟨a13, x0.2.2.2.2.2.2.2.2.2.2.2.1.length, c14⟩, x0.2.2.2.2.2.2.2.2.2.2.2.1⟩, ⟨(.int .i64), ⟨a17, x0.2.2.2.2.2.2.2.2.2.2.2.2.2.1.1.length, c18⟩, x0.2.2.2.2.2.2.2.2.2.2.2.2.2.1.1⟩, ⟨(.int .i64), ⟨a21, x0.2.2.2.2.2.2.2.2.2.2.2.2.2.2.1.length, c22⟩, x0.2.2.2.2.2.2.2.2.2.2.2.2.2.2.1⟩, ⟨(.int .i64), ⟨a25, x0.2.2.2.2.2.2.2.2.2.2.2.2.2.2.2.2.1.length, c26⟩, x0.2.2.2.2.2.2.2.2.2.2.2.2.2.2.2.2.1⟩] [⟨(.int .i64), ⟨a77, y74.2.2.1.1.length, c78⟩, y74.2.2.1.1⟩, ⟨(.sl (.int .i64)), ⟨a79, y74.2.2.2.2.2.2.2.2.2.2.1.length, c80⟩, y74.2.2.2.2.2.2.2.2.2.2.1⟩, ⟨(.pair (.sl (.int .i64)) (.int .i64)), ⟨a81, y74.2.2.2.2.2.2.2.2.2.2.2.1.length, c82⟩, y74.2.2.2.2.2.2.2.2.2.2.2.1⟩, ⟨(.int .i64), ⟨a83, y74.2.2.2.2.2.2.2.2.2.2.2.2.2.1.1.length, c84⟩, y74.2.2.2.2.2.2.2.2.2.2.2.2.2.1.1⟩, ⟨(.int .i64), ⟨a85, y74.2.2.2.2.2.2.2.2.2.2.2.2.2.2.1.length, c86⟩, y74.2.2.2.2.2.2.2.2.2.2.2.2.2.2.1⟩, ⟨(.int .i64), ⟨a87, y74.2.2.2.2.2.2.2.2.2.2.2.2.2.2.2.2.1.length, c88⟩, y74.2.2.2.2.2.2.2.2.2.2.2.2.2.2.2.2.1⟩, ⟨(.int .i64), ⟨a62, y60.2.2.1.1.length, c63⟩, y60.2.2.1.1⟩, ⟨(.sl (.int .i64)), ⟨a64, y60.2.2.2.2.2.2.2.2.2.2.1.length, c65⟩, y60.2.2.2.2.2.2.2.2.2.2.1⟩, ⟨(.pair (.sl (.int .i64)) (.int .i64)), ⟨a66, y60.2.2.2.2.2.2.2.2.2.2.2.1.length, c67⟩, y60.2.2.2.2.2.2.2.2.2.2.2.1⟩, ⟨(.int .i64), ⟨a68, y60.2.2.2.2.2.2.2.2.2.2.2.2.2.1.1.length, c69⟩, y60.2.2.2.2.2.2.2.2.2.2.2.2.2.1.1⟩, ⟨(.int .i64), ⟨a70, y60.2.2.2.2.2.2.2.2.2.2.2.2.2.2.1.length, c71⟩, y60.2.2.2.2.2.2.2.2.2.2.2.2.2.2.1⟩, ⟨(.int .i64), ⟨a72, y60.2.2.2.2.2.2.2.2.2.2.2.2.2.2.2.2.1.length, c73⟩, y60.2.2.2.2.2.2.2.2.2.2.2.2.2.2.2.2.1⟩, ⟨(.int .i64), ⟨a48, y45.2.2.1.1.length, c49⟩, y45.2.2.1.1⟩, ⟨(.sl (.int .i64)), ⟨a50, y45.2.2.2.2.2.2.2.2.2.2.1.length, c51⟩, y45.2.2.2.2.2.2.2.2.2.2.1⟩, ⟨(.pair (.sl (.int .i64)) (.int .i64)), ⟨a52, y45.2.2.2.2.2.2.2.2.2.2.2.1.length, c53⟩, y45.2.2.2.2.2.2.2.2.2.2.2.1⟩, ⟨(.int .i64), ⟨a54, y45.2.2.2.2.2.2.2.2.2.2.2.2.2.1.1.length, c55⟩, y45.2.2.2.2.2.2.2.2.2.2.2.2.2.1.1⟩, ⟨(.int .i64), ⟨a56, y45.2.2.2.2.2.2.2.2.2.2.2.2.2.2.1.length, c57⟩, y45.2.2.2.2.2.2.2.2.2.2.2.2.2.2.1⟩, ⟨(.int .i64), ⟨a58, y45.2.2.2.2.2.2.2.2.2.2.2.2.2.2.2.2.1.length, c59⟩, y45.2.2.2.2.2.2.2.2.2.2.2.2.2.2.2.2.1⟩] rfl rfl (JS.region (JO.reg ttOk 1 [] [] [(15, .v (.int .i64 1))] _ rfl ⟨⟨rfl, trivial⟩, rfl⟩ (JO.done rfl (JS.seq (JS.region (JO.reg ttOk 2 [] [] [(58, .v (.agg (cl42 y60 a62 c63 a64 c65 a66 c67 a68 c69 a70 c71 a72 c73).toArray)), (59, .v (.int .i64 1))] _ rfl ⟨⟨rfl, rfl, trivial⟩, rfl⟩ ?_))))))))
    obtain ⟨⟨y108, y109, y110, y111, y112, y113, y114⟩, hy115, h⟩ := bindO_some h
    refine JO.callX rfl rfl rfl rfl (ok_l_markEd y60 1 a62 c63 y60.2.2.1.1.length rfl a64 c65 y60.2.2.2.2.2.2.2.2.2.2.1.length rfl a66 c67 y60.2.2.2.2.2.2.2.2.2.2.2.1.length rfl a68 c69 y60.2.2.2.2.2.2.2.2.2.2.2.2.2.1.1.length rfl a70 c71 y60.2.2.2.2.2.2.2.2.2.2.2.2.2.2.1.length rfl a72 c73 y60.2.2.2.2.2.2.2.2.2.2.2.2.2.2.2.2.1.length rfl _ hy115) rfl [6, 6, 6, 6, 6, 6] rfl [] rfl rfl fun _ _ => JO.know 6 rfl fun hs116 => JO.know 7 rfl fun hs117 => JO.know 8 rfl fun hs118 => JO.know 9 rfl fun hs119 => JO.know 10 rfl fun hs120 => JO.know 11 rfl fun hs121 => JO.reg ttOk 1 [] [] [(15, .v (.int .i64 y108))] _ rfl ⟨⟨rfl, trivial⟩, rfl⟩ (JO.done rfl (JS.seq (JS.seq (JS.region (JO.reg ttOk 5 [] [] [(63, .v (.bool (decide (y108 < 0)))), (64, .cd [(63, false)] (.v (.agg (cl42 y74 a77 c78 a79 c80 a81 c82 a83 c84 a85 c86 a87 c88).toArray))), (65, .cd [(63, false)] (.v (.agg (cl42 y45 a48 c49 a50 c51 a52 c53 a54 c55 a56 c57 a58 c59).toArray)))] _ rfl ⟨⟨rfl, rfl, rfl, trivial⟩, rfl⟩ ?_)))))
    obtain ⟨y122, hy123, -, h⟩ := callO_some h
    refine JO.callg rfl rfl rfl rfl (fun q183 => ok_l_eqEd y74 y45 a77 c78 y74.2.2.1.1.length rfl a79 c80 y74.2.2.2.2.2.2.2.2.2.2.1.length rfl a81 c82 y74.2.2.2.2.2.2.2.2.2.2.2.1.length rfl a83 c84 y74.2.2.2.2.2.2.2.2.2.2.2.2.2.1.1.length rfl a85 c86 y74.2.2.2.2.2.2.2.2.2.2.2.2.2.2.1.length rfl a87 c88 y74.2.2.2.2.2.2.2.2.2.2.2.2.2.2.2.2.1.length rfl a48 c49 y45.2.2.1.1.length rfl a50 c51 y45.2.2.2.2.2.2.2.2.2.2.1.length rfl a52 c53 y45.2.2.2.2.2.2.2.2.2.2.2.1.length rfl a54 c55 y45.2.2.2.2.2.2.2.2.2.2.2.2.2.1.1.length rfl a56 c57 y45.2.2.2.2.2.2.2.2.2.2.2.2.2.2.1.length rfl a58 c59 y45.2.2.2.2.2.2.2.2.2.2.2.2.2.2.2.2.1.length rfl _ (hy123 q183)) rfl [12, 13, 14, 15, 16, 17, 18, 19, 20, 21, 22, 23] rfl rfl (JO.reg ttOk 7 [] [] [(73, .v (.bool (bif (bif (decide (y108 < 0)) then true else (!y122)) then true else (!(decide (y75 = y46))))))] _ rfl ⟨⟨rfl, trivial⟩, rfl⟩ (JO.done rfl ?_))
    refine JS.cond rfl (fun ht189 => ?_) (fun ht189 => ?_)
    · have h := condT h ht189
      refine JS.seq (JS.region (JO.reg ttOk 1 [] [] [(8, .v (.bool false))] _ rfl ⟨⟨rfl, trivial⟩, rfl⟩ (JO.done rfl ?_)))
      cases h
      exact JS.ret ttOk () trivial rfl rfl [] rfl
    have h := condF h ht189
    refine JS.skip (JS.seq (JS.region (JO.reg ttOk 1 [] [] [(16, .v (.int .i64 1))] _ rfl ⟨⟨rfl, trivial⟩, rfl⟩ (JO.done rfl (JS.seq (JS.region (JO.reg ttOk 2 [] [] [(74, .v (.agg (cl42 y74 a77 c78 a79 c80 a81 c82 a83 c84 a85 c86 a87 c88).toArray)), (75, .v (.int .i64 1))] _ rfl ⟨⟨rfl, rfl, trivial⟩, rfl⟩ ?_)))))))
    obtain ⟨⟨y125, y126, y127, y128, y129, y130, y131⟩, hy132, h⟩ := bindO_some h
    refine JO.callX rfl rfl rfl rfl (ok_l_markEd y74 1 a77 c78 y74.2.2.1.1.length rfl a79 c80 y74.2.2.2.2.2.2.2.2.2.2.1.length rfl a81 c82 y74.2.2.2.2.2.2.2.2.2.2.2.1.length rfl a83 c84 y74.2.2.2.2.2.2.2.2.2.2.2.2.2.1.1.length rfl a85 c86 y74.2.2.2.2.2.2.2.2.2.2.2.2.2.2.1.length rfl a87 c88 y74.2.2.2.2.2.2.2.2.2.2.2.2.2.2.2.2.1.length rfl _ hy132) rfl [6, 6, 6, 6, 6, 6] rfl [] rfl rfl fun _ _ => JO.know 6 rfl fun hs133 => JO.know 7 rfl fun hs134 => JO.know 8 rfl fun hs135 => JO.know 9 rfl fun hs136 => JO.know 10 rfl fun hs137 => JO.know 11 rfl fun hs138 => JO.reg ttOk 1 [] [] [(16, .v (.int .i64 y125))] _ rfl ⟨⟨rfl, trivial⟩, rfl⟩ (JO.done rfl (JS.seq (JS.region (JO.reg ttOk 1 [] [] [(17, .v (.int .i64 1))] _ rfl ⟨⟨rfl, trivial⟩, rfl⟩ (JO.done rfl (JS.seq (JS.region (JO.reg ttOk 2 [] [] [(77, .v (.agg (cl42 y74 a77 c78 a79 c80 a81 c82 a83 c84 a85 c86 a87 c88).toArray)), (78, .v (.int .i64 1))] _ rfl ⟨⟨rfl, rfl, trivial⟩, rfl⟩ ?_))))))))
    obtain ⟨y139, hy140, h⟩ := bindO_some h
    refine JO.call rfl rfl rfl rfl (ok_l_heldEd (y74.1, y74.2.1, (y126, y74.2.2.1.2), y74.2.2.2.1, y74.2.2.2.2.1, y74.2.2.2.2.2.1, y74.2.2.2.2.2.2.1, y74.2.2.2.2.2.2.2.1, y74.2.2.2.2.2.2.2.2.1, y74.2.2.2.2.2.2.2.2.2.1, y127, y128, y74.2.2.2.2.2.2.2.2.2.2.2.2.1, (y129, y74.2.2.2.2.2.2.2.2.2.2.2.2.2.1.2), y130, y74.2.2.2.2.2.2.2.2.2.2.2.2.2.2.2.1, (y131, y74.2.2.2.2.2.2.2.2.2.2.2.2.2.2.2.2.2)) 1 a77 c78 y74.2.2.1.1.length hs133.len.symm a79 c80 y74.2.2.2.2.2.2.2.2.2.2.1.length hs134.len.symm a81 c82 y74.2.2.2.2.2.2.2.2.2.2.2.1.length hs135.len.symm a83 c84 y74.2.2.2.2.2.2.2.2.2.2.2.2.2.1.1.length hs136.len.symm a85 c86 y74.2.2.2.2.2.2.2.2.2.2.2.2.2.2.1.length hs137.len.symm a87 c88 y74.2.2.2.2.2.2.2.2.2.2.2.2.2.2.2.2.1.length hs138.len.symm _ hy140) rfl [6, 7, 8, 9, 10, 11] rfl rfl fun _ _ => JO.reg ttOk 1 [] [] [(17, .v (.int .i64 y139))] _ rfl ⟨⟨rfl, trivial⟩, rfl⟩ (JO.done rfl (JS.seq (JS.seq (JS.region (JO.reg ttOk 2 [] [] [(81, .v (.bool (decide (y139 < 0))))] _ rfl ⟨⟨rfl, trivial⟩, rfl⟩ (JO.done rfl ?_))))))
    refine JS.cond rfl (fun ht188 => ?_) (fun ht188 => ?_)
    · have h := condT h ht188
      refine JS.seq (JS.region (JO.reg ttOk 1 [] [] [(8, .v (.bool false))] _ rfl ⟨⟨rfl, trivial⟩, rfl⟩ (JO.done rfl ?_)))
      cases h
      exact JS.ret ttOk () trivial rfl rfl [] rfl
    have h := condF h ht188
    refine JS.skip (JS.seq (JS.seq (JS.region (JO.reg ttOk 3 [] [] [(84, .v (.bool (!(decide (y139 = y125)))))] _ rfl ⟨⟨rfl, trivial⟩, rfl⟩ (JO.done rfl ?_)))))
    refine JS.cond rfl (fun ht187 => ?_) (fun ht187 => ?_)
    · have h := condT h ht187
      refine JS.seq (JS.region (JO.reg ttOk 1 [] [] [(8, .v (.bool false))] _ rfl ⟨⟨rfl, trivial⟩, rfl⟩ (JO.done rfl ?_)))
      cases h
      exact JS.ret ttOk () trivial rfl rfl [] rfl
    have h := condF h ht187
    refine JS.skip (JS.seq (JS.region (JO.reg ttOk 1 [] [] [(86, .v (.agg (cl32 x0 a5 c6 a9 c10 a13 c14 a17 c18 a21 c22 a25 c26).toArray))] _ rfl ⟨⟨rfl, trivial⟩, rfl⟩ ?_)))
    obtain ⟨y141, hy142, h⟩ := bindO_some h
    refine JO.call rfl rfl rfl rfl (ok_l_toEd x0 a5 c6 x0.2.2.1.1.length rfl a9 c10 x0.2.2.2.2.2.2.2.2.2.2.1.length rfl a13 c14 x0.2.2.2.2.2.2.2.2.2.2.2.1.length rfl a17 c18 x0.2.2.2.2.2.2.2.2.2.2.2.2.2.1.1.length rfl a21 c22 x0.2.2.2.2.2.2.2.2.2.2.2.2.2.2.1.length rfl a25 c26 x0.2.2.2.2.2.2.2.2.2.2.2.2.2.2.2.2.1.length rfl _ hy142) rfl [0, 1, 2, 3, 4, 5] rfl rfl ?_
    rintro ⟨a143, c144, a145, c146, a147, c148, a149, c150, a151, c152, a153, c154⟩ -
    refine JO.reg ttOk 3 [] [] [(88, .v (.int .i64 x1)), (89, .v (.int .i64 x2)), (90, .v (.int .i64 x3))] _ rfl ⟨⟨rfl, rfl, rfl, trivial⟩, rfl⟩ ?_
    obtain ⟨⟨y155, y156⟩, hy157, h⟩ := bindO_some h
    refine JO.call rfl rfl rfl rfl (ok_i_Change y141 x1 x2 x3 a143 c144 y141.2.2.1.1.length rfl a145 c146 y141.2.2.2.2.2.2.2.2.2.2.1.length rfl a147 c148 y141.2.2.2.2.2.2.2.2.2.2.2.1.length rfl a149 c150 y141.2.2.2.2.2.2.2.2.2.2.2.2.2.1.1.length rfl a151 c152 y141.2.2.2.2.2.2.2.2.2.2.2.2.2.2.1.length rfl a153 c154 y141.2.2.2.2.2.2.2.2.2.2.2.2.2.2.2.2.1.length rfl _ hy157) rfl [6, 7, 8, 9, 10, 11] rfl rfl ?_
    rintro ⟨a158, c159, a160, c161, a162, c163, a164, c165, a166, c167, a168, c169⟩ -
    refine JO.regB ttOk 6 [] [193] [(18, .bp 193 0), (19, .v (.int .i64 y156))] (.new 51 42 (cl42 y45 a48 c49 a50 c51 a52 c53 a54 c55 a56 c57 a58 c59) (.new 94 42 (cl42 y74 a77 c78 a79 c80 a81 c82 a83 c84 a85 c86 a87 c88) (.new 193 42 (cl42 y155 a158 c159 a160 c161 a162 c163 a164 c165 a166 c167 a168 c169) .nil))) rfl ⟨⟨rfl, rfl, trivial⟩, ⟨rfl, rfl, rfl, rfl, rfl, rfl, rfl, rfl, rfl, rfl, rfl, rfl, trivial⟩⟩ (JO.done rfl (JS.seq (JS.seq (JS.norm [true, true, true, true, true, true, false, false, false, false, false, false, true, true, true, true, true, true, false, false, false, false, false, false, true, true, true, true, true, true] [⟨(.int .i64), ⟨a5, x0.2.2.1.1.length, c6⟩, x0.2.2.1.1⟩, ⟨(.sl (.int .i64)), ⟨a9, x0.2.2.2.2.2.2.2.2.2.2.1.length, c10⟩, x0.2.2.2.2.2.2.2.2.2.2.1⟩, ⟨(.pair (.sl (.int .i64)) (.int .i64)), ⟨a13, x0.2.2.2.2.2.2.2.2.2.2.2.1.length, c14⟩, x0.2.2.2.2.2.2.2.2.2.2.2.1⟩, ⟨(.int .i64), ⟨a17, x0.2.2.2.2.2.2.2.2.2.2.2.2.2.1.1.length, c18⟩, x0.2.2.2.2.2.2.2.2.2.2.2.2.2.1.1⟩, ⟨(.int .i64), ⟨a21, x0.2.2.2.2.2.2.2.2.2.2.2.2.2.2.1.length, c22⟩, x0.2.2.2.2.2.2.2.2.2.2.2.2.2.2.1⟩, ⟨(.int .i64), ⟨a25, x0.2.2.2.2.2.2.2.2.2.2.2.2.2.2.2.2.1.length, c26⟩, x0.2.2.2.2.2.2.2.2.2.2.2.2.2.2.2.2.1⟩] [⟨(.int .i64), ⟨a158, y155.2.2.1.1.length, c159⟩, y155.2.2.1.1⟩, ⟨(.sl (.int .i64)), ⟨a160, y155.2.2.2.2.2.2.2.2.2.2.1.length, c161⟩, y155.2.2.2.2.2.2.2.2.2.2.1⟩, ⟨(.pair (.sl (.int .i64)) (.int .i64)), ⟨a162, y155.2.2.2.2.2.2.2.2.2.2.2.1.length, c163⟩, y155.2.2.2.2.2.2.2.2.2.2.2.1⟩, ⟨(.int .i64), ⟨a164, y155.2.2.2.2.2.2.2.2.2.2.2.2.2.1.1.length, c165⟩, y155.2.2.2.2.2.2.2.2.2.2.2.2.2.1.1⟩, ⟨(.int .i64), ⟨a166, y155.2.2.2.2.2.2.2.2.2.2.2.2.2.2.1.length, c167⟩, y155.2.2.2.2.2.2.2.2.2.2.2.2.2.2.1⟩, ⟨(.int .i64), ⟨a168, y155.2.2.2.2.2.2.2.2.2.2.2.2.2.2.2.2.1.length, c169⟩, y155.2.2.2.2.2.2.2.2.2.2.2.2.2.2.2.2.1⟩, ⟨(.int .i64), ⟨a77, y74.2.2.1.1.length, c78⟩, y126⟩, ⟨(.sl (.int .i64)), ⟨a79, y74.2.2.2.2.2.2.2.2.2.2.1.length, c80⟩, y127⟩, ⟨(.pair (.sl (.int .i64)) (.int .i64)), ⟨a81, y74.2.2.2.2.2.2.2.2.2.2.2.1.length, c82⟩, y128⟩, ⟨(.int .i64), ⟨a83, y74.2.2.2.2.2.2.2.2.2.2.2.2.2.1.1.length, c84⟩, y129⟩, ⟨(.int .i64), ⟨a85, y74.2.2.2.2.2.2.2.2.2.2.2.2.2.2.1.length, c86⟩, y130⟩, ⟨(.int .i64), ⟨a87, y74.2.2.2.2.2.2.2.2.2.2.2.2.2.2.2.2.1.length, c88⟩, y131⟩, ⟨(.int .i64), ⟨a48, y45.2.2.1.1.length, c49⟩, y45.2.2.1.1⟩, ⟨(.sl (.int .i64)), ⟨a50, y45.2.2.2.2.2.2.2.2.2.2.1.length, c51⟩, y45.2.2.2.2.2.2.2.2.2.2.1⟩, ⟨(.pair (.sl (.int .i64)) (.int .i64)), ⟨a52, y45.2.2.2.2.2.2.2.2.2.2.2.1.length, c53⟩, y45.2.2.2.2.2.2.2.2.2.2.2.1⟩, ⟨(.int .i64), ⟨a54, y45.2.2.2.2.2.2.2.2.2.2.2.2.2.1.1.length, c55⟩, y45.2.2.2.2.2.2.2.2.2.2.2.2.2.1.1⟩, ⟨(.int .i64), ⟨a56, y45.2.2.2.2.2.2.2.2.2.2.2.2.2.2.1.length, c57⟩, y45.2.2.2.2.2.2.2.2.2.2.2.2.2.2.1⟩, ⟨(.int .i64), ⟨a58, y45.2.2.2.2.2.2.2.2.2.2.2.2.2.2.2.2.1.length, c59⟩, y45.2.2.2.2.2.2.2.2.2.2.2.2.2.2.2.2.1⟩] rfl rfl (JS.region (JO.reg ttOk 2 [] [] [(94, .v (.agg (cl42 y155 a158 c159 a160 c161 a162 c163 a164 c165 a166 c167 a168 c169).toArray)), (95, .v (.agg (cl42 y45 a48 c49 a50 c51 a52 c53 a54 c55 a56 c57 a58 c59).toArray))] _ rfl ⟨⟨rfl, rfl, trivial⟩, rfl⟩ ?_))))))
    obtain ⟨y170, hy171, h⟩ := bindO_some h
    refine JO.call rfl rfl rfl rfl (ok_l_eqEd y155 y45 a158 c159 y155.2.2.1.1.length rfl a160 c161 y155.2.2.2.2.2.2.2.2.2.2.1.length rfl a162 c163 y155.2.2.2.2.2.2.2.2.2.2.2.1.length rfl a164 c165 y155.2.2.2.2.2.2.2.2.2.2.2.2.2.1.1.length rfl a166 c167 y155.2.2.2.2.2.2.2.2.2.2.2.2.2.2.1.length rfl a168 c169 y155.2.2.2.2.2.2.2.2.2.2.2.2.2.2.2.2.1.length rfl a48 c49 y45.2.2.1.1.length rfl a50 c51 y45.2.2.2.2.2.2.2.2.2.2.1.length rfl a52 c53 y45.2.2.2.2.2.2.2.2.2.2.2.1.length rfl a54 c55 y45.2.2.2.2.2.2.2.2.2.2.2.2.2.1.1.length rfl a56 c57 y45.2.2.2.2.2.2.2.2.2.2.2.2.2.2.1.length rfl a58 c59 y45.2.2.2.2.2.2.2.2.2.2.2.2.2.2.2.2.1.length rfl _ hy171) rfl [6, 7, 8, 9, 10, 11, 18, 19, 20, 21, 22, 23] rfl rfl fun _ _ => JO.reg ttOk 6 [] [] [(102, .v (.bool (bif (!y170) then true else (!(decide (y156 = y46))))))] _ rfl ⟨⟨rfl, trivial⟩, rfl⟩ (JO.done rfl ?_)
    refine JS.cond rfl (fun ht186 => ?_) (fun ht186 => ?_)
    · have h := condT h ht186
      refine JS.seq (JS.region (JO.reg ttOk 1 [] [] [(8, .v (.bool false))] _ rfl ⟨⟨rfl, trivial⟩, rfl⟩ (JO.done rfl ?_)))
      cases h
      exact JS.ret ttOk () trivial rfl rfl [] rfl
    have h := condF h ht186
    refine JS.skip (JS.seq (JS.region (JO.reg ttOk 1 [] [] [(17, .v (.int .i64 1))] _ rfl ⟨⟨rfl, trivial⟩, rfl⟩ (JO.done rfl (JS.seq (JS.region (JO.reg ttOk 2 [] [] [(103, .v (.agg (cl42 y74 a77 c78 a79 c80 a81 c82 a83 c84 a85 c86 a87 c88).toArray)), (104, .v (.int .i64 1))] _ rfl ⟨⟨rfl, rfl, trivial⟩, rfl⟩ ?_)))))))
    obtain ⟨y172, hy173, h⟩ := bindO_some h
    refine JO.call rfl rfl rfl rfl (ok_l_heldEd (y74.1, y74.2.1, (y126, y74.2.2.1.2), y74.2.2.2.1, y74.2.2.2.2.1, y74.2.2.2.2.2.1, y74.2.2.2.2.2.2.1, y74.2.2.2.2.2.2.2.1, y74.2.2.2.2.2.2.2.2.1, y74.2.2.2.2.2.2.2.2.2.1, y127, y128, y74.2.2.2.2.2.2.2.2.2.2.2.2.1, (y129, y74.2.2.2.2.2.2.2.2.2.2.2.2.2.1.2), y130, y74.2.2.2.2.2.2.2.2.2.2.2.2.2.2.2.1, (y131, y74.2.2.2.2.2.2.2.2.2.2.2.2.2.2.2.2.2)) 1 a77 c78 y74.2.2.1.1.length hs133.len.symm a79 c80 y74.2.2.2.2.2.2.2.2.2.2.1.length hs134.len.symm a81 c82 y74.2.2.2.2.2.2.2.2.2.2.2.1.length hs135.len.symm a83 c84 y74.2.2.2.2.2.2.2.2.2.2.2.2.2.1.1.length hs136.len.symm a85 c86 y74.2.2.2.2.2.2.2.2.2.2.2.2.2.2.1.length hs137.len.symm a87 c88 y74.2.2.2.2.2.2.2.2.2.2.2.2.2.2.2.2.1.length hs138.len.symm _ hy173) rfl [12, 13, 14, 15, 16, 17] rfl rfl fun _ _ => JO.reg ttOk 1 [] [] [(17, .v (.int .i64 y172))] _ rfl ⟨⟨rfl, trivial⟩, rfl⟩ (JO.done rfl (JS.seq (JS.seq (JS.region (JO.reg ttOk 2 [] [] [(107, .v (.bool (decide (y172 < 0))))] _ rfl ⟨⟨rfl, trivial⟩, rfl⟩ (JO.done rfl ?_))))))
    refine JS.cond rfl (fun ht185 => ?_) (fun ht185 => ?_)
    · have h := condT h ht185
      refine JS.seq (JS.region (JO.reg ttOk 1 [] [] [(8, .v (.bool false))] _ rfl ⟨⟨rfl, trivial⟩, rfl⟩ (JO.done rfl ?_)))
      cases h
      exact JS.ret ttOk () trivial rfl rfl [] rfl
    have h := condF h ht185
    refine JS.skip (JS.seq (JS.seq (JS.region (JO.reg ttOk 3 [] [] [(110, .v (.bool (!(decide (y172 = y125)))))] _ rfl ⟨⟨rfl, trivial⟩, rfl⟩ (JO.done rfl ?_)))))
    refine JS.cond rfl (fun ht184 => ?_) (fun ht184 => ?_)
    · have h := condT h ht184
      refine JS.seq (JS.region (JO.reg ttOk 1 [] [] [(8, .v (.bool false))] _ rfl ⟨⟨rfl, trivial⟩, rfl⟩ (JO.done rfl ?_)))
      cases h
      exact JS.ret ttOk () trivial rfl rfl [] rfl
    have h := condF h ht184
    refine JS.skip (JS.seq (JS.region (JO.reg ttOk 1 [] [] [(8, .v (.bool true))] _ rfl ⟨⟨rfl, trivial⟩, rfl⟩ (JO.done rfl ?_))))
    cases h
    exact JS.ret ttOk () trivial rfl rfl [] rfl

end
end Go.Eng
