/- The walks of the functions that FnPutRune reaches: what each computes, as a plain function (M_..), and that the model computes it (ok_..). Condition of each: that the plain function answers. -/
import Derived.Test.YtokbomfmkllghaaFnPutRuneWalkB
set_option linter.unusedVariables false
set_option linter.unusedSimpArgs false
namespace Go.Eng
open Go Go.Proofs
noncomputable section

def M_i_Grid_put_in45 (x0 : (Int × Int × List Int × Int × Int × Bool) × Int × List Int × List UInt8 × Int) (x1 : Int) : Option ((Int × Int × List Int × Int × Int × Bool) × Int × List Int × List UInt8 × Int) :=
  (bindO (M_i_Width x1) fun (y16 : Int) =>
  (bif (decide (y16 = 0)) then
  some x0
  else
  (joinO (fun ((x58, x59, x60, x63, x64, x65, x66, x67, x70, x73) : Int × Int × List Int × Int × Int × Bool × Int × List Int × List UInt8 × Int) =>
  (bindO (M_i_Grid_erase_in45 ((x58, x59, x60, x63, x64, x65), x66, x67, x70, x73) (W ((W (x64 * x58)) + x63)) (W ((W ((W (x64 * x58)) + x63)) + y16))) fun (y109 : (Int × Int × List Int × Int × Int × Bool) × Int × List Int × List UInt8 × Int) =>
  (guardO (0 ≤ (W ((W (x64 * x58)) + x63)) ∧ (W ((W (x64 * x58)) + x63)) < (y109.1.2.2.1.length : Int)) <|
  (joinO (fun (x121 : List Int) =>
  (bif (decide (y109.1.1 ≤ (W (y109.1.2.2.2.1 + y16)))) then
  some ((y109.1.1, y109.1.2.1, x121, (W (y109.1.1 - 1)), y109.1.2.2.2.2.1, true), y109.2.1, y109.2.2.1, y109.2.2.2.1, y109.2.2.2.2)
  else
  some ((y109.1.1, y109.1.2.1, x121, (W (y109.1.2.2.2.1 + y16)), y109.1.2.2.2.2.1, y109.1.2.2.2.2.2), y109.2.1, y109.2.2.1, y109.2.2.2.1, y109.2.2.2.2))) fun j124 =>
  (bif (decide (y16 = 2)) then
  (guardO (0 ≤ (W ((W ((W (x64 * x58)) + x63)) + 1)) ∧ (W ((W ((W (x64 * x58)) + x63)) + 1)) < (y109.1.2.2.1.length : Int)) <|
  j124 (List.set (List.set y109.1.2.2.1 (Int.toNat (W ((W (x64 * x58)) + x63))) x1) (Int.toNat (W ((W ((W (x64 * x58)) + x63)) + 1))) (-1)))
  else
  j124 (List.set y109.1.2.2.1 (Int.toNat (W ((W (x64 * x58)) + x63))) x1)))))) fun j74 =>
  (bif (bif x0.1.2.2.2.2.2 then true else (bif (decide (y16 = 2)) then (decide (x0.1.2.2.2.1 = (W (x0.1.1 - 1)))) else false)) then
  (bif (decide (x0.1.2.2.2.2.1 = (W (x0.1.2.1 - 1)))) then
  (bindO (M_i_Grid_scroll_in45 ((x0.1.1, x0.1.2.1, x0.1.2.2.1, 0, x0.1.2.2.2.2.1, false), x0.2.1, x0.2.2.1, x0.2.2.2.1, x0.2.2.2.2)) fun (y48 : (Int × Int × List Int × Int × Int × Bool) × Int × List Int × List UInt8 × Int) =>
  j74 (y48.1.1, y48.1.2.1, y48.1.2.2.1, y48.1.2.2.2.1, y48.1.2.2.2.2.1, y48.1.2.2.2.2.2, y48.2.1, y48.2.2.1, y48.2.2.2.1, y48.2.2.2.2))
  else
  j74 (x0.1.1, x0.1.2.1, x0.1.2.2.1, 0, (W (x0.1.2.2.2.2.1 + 1)), false, x0.2.1, x0.2.2.1, x0.2.2.2.1, x0.2.2.2.2))
  else
  j74 (x0.1.1, x0.1.2.1, x0.1.2.2.1, x0.1.2.2.2.1, x0.1.2.2.2.2.1, x0.1.2.2.2.2.2, x0.2.1, x0.2.2.1, x0.2.2.2.1, x0.2.2.2.2)))))

theorem ok_i_Grid_put_in45 (x0 : (Int × Int × List Int × Int × Int × Bool) × Int × List Int × List UInt8 × Int) (x1 : Int) (a3 : Option Addr) (a4 : Option Addr) (c5 : Nat) (l6 : Nat) (hl7 : x0.1.2.2.1.length = l6) (a8 : Option Addr) (c9 : Nat) (l10 : Nat) (hl11 : x0.2.2.1.length = l10) (a12 : Option Addr) (c13 : Nat) (l14 : Nat) (hl15 : x0.2.2.2.1.length = l14) (r : (Int × Int × List Int × Int × Int × Bool) × Int × List Int × List UInt8 × Int) (h : M_i_Grid_put_in45 x0 x1 = some r) :
    FX Try.prog 53 [.pointer a3, .int .i64 x1] [] [⟨(.pair (.pair (.int .i64) (.pair (.int .i64) (.pair .val (.pair (.int .i64) (.pair (.int .i64) .bool))))) (.pair (.int .i64) (.pair .val (.pair .val (.int .i64))))), ⟨a3, 1, 1⟩, [((x0.1.1, x0.1.2.1, (Sl.v ⟨a4, l6, c5⟩), x0.1.2.2.2.1, x0.1.2.2.2.2.1, x0.1.2.2.2.2.2), x0.2.1, (Sl.v ⟨a8, l10, c9⟩), (Sl.v ⟨a12, l14, c13⟩), x0.2.2.2.2)]⟩, ⟨(.int .i64), ⟨a4, l6, c5⟩, x0.1.2.2.1⟩, ⟨(.int .i64), ⟨a8, l10, c9⟩, x0.2.2.1⟩, ⟨.byte, ⟨a12, l14, c13⟩, x0.2.2.2.1⟩] (fun _ : Option Addr × Nat × Option Addr × Nat × Option Addr × Nat => True) (fun q => .tuple #[]) (fun q => [⟨(.pair (.pair (.int .i64) (.pair (.int .i64) (.pair .val (.pair (.int .i64) (.pair (.int .i64) .bool))))) (.pair (.int .i64) (.pair .val (.pair .val (.int .i64))))), ⟨a3, 1, 1⟩, [((r.1.1, r.1.2.1, (Sl.v ⟨q.1, r.1.2.2.1.length, q.2.1⟩), r.1.2.2.2.1, r.1.2.2.2.2.1, r.1.2.2.2.2.2), r.2.1, (Sl.v ⟨q.2.2.1, r.2.2.1.length, q.2.2.2.1⟩), (Sl.v ⟨q.2.2.2.2.1, r.2.2.2.1.length, q.2.2.2.2.2⟩), r.2.2.2.2)]⟩, ⟨(.int .i64), ⟨q.1, r.1.2.2.1.length, q.2.1⟩, r.1.2.2.1⟩, ⟨(.int .i64), ⟨q.2.2.1, r.2.2.1.length, q.2.2.2.1⟩, r.2.2.1⟩, ⟨.byte, ⟨q.2.2.2.2.1, r.2.2.2.1.length, q.2.2.2.2.2⟩, r.2.2.2.1⟩]) :=
  by
    subst hl7
    subst hl11
    subst hl15
    refine FX.of (T := TTx) Try.call53 Try.func53 rfl rfl fun w0 L0 => ?_
    unfold M_i_Grid_put_in45 at h
    refine JS.ptr 0 a3 rfl ?_
    refine JS.seq (JS.region (JO.reg ttOk 1 [] [] [(6, .v (.int .i64 x1))] _ rfl ⟨⟨rfl, trivial⟩, rfl⟩ ?_))
    obtain ⟨y16, hy17, h⟩ := bindO_some h
    refine JO.call rfl rfl rfl rfl (ok_i_Width x1 _ hy17) rfl [] rfl rfl fun _ _ => JO.reg ttOk 1 [] [] [(4, .v (.int .i64 y16))] _ rfl ⟨⟨rfl, trivial⟩, rfl⟩ (JO.done rfl (JS.seq (JS.seq (JS.region (JO.reg ttOk 2 [] [] [(9, .v (.bool (decide (y16 = 0))))] _ rfl ⟨⟨rfl, trivial⟩, rfl⟩ (JO.done rfl ?_))))))
    refine JS.cond rfl (fun ht171 => ?_) (fun ht171 => ?_)
    · have h := condT h ht171
      cases h
      exact JS.retX ttOk (a4, c5, a8, c9, a12, c13) trivial rfl rfl [0, 0, 0, 0] rfl
    have h := condF h ht171
    refine JS.skip ?_
    obtain ⟨j74, hj170, h⟩ := joinO_some h
    refine JS.seqJ (ι := Int × Int × List Int × Int × Int × Bool × Int × List Int × List UInt8 × Int × Option Addr × Nat × Option Addr × Nat × Option Addr × Nat) ⟨fun z => j74 (z.1, z.2.1, z.2.2.1, z.2.2.2.1, z.2.2.2.2.1, z.2.2.2.2.2.1, z.2.2.2.2.2.2.1, z.2.2.2.2.2.2.2.1, z.2.2.2.2.2.2.2.2.1, z.2.2.2.2.2.2.2.2.2.1) = some r, fun z => [(0, .ep ⟨a3, 1, 1⟩ 0), (1, .v (.int .i64 x1)), (4, .v (.int .i64 y16))], fun z => .nil, fun z => [], fun z => [⟨(.int .i64), ⟨z.2.2.2.2.2.2.2.2.2.2.1, z.2.2.1.length, z.2.2.2.2.2.2.2.2.2.2.2.1⟩, z.2.2.1⟩, ⟨(.int .i64), ⟨z.2.2.2.2.2.2.2.2.2.2.2.2.1, z.2.2.2.2.2.2.2.1.length, z.2.2.2.2.2.2.2.2.2.2.2.2.2.1⟩, z.2.2.2.2.2.2.2.1⟩, ⟨.byte, ⟨z.2.2.2.2.2.2.2.2.2.2.2.2.2.2.1, z.2.2.2.2.2.2.2.2.1.length, z.2.2.2.2.2.2.2.2.2.2.2.2.2.2.2⟩, z.2.2.2.2.2.2.2.2.1⟩, ⟨(.pair (.pair (.int .i64) (.pair (.int .i64) (.pair .val (.pair (.int .i64) (.pair (.int .i64) .bool))))) (.pair (.int .i64) (.pair .val (.pair .val (.int .i64))))), ⟨a3, 1, 1⟩, [((z.1, z.2.1, (Sl.v ⟨z.2.2.2.2.2.2.2.2.2.2.1, z.2.2.1.length, z.2.2.2.2.2.2.2.2.2.2.2.1⟩), z.2.2.2.1, z.2.2.2.2.1, z.2.2.2.2.2.1), z.2.2.2.2.2.2.1, (Sl.v ⟨z.2.2.2.2.2.2.2.2.2.2.2.2.1, z.2.2.2.2.2.2.2.1.length, z.2.2.2.2.2.2.2.2.2.2.2.2.2.1⟩), (Sl.v ⟨z.2.2.2.2.2.2.2.2.2.2.2.2.2.2.1, z.2.2.2.2.2.2.2.2.1.length, z.2.2.2.2.2.2.2.2.2.2.2.2.2.2.2⟩), z.2.2.2.2.2.2.2.2.2.1)]⟩], fun z => 0⟩ ?_ ?_
    · refine JS.seq (JS.know 0 rfl fun hs146 => JS.regionQ rfl (by kernel_rfl) (JQ.reg ttOk 3 [] [(12, .ep ⟨a3, 1, 1⟩ 5)] rfl ⟨(hs146.fa ptr0).1, hs146.fa ptr0, ⟨rfl, trivial⟩⟩ (JQ.loadV ttOk rfl rfl rfl rfl rfl rfl 0 rfl rfl 0 5 ((x0.1.1, x0.1.2.1, (Sl.v ⟨a4, x0.1.2.2.1.length, c5⟩), x0.1.2.2.2.1, x0.1.2.2.2.2.1, x0.1.2.2.2.2.2), x0.2.1, (Sl.v ⟨a8, x0.2.2.1.length, c9⟩), (Sl.v ⟨a12, x0.2.2.2.1.length, c13⟩), x0.2.2.2.2) ⟨rfl, rfl⟩ rfl rfl rfl (JQ.reg ttOk 7 [] [(14, .v (.bool x0.1.2.2.2.2.2)), (17, .cd [(14, false)] (.v (.bool (decide (y16 = 2))))), (20, .cd [(17, true), (14, false)] (.ep ⟨a3, 1, 1⟩ 3))] rfl ⟨(fun q147 q148 => (hs146.fa ptr0).1), (fun q149 q150 => hs146.fa ptr0), ⟨rfl, rfl, rfl, trivial⟩⟩ (JQ.loadV ttOk rfl rfl rfl rfl rfl rfl 0 rfl rfl 0 3 ((x0.1.1, x0.1.2.1, (Sl.v ⟨a4, x0.1.2.2.1.length, c5⟩), x0.1.2.2.2.1, x0.1.2.2.2.2.1, x0.1.2.2.2.2.2), x0.2.1, (Sl.v ⟨a8, x0.2.2.1.length, c9⟩), (Sl.v ⟨a12, x0.2.2.2.1.length, c13⟩), x0.2.2.2.2) (fun q151 q152 => ⟨rfl, rfl⟩) rfl rfl rfl (JQ.reg ttOk 3 [] [(24, .cd [(17, true), (14, false)] (.ep ⟨a3, 1, 1⟩ 0))] rfl ⟨(fun q153 q154 => (hs146.fa ptr0).1), (fun q155 q156 => hs146.fa ptr0), ⟨rfl, trivial⟩⟩ (JQ.loadV ttOk rfl rfl rfl rfl rfl rfl 0 rfl rfl 0 0 ((x0.1.1, x0.1.2.1, (Sl.v ⟨a4, x0.1.2.2.1.length, c5⟩), x0.1.2.2.2.1, x0.1.2.2.2.2.1, x0.1.2.2.2.2.2), x0.2.1, (Sl.v ⟨a8, x0.2.2.1.length, c9⟩), (Sl.v ⟨a12, x0.2.2.2.1.length, c13⟩), x0.2.2.2.2) (fun q157 q158 => ⟨rfl, rfl⟩) rfl rfl rfl (JQ.reg ttOk 4 [(W (x0.1.1 - 1))] [(29, .v (.bool (bif x0.1.2.2.2.2.2 then true else (bif (decide (y16 = 2)) then (decide (x0.1.2.2.2.1 = (W (x0.1.1 - 1)))) else false))))] rfl ⟨(fun q159 q160 => ⟨trivial, rfl⟩), ⟨rfl, trivial⟩⟩ (JQ.done rfl ?_)))))))))
      refine JS.cond rfl (fun ht162 => ?_) (fun ht162 => ?_)
      · have h := condT h ht162
        refine JS.seq (JS.region (JO.reg ttOk 4 [] [] [(31, .ep ⟨a3, 1, 1⟩ 0), (33, .ep ⟨a3, 1, 1⟩ 3)] _ rfl ⟨(hs146.fa ptr0).1, hs146.fa ptr0, ⟨rfl, rfl, trivial⟩, rfl⟩ (JO.storeE ttOk rfl rfl rfl rfl rfl rfl rfl rfl rfl [0] (fs := []) rfl 0 3 ((x0.1.1, x0.1.2.1, (Sl.v ⟨a4, x0.1.2.2.1.length, c5⟩), x0.1.2.2.2.1, x0.1.2.2.2.2.1, x0.1.2.2.2.2.2), x0.2.1, (Sl.v ⟨a8, x0.2.2.1.length, c9⟩), (Sl.v ⟨a12, x0.2.2.2.1.length, c13⟩), x0.2.2.2.2) ((x0.1.1, x0.1.2.1, (Sl.v ⟨a4, x0.1.2.2.1.length, c5⟩), 0, x0.1.2.2.2.2.1, x0.1.2.2.2.2.2), x0.2.1, (Sl.v ⟨a8, x0.2.2.1.length, c9⟩), (Sl.v ⟨a12, x0.2.2.2.1.length, c13⟩), x0.2.2.2.2) ⟨rfl, rfl⟩ ⟨⟨⟨⟨⟨⟨rfl, rfl, rfl⟩, rfl⟩, rfl⟩, rfl⟩, rfl⟩, rfl⟩ (JO.reg ttOk 2 [] [] [(35, .ep ⟨a3, 1, 1⟩ 5)] _ rfl ⟨(hs146.fa ptr0).1, hs146.fa ptr0, ⟨rfl, trivial⟩, rfl⟩ (JO.storeE ttOk rfl rfl rfl rfl rfl rfl rfl rfl rfl [0] (fs := []) rfl 0 5 ((x0.1.1, x0.1.2.1, (Sl.v ⟨a4, x0.1.2.2.1.length, c5⟩), 0, x0.1.2.2.2.2.1, x0.1.2.2.2.2.2), x0.2.1, (Sl.v ⟨a8, x0.2.2.1.length, c9⟩), (Sl.v ⟨a12, x0.2.2.2.1.length, c13⟩), x0.2.2.2.2) ((x0.1.1, x0.1.2.1, (Sl.v ⟨a4, x0.1.2.2.1.length, c5⟩), 0, x0.1.2.2.2.2.1, false), x0.2.1, (Sl.v ⟨a8, x0.2.2.1.length, c9⟩), (Sl.v ⟨a12, x0.2.2.2.1.length, c13⟩), x0.2.2.2.2) ⟨rfl, rfl⟩ ⟨⟨⟨⟨⟨⟨⟨rfl, rfl, rfl⟩, rfl⟩, rfl⟩, rfl⟩, rfl⟩, rfl⟩, rfl⟩ (JO.done rfl (JS.seq (JS.regionQ rfl (by kernel_rfl) (JQ.reg ttOk 3 [] [(38, .ep ⟨a3, 1, 1⟩ 4)] rfl ⟨(hs146.fa ptr0).1, hs146.fa ptr0, ⟨rfl, trivial⟩⟩ (JQ.loadV ttOk rfl rfl rfl rfl rfl rfl 0 rfl rfl 0 4 ((x0.1.1, x0.1.2.1, (Sl.v ⟨a4, x0.1.2.2.1.length, c5⟩), 0, x0.1.2.2.2.2.1, false), x0.2.1, (Sl.v ⟨a8, x0.2.2.1.length, c9⟩), (Sl.v ⟨a12, x0.2.2.2.1.length, c13⟩), x0.2.2.2.2) ⟨rfl, rfl⟩ rfl rfl rfl (JQ.reg ttOk 3 [] [(42, .ep ⟨a3, 1, 1⟩ 1)] rfl ⟨(hs146.fa ptr0).1, hs146.fa ptr0, ⟨rfl, trivial⟩⟩ (JQ.loadV ttOk rfl rfl rfl rfl rfl rfl 0 rfl rfl 0 1 ((x0.1.1, x0.1.2.1, (Sl.v ⟨a4, x0.1.2.2.1.length, c5⟩), 0, x0.1.2.2.2.2.1, false), x0.2.1, (Sl.v ⟨a8, x0.2.2.1.length, c9⟩), (Sl.v ⟨a12, x0.2.2.2.1.length, c13⟩), x0.2.2.2.2) ⟨rfl, rfl⟩ rfl rfl rfl (JQ.reg ttOk 2 [(W (x0.1.2.1 - 1))] [(45, .v (.bool (decide (x0.1.2.2.2.2.1 = (W (x0.1.2.1 - 1))))))] rfl ⟨⟨trivial, rfl⟩, ⟨rfl, trivial⟩⟩ (JQ.done rfl ?_))))))))))))))
        refine JS.cond rfl (fun ht161 => ?_) (fun ht161 => ?_)
        · have h := condT h ht161
          refine JS.region (JO.reg ttOk 1 [] [] [(46, .ep ⟨a3, 1, 1⟩ 0)] _ rfl ⟨⟨rfl, trivial⟩, rfl⟩ ?_)
          obtain ⟨y48, hy49, h⟩ := bindO_some h
          refine JO.callX rfl rfl rfl rfl (ok_i_Grid_scroll_in45 ((x0.1.1, x0.1.2.1, x0.1.2.2.1, 0, x0.1.2.2.2.2.1, false), x0.2.1, x0.2.2.1, x0.2.2.2.1, x0.2.2.2.2) a3 a4 c5 x0.1.2.2.1.length rfl a8 c9 x0.2.2.1.length rfl a12 c13 x0.2.2.2.1.length rfl _ hy49) rfl [0, 0, 0, 0] rfl [] rfl rfl ?_
          rintro ⟨a50, c51, a52, c53, a54, c55⟩ -
          refine JO.done rfl (JS.endJA (y48.1.1, y48.1.2.1, y48.1.2.2.1, y48.1.2.2.2.1, y48.1.2.2.2.2.1, y48.1.2.2.2.2.2, y48.2.1, y48.2.2.1, y48.2.2.2.1, y48.2.2.2.2, a50, c51, a52, c53, a54, c55) h ⟨rfl, rfl, rfl, trivial⟩ trivial [] rfl [1, 2, 3, 0] rfl rfl)
        have h := condF h ht161
        refine JS.region (JO.reg ttOk 3 [] [] [(48, .ep ⟨a3, 1, 1⟩ 0), (50, .ep ⟨a3, 1, 1⟩ 4)] _ rfl ⟨(hs146.fa ptr0).1, hs146.fa ptr0, ⟨rfl, rfl, trivial⟩, rfl⟩ (JO.loadV ttOk rfl rfl rfl rfl rfl rfl 0 rfl rfl 0 4 ((x0.1.1, x0.1.2.1, (Sl.v ⟨a4, x0.1.2.2.1.length, c5⟩), 0, x0.1.2.2.2.2.1, false), x0.2.1, (Sl.v ⟨a8, x0.2.2.1.length, c9⟩), (Sl.v ⟨a12, x0.2.2.2.1.length, c13⟩), x0.2.2.2.2) ⟨rfl, rfl⟩ rfl rfl rfl (JO.reg ttOk 3 [(W (x0.1.2.2.2.2.1 + 1))] [] [(52, .v (.int .i64 (W (x0.1.2.2.2.2.1 + 1)))), (54, .ep ⟨a3, 1, 1⟩ 4)] _ rfl ⟨⟨trivial, rfl⟩, (hs146.fa ptr0).1, hs146.fa ptr0, ⟨rfl, rfl, trivial⟩, rfl⟩ (JO.storeE ttOk rfl rfl rfl rfl rfl rfl rfl rfl rfl [0] (fs := []) rfl 0 4 ((x0.1.1, x0.1.2.1, (Sl.v ⟨a4, x0.1.2.2.1.length, c5⟩), 0, x0.1.2.2.2.2.1, false), x0.2.1, (Sl.v ⟨a8, x0.2.2.1.length, c9⟩), (Sl.v ⟨a12, x0.2.2.2.1.length, c13⟩), x0.2.2.2.2) ((x0.1.1, x0.1.2.1, (Sl.v ⟨a4, x0.1.2.2.1.length, c5⟩), 0, (W (x0.1.2.2.2.2.1 + 1)), false), x0.2.1, (Sl.v ⟨a8, x0.2.2.1.length, c9⟩), (Sl.v ⟨a12, x0.2.2.2.1.length, c13⟩), x0.2.2.2.2) ⟨rfl, rfl⟩ ⟨⟨⟨⟨⟨⟨⟨rfl, rfl, rfl⟩, rfl⟩, rfl⟩, rfl⟩, rfl⟩, rfl⟩, rfl⟩ (JO.done rfl (JS.endJA (x0.1.1, x0.1.2.1, x0.1.2.2.1, 0, (W (x0.1.2.2.2.2.1 + 1)), false, x0.2.1, x0.2.2.1, x0.2.2.2.1, x0.2.2.2.2, a4, c5, a8, c9, a12, c13) h ⟨rfl, rfl, rfl, trivial⟩ trivial [] rfl [1, 2, 3, 0] rfl rfl))))))
      have h := condF h ht162
      refine JS.skip (JS.endJA (x0.1.1, x0.1.2.1, x0.1.2.2.1, x0.1.2.2.2.1, x0.1.2.2.2.2.1, x0.1.2.2.2.2.2, x0.2.1, x0.2.2.1, x0.2.2.2.1, x0.2.2.2.2, a4, c5, a8, c9, a12, c13) h ⟨rfl, rfl, rfl, trivial⟩ trivial [] rfl [1, 2, 3, 0] rfl rfl)
    rintro ⟨x58, x59, x60, x63, x64, x65, x66, x67, x70, x73, a61, c62, a68, c69, a71, c72⟩ h
    subst hj170
    refine JS.seq (JS.know 3 rfl fun hs164 => JS.regionQ rfl (by kernel_rfl) (JQ.reg ttOk 3 [] [(57, .ep ⟨a3, 1, 1⟩ 4)] rfl ⟨(hs164.fa ptr0).1, hs164.fa ptr0, ⟨rfl, trivial⟩⟩ (JQ.loadV ttOk rfl rfl rfl rfl rfl rfl 3 rfl rfl 0 4 ((x58, x59, (Sl.v ⟨a61, x60.length, c62⟩), x63, x64, x65), x66, (Sl.v ⟨a68, x67.length, c69⟩), (Sl.v ⟨a71, x70.length, c72⟩), x73) ⟨rfl, rfl⟩ rfl rfl rfl (JQ.reg ttOk 3 [] [(61, .ep ⟨a3, 1, 1⟩ 0)] rfl ⟨(hs164.fa ptr0).1, hs164.fa ptr0, ⟨rfl, trivial⟩⟩ (JQ.loadV ttOk rfl rfl rfl rfl rfl rfl 3 rfl rfl 0 0 ((x58, x59, (Sl.v ⟨a61, x60.length, c62⟩), x63, x64, x65), x66, (Sl.v ⟨a68, x67.length, c69⟩), (Sl.v ⟨a71, x70.length, c72⟩), x73) ⟨rfl, rfl⟩ rfl rfl rfl (JQ.reg ttOk 4 [(W (x64 * x58))] [(63, .v (.int .i64 (W (x64 * x58)))), (66, .ep ⟨a3, 1, 1⟩ 3)] rfl ⟨⟨trivial, rfl⟩, (hs164.fa ptr0).1, hs164.fa ptr0, ⟨rfl, rfl, trivial⟩⟩ (JQ.loadV ttOk rfl rfl rfl rfl rfl rfl 3 rfl rfl 0 3 ((x58, x59, (Sl.v ⟨a61, x60.length, c62⟩), x63, x64, x65), x66, (Sl.v ⟨a68, x67.length, c69⟩), (Sl.v ⟨a71, x70.length, c72⟩), x73) ⟨rfl, rfl⟩ rfl rfl rfl (JQ.reg ttOk 2 [(W ((W (x64 * x58)) + x63))] [(5, .v (.int .i64 (W ((W (x64 * x58)) + x63))))] rfl ⟨⟨trivial, rfl⟩, ⟨rfl, trivial⟩⟩ (JQ.done rfl (JS.seq (JS.region (JO.reg ttOk 5 [(W ((W ((W (x64 * x58)) + x63)) + y16))] [] [(69, .ep ⟨a3, 1, 1⟩ 0), (70, .v (.int .i64 (W ((W (x64 * x58)) + x63)))), (73, .v (.int .i64 (W ((W ((W (x64 * x58)) + x63)) + y16))))] _ rfl ⟨⟨trivial, rfl⟩, ⟨rfl, rfl, rfl, trivial⟩, rfl⟩ ?_))))))))))))
    obtain ⟨y109, hy110, h⟩ := bindO_some h
    refine JO.callX rfl rfl rfl rfl (ok_i_Grid_erase_in45 ((x58, x59, x60, x63, x64, x65), x66, x67, x70, x73) (W ((W (x64 * x58)) + x63)) (W ((W ((W (x64 * x58)) + x63)) + y16)) a3 a61 c62 x60.length rfl a68 c69 x67.length rfl a71 c72 x70.length rfl _ hy110) rfl [3, 0, 0, 0] rfl [] rfl rfl ?_
    rintro ⟨a111, c112, a113, c114, a115, c116⟩ -
    refine JO.done rfl (JS.seq (JS.region (JO.reg ttOk 3 [] [] [(77, .ep ⟨a3, 1, 1⟩ 2)] _ rfl ⟨(hs164.fa ptr0).1, hs164.fa ptr0, ⟨rfl, trivial⟩, rfl⟩ (JO.loadV ttOk rfl rfl rfl rfl rfl rfl 0 rfl rfl 0 2 ((y109.1.1, y109.1.2.1, (Sl.v ⟨a111, y109.1.2.2.1.length, c112⟩), y109.1.2.2.2.1, y109.1.2.2.2.2.1, y109.1.2.2.2.2.2), y109.2.1, (Sl.v ⟨a113, y109.2.2.1.length, c114⟩), (Sl.v ⟨a115, y109.2.2.2.1.length, c116⟩), y109.2.2.2.2) ⟨rfl, rfl⟩ rfl rfl rfl (JO.know 1 rfl fun hs165 => ?_)))))
    obtain ⟨g118, h⟩ := guardO_some h
    refine JO.reg ttOk 3 [] [] [(80, .v (.int .i64 x1)), (81, .ep ⟨a111, y109.1.2.2.1.length, c112⟩ (Int.toNat (W ((W (x64 * x58)) + x63)) * 1))] _ rfl ⟨hs165.ix g118, ⟨rfl, rfl, trivial⟩, rfl⟩ (JO.storeE ttOk rfl rfl rfl rfl rfl rfl rfl rfl rfl [1] (fs := []) rfl (Int.toNat (W ((W (x64 * x58)) + x63))) 0 (at' y109.1.2.2.1 (W ((W (x64 * x58)) + x63))) x1 ⟨at_some g118, rfl⟩ ⟨rfl, rfl, rfl⟩ (JO.done rfl ?_))
    obtain ⟨j124, hj169, h⟩ := joinO_some h
    refine JS.seqJ (ι := List Int × Option Addr × Nat) ⟨fun z => j124 z.1 = some r, fun z => [(0, .ep ⟨a3, 1, 1⟩ 0), (4, .v (.int .i64 y16))], fun z => .nil, fun z => [], fun z => [⟨(.int .i64), ⟨z.2.1, z.1.length, z.2.2⟩, z.1⟩, ⟨(.pair (.pair (.int .i64) (.pair (.int .i64) (.pair .val (.pair (.int .i64) (.pair (.int .i64) .bool))))) (.pair (.int .i64) (.pair .val (.pair .val (.int .i64))))), ⟨a3, 1, 1⟩, [((y109.1.1, y109.1.2.1, (Sl.v ⟨z.2.1, z.1.length, z.2.2⟩), y109.1.2.2.2.1, y109.1.2.2.2.2.1, y109.1.2.2.2.2.2), y109.2.1, (Sl.v ⟨a113, y109.2.2.1.length, c114⟩), (Sl.v ⟨a115, y109.2.2.2.1.length, c116⟩), y109.2.2.2.2)]⟩, ⟨(.int .i64), ⟨a113, y109.2.2.1.length, c114⟩, y109.2.2.1⟩, ⟨.byte, ⟨a115, y109.2.2.2.1.length, c116⟩, y109.2.2.2.1⟩], fun z => 0⟩ ?_ ?_
    · refine JS.seq (JS.region (JO.reg ttOk 2 [] [] [(83, .v (.bool (decide (y16 = 2))))] _ rfl ⟨⟨rfl, trivial⟩, rfl⟩ (JO.done rfl ?_)))
      refine JS.cond rfl (fun ht166 => ?_) (fun ht166 => ?_)
      · have h := condT h ht166
        refine JS.region (JO.reg ttOk 3 [] [] [(86, .ep ⟨a3, 1, 1⟩ 2)] _ rfl ⟨(hs164.fa ptr0).1, hs164.fa ptr0, ⟨rfl, trivial⟩, rfl⟩ (JO.loadV ttOk rfl rfl rfl rfl rfl rfl 1 rfl rfl 0 2 ((y109.1.1, y109.1.2.1, (Sl.v ⟨a111, y109.1.2.2.1.length, c112⟩), y109.1.2.2.2.1, y109.1.2.2.2.2.1, y109.1.2.2.2.2.2), y109.2.1, (Sl.v ⟨a113, y109.2.2.1.length, c114⟩), (Sl.v ⟨a115, y109.2.2.2.1.length, c116⟩), y109.2.2.2.2) ⟨rfl, rfl⟩ rfl rfl rfl ?_))
        obtain ⟨g119, h⟩ := guardO_some h
        refine JO.reg ttOk 3 [(W ((W ((W (x64 * x58)) + x63)) + 1))] [] [(90, .ep ⟨a111, y109.1.2.2.1.length, c112⟩ (Int.toNat (W ((W ((W (x64 * x58)) + x63)) + 1)) * 1))] _ rfl ⟨⟨trivial, rfl⟩, hs165.ix g119, ⟨rfl, trivial⟩, rfl⟩ (JO.storeE ttOk rfl rfl rfl rfl rfl rfl rfl rfl rfl [0] (fs := []) rfl (Int.toNat (W ((W ((W (x64 * x58)) + x63)) + 1))) 0 (at' (List.set y109.1.2.2.1 (Int.toNat (W ((W (x64 * x58)) + x63))) x1) (W ((W ((W (x64 * x58)) + x63)) + 1))) (-1) ⟨at_someL (List.length_set.trans rfl) g119, rfl⟩ ⟨rfl, rfl, rfl⟩ (JO.done rfl (JS.endJA ((List.set (List.set y109.1.2.2.1 (Int.toNat (W ((W (x64 * x58)) + x63))) x1) (Int.toNat (W ((W ((W (x64 * x58)) + x63)) + 1))) (-1)), a111, c112) h ⟨rfl, rfl, trivial⟩ trivial [] rfl [0, 1, 2, 3] (by simp only [List.length_set, List.length_replicate, pickO, getF, cl26, cl45]; rfl) rfl)))
      have h := condF h ht166
      refine JS.skip (JS.endJA ((List.set y109.1.2.2.1 (Int.toNat (W ((W (x64 * x58)) + x63))) x1), a111, c112) h ⟨rfl, rfl, trivial⟩ trivial [] rfl [0, 1, 2, 3] (by simp only [List.length_set, List.length_replicate, pickO, getF, cl26, cl45]; rfl) rfl)
    rintro ⟨x121, a122, c123⟩ h
    subst hj169
    refine JS.seq (JS.region (JO.know 1 rfl fun hs167 => JO.reg ttOk 3 [] [] [(91, .ep ⟨a3, 1, 1⟩ 0), (93, .ep ⟨a3, 1, 1⟩ 3)] _ rfl ⟨(hs167.fa ptr0).1, hs167.fa ptr0, ⟨rfl, rfl, trivial⟩, rfl⟩ (JO.loadV ttOk rfl rfl rfl rfl rfl rfl 1 rfl rfl 0 3 ((y109.1.1, y109.1.2.1, (Sl.v ⟨a122, x121.length, c123⟩), y109.1.2.2.2.1, y109.1.2.2.2.2.1, y109.1.2.2.2.2.2), y109.2.1, (Sl.v ⟨a113, y109.2.2.1.length, c114⟩), (Sl.v ⟨a115, y109.2.2.2.1.length, c116⟩), y109.2.2.2.2) ⟨rfl, rfl⟩ rfl rfl rfl (JO.reg ttOk 4 [(W (y109.1.2.2.2.1 + y16))] [] [(96, .v (.int .i64 (W (y109.1.2.2.2.1 + y16)))), (98, .ep ⟨a3, 1, 1⟩ 3)] _ rfl ⟨⟨trivial, rfl⟩, (hs167.fa ptr0).1, hs167.fa ptr0, ⟨rfl, rfl, trivial⟩, rfl⟩ (JO.storeE ttOk rfl rfl rfl rfl rfl rfl rfl rfl rfl [1] (fs := []) rfl 0 3 ((y109.1.1, y109.1.2.1, (Sl.v ⟨a122, x121.length, c123⟩), y109.1.2.2.2.1, y109.1.2.2.2.2.1, y109.1.2.2.2.2.2), y109.2.1, (Sl.v ⟨a113, y109.2.2.1.length, c114⟩), (Sl.v ⟨a115, y109.2.2.2.1.length, c116⟩), y109.2.2.2.2) ((y109.1.1, y109.1.2.1, (Sl.v ⟨a122, x121.length, c123⟩), (W (y109.1.2.2.2.1 + y16)), y109.1.2.2.2.2.1, y109.1.2.2.2.2.2), y109.2.1, (Sl.v ⟨a113, y109.2.2.1.length, c114⟩), (Sl.v ⟨a115, y109.2.2.2.1.length, c116⟩), y109.2.2.2.2) ⟨rfl, rfl⟩ ⟨⟨⟨⟨⟨⟨rfl, rfl, rfl⟩, rfl⟩, rfl⟩, rfl⟩, rfl⟩, rfl⟩ (JO.done rfl (JS.seq (JS.regionQ rfl (by kernel_rfl) (JQ.reg ttOk 3 [] [(101, .ep ⟨a3, 1, 1⟩ 3)] rfl ⟨(hs167.fa ptr0).1, hs167.fa ptr0, ⟨rfl, trivial⟩⟩ (JQ.loadV ttOk rfl rfl rfl rfl rfl rfl 0 rfl rfl 0 3 ((y109.1.1, y109.1.2.1, (Sl.v ⟨a122, x121.length, c123⟩), (W (y109.1.2.2.2.1 + y16)), y109.1.2.2.2.2.1, y109.1.2.2.2.2.2), y109.2.1, (Sl.v ⟨a113, y109.2.2.1.length, c114⟩), (Sl.v ⟨a115, y109.2.2.2.1.length, c116⟩), y109.2.2.2.2) ⟨rfl, rfl⟩ rfl rfl rfl (JQ.reg ttOk 3 [] [(105, .ep ⟨a3, 1, 1⟩ 0)] rfl ⟨(hs167.fa ptr0).1, hs167.fa ptr0, ⟨rfl, trivial⟩⟩ (JQ.loadV ttOk rfl rfl rfl rfl rfl rfl 0 rfl rfl 0 0 ((y109.1.1, y109.1.2.1, (Sl.v ⟨a122, x121.length, c123⟩), (W (y109.1.2.2.2.1 + y16)), y109.1.2.2.2.2.1, y109.1.2.2.2.2.2), y109.2.1, (Sl.v ⟨a113, y109.2.2.1.length, c114⟩), (Sl.v ⟨a115, y109.2.2.2.1.length, c116⟩), y109.2.2.2.2) ⟨rfl, rfl⟩ rfl rfl rfl (JQ.reg ttOk 1 [] [(107, .v (.bool (decide (y109.1.1 ≤ (W (y109.1.2.2.2.1 + y16))))))] rfl ⟨rfl, trivial⟩ (JQ.done rfl ?_))))))))))))))
    refine JS.cond rfl (fun ht168 => ?_) (fun ht168 => ?_)
    · have h := condT h ht168
      refine JS.region (JO.reg ttOk 5 [] [] [(108, .ep ⟨a3, 1, 1⟩ 0), (109, .ep ⟨a3, 1, 1⟩ 0), (112, .ep ⟨a3, 1, 1⟩ 0)] _ rfl ⟨(hs167.fa ptr0).1, hs167.fa ptr0, ⟨rfl, rfl, rfl, trivial⟩, rfl⟩ (JO.loadV ttOk rfl rfl rfl rfl rfl rfl 0 rfl rfl 0 0 ((y109.1.1, y109.1.2.1, (Sl.v ⟨a122, x121.length, c123⟩), (W (y109.1.2.2.2.1 + y16)), y109.1.2.2.2.2.1, y109.1.2.2.2.2.2), y109.2.1, (Sl.v ⟨a113, y109.2.2.1.length, c114⟩), (Sl.v ⟨a115, y109.2.2.2.1.length, c116⟩), y109.2.2.2.2) ⟨rfl, rfl⟩ rfl rfl rfl (JO.reg ttOk 3 [(W (y109.1.1 - 1))] [] [(114, .v (.int .i64 (W (y109.1.1 - 1)))), (116, .ep ⟨a3, 1, 1⟩ 3)] _ rfl ⟨⟨trivial, rfl⟩, (hs167.fa ptr0).1, hs167.fa ptr0, ⟨rfl, rfl, trivial⟩, rfl⟩ (JO.storeE ttOk rfl rfl rfl rfl rfl rfl rfl rfl rfl [0] (fs := []) rfl 0 3 ((y109.1.1, y109.1.2.1, (Sl.v ⟨a122, x121.length, c123⟩), (W (y109.1.2.2.2.1 + y16)), y109.1.2.2.2.2.1, y109.1.2.2.2.2.2), y109.2.1, (Sl.v ⟨a113, y109.2.2.1.length, c114⟩), (Sl.v ⟨a115, y109.2.2.2.1.length, c116⟩), y109.2.2.2.2) ((y109.1.1, y109.1.2.1, (Sl.v ⟨a122, x121.length, c123⟩), (W (y109.1.1 - 1)), y109.1.2.2.2.2.1, y109.1.2.2.2.2.2), y109.2.1, (Sl.v ⟨a113, y109.2.2.1.length, c114⟩), (Sl.v ⟨a115, y109.2.2.2.1.length, c116⟩), y109.2.2.2.2) ⟨rfl, rfl⟩ ⟨⟨⟨⟨⟨⟨rfl, rfl, rfl⟩, rfl⟩, rfl⟩, rfl⟩, rfl⟩, rfl⟩ (JO.reg ttOk 2 [] [] [(118, .ep ⟨a3, 1, 1⟩ 5)] _ rfl ⟨(hs167.fa ptr0).1, hs167.fa ptr0, ⟨rfl, trivial⟩, rfl⟩ (JO.storeE ttOk rfl rfl rfl rfl rfl rfl rfl rfl rfl [0] (fs := []) rfl 0 5 ((y109.1.1, y109.1.2.1, (Sl.v ⟨a122, x121.length, c123⟩), (W (y109.1.1 - 1)), y109.1.2.2.2.2.1, y109.1.2.2.2.2.2), y109.2.1, (Sl.v ⟨a113, y109.2.2.1.length, c114⟩), (Sl.v ⟨a115, y109.2.2.2.1.length, c116⟩), y109.2.2.2.2) ((y109.1.1, y109.1.2.1, (Sl.v ⟨a122, x121.length, c123⟩), (W (y109.1.1 - 1)), y109.1.2.2.2.2.1, true), y109.2.1, (Sl.v ⟨a113, y109.2.2.1.length, c114⟩), (Sl.v ⟨a115, y109.2.2.2.1.length, c116⟩), y109.2.2.2.2) ⟨rfl, rfl⟩ ⟨⟨⟨⟨⟨⟨⟨rfl, rfl, rfl⟩, rfl⟩, rfl⟩, rfl⟩, rfl⟩, rfl⟩, rfl⟩ (JO.done rfl ?_)))))))
      cases h
      exact JS.fallX ttOk (a122, c123, a113, c114, a115, c116) trivial rfl rfl [0, 0, 0, 0] rfl
    have h := condF h ht168
    refine JS.skip ?_
    cases h
    exact JS.fallX ttOk (a122, c123, a113, c114, a115, c116) trivial rfl rfl [0, 0, 0, 0] rfl

def M_i_Vt_plain (x0 : (Int × Int × List Int × Int × Int × Bool) × Int × List Int × List UInt8 × Int) (x1 : Int) : Option ((Int × Int × List Int × Int × Int × Bool) × Int × List Int × List UInt8 × Int) :=
  (bindO (M_i_copyBytes x0.2.2.2.1) fun (y17 : List UInt8) =>
  (guardO (y17.length + ([(u8 (x1))] : List UInt8).length ≤ 536870912) <|
  (joinO (fun ((x113, x114, x115, x118, x119, x120, x121, x122, x125, x128) : Int × Int × List Int × Int × Int × Bool × Int × List Int × List UInt8 × Int) =>
  some ((x113, x114, x115, x118, x119, x120), x121, x122, x125, x128)) fun j129 =>
  (bif (decide (128 ≤ x1)) then
  (bindO (M_i_RuneRead (y17 ++ ([(u8 (x1))] : List UInt8)) 0) fun (y25, y26) =>
  (bif (decide (y26 = ((y17 ++ ([(u8 (x1))] : List UInt8)).length : Int))) then
  (bindO (M_i_Grid_put_in45 (x0.1, x0.2.1, x0.2.2.1, ([] : List UInt8), x0.2.2.2.2) y25) fun (y28 : (Int × Int × List Int × Int × Int × Bool) × Int × List Int × List UInt8 × Int) =>
  j129 (y28.1.1, y28.1.2.1, y28.1.2.2.1, y28.1.2.2.2.1, y28.1.2.2.2.2.1, y28.1.2.2.2.2.2, y28.2.1, y28.2.2.1, y28.2.2.2.1, y28.2.2.2.2))
  else
  (bindO (M_i_RuneBegin (y17 ++ ([(u8 (x1))] : List UInt8))) fun (y36 : Bool) =>
  (bif y36 then
  j129 (x0.1.1, x0.1.2.1, x0.1.2.2.1, x0.1.2.2.2.1, x0.1.2.2.2.2.1, x0.1.2.2.2.2.2, x0.2.1, x0.2.2.1, (y17 ++ ([(u8 (x1))] : List UInt8)), x0.2.2.2.2)
  else
  j129 (x0.1.1, x0.1.2.1, x0.1.2.2.1, x0.1.2.2.2.1, x0.1.2.2.2.2.1, x0.1.2.2.2.2.2, x0.2.1, x0.2.2.1, ([] : List UInt8), x0.2.2.2.2)))))
  else
  (bif (decide (x1 = 7)) then
  j129 (x0.1.1, x0.1.2.1, x0.1.2.2.1, x0.1.2.2.2.1, x0.1.2.2.2.2.1, x0.1.2.2.2.2.2, x0.2.1, x0.2.2.1, ([] : List UInt8), (min (W (x0.2.2.2.2 + 1)) 1000000))
  else
  (bif (decide (x1 = 8)) then
  (bindO (M_i_Grid_moveTo_in45 (x0.1, x0.2.1, x0.2.2.1, ([] : List UInt8), x0.2.2.2.2) (W (x0.1.2.2.2.1 - 1)) x0.1.2.2.2.2.1) fun (y40 : (Int × Int × List Int × Int × Int × Bool) × Int × List Int × List UInt8 × Int) =>
  j129 (y40.1.1, y40.1.2.1, y40.1.2.2.1, y40.1.2.2.2.1, y40.1.2.2.2.2.1, y40.1.2.2.2.2.2, y40.2.1, y40.2.2.1, y40.2.2.2.1, y40.2.2.2.2))
  else
  (bif (decide (x1 = 13)) then
  (bindO (M_i_Grid_moveTo_in45 (x0.1, x0.2.1, x0.2.2.1, ([] : List UInt8), x0.2.2.2.2) 0 x0.1.2.2.2.2.1) fun (y49 : (Int × Int × List Int × Int × Int × Bool) × Int × List Int × List UInt8 × Int) =>
  j129 (y49.1.1, y49.1.2.1, y49.1.2.2.1, y49.1.2.2.2.1, y49.1.2.2.2.2.1, y49.1.2.2.2.2.2, y49.2.1, y49.2.2.1, y49.2.2.2.1, y49.2.2.2.2))
  else
  (bif (decide (x1 = 10)) then
  (joinO (fun ((x66, x67, x68, x71, x72, x73, x74, x75, x78, x81) : Int × Int × List Int × Int × Int × Bool × Int × List Int × List UInt8 × Int) =>
  (bindO (M_i_Grid_moveTo_in45 ((x66, x67, x68, x71, x72, x73), x74, x75, x78, x81) x71 (W (x72 + 1))) fun (y85 : (Int × Int × List Int × Int × Int × Bool) × Int × List Int × List UInt8 × Int) =>
  j129 (y85.1.1, y85.1.2.1, y85.1.2.2.1, y85.1.2.2.2.1, y85.1.2.2.2.2.1, y85.1.2.2.2.2.2, y85.2.1, y85.2.2.1, y85.2.2.2.1, y85.2.2.2.2))) fun j82 =>
  (bif (decide (x0.1.2.2.2.2.1 = (W (x0.1.2.1 - 1)))) then
  (bindO (M_i_Grid_scroll_in45 (x0.1, x0.2.1, x0.2.2.1, ([] : List UInt8), x0.2.2.2.2)) fun (y57 : (Int × Int × List Int × Int × Int × Bool) × Int × List Int × List UInt8 × Int) =>
  j82 (y57.1.1, y57.1.2.1, y57.1.2.2.1, y57.1.2.2.2.1, y57.1.2.2.2.2.1, y57.1.2.2.2.2.2, y57.2.1, y57.2.2.1, y57.2.2.2.1, y57.2.2.2.2))
  else
  j82 (x0.1.1, x0.1.2.1, x0.1.2.2.1, x0.1.2.2.2.1, x0.1.2.2.2.2.1, x0.1.2.2.2.2.2, x0.2.1, x0.2.2.1, ([] : List UInt8), x0.2.2.2.2)))
  else
  (bif (decide (x1 = 27)) then
  j129 (x0.1.1, x0.1.2.1, x0.1.2.2.1, x0.1.2.2.2.1, x0.1.2.2.2.2.1, x0.1.2.2.2.2.2, 1, x0.2.2.1, ([] : List UInt8), x0.2.2.2.2)
  else
  (bindO (M_i_in x1 32 126) fun (y96 : Bool) =>
  (bif y96 then
  (bindO (M_i_Grid_put_in45 (x0.1, x0.2.1, x0.2.2.1, ([] : List UInt8), x0.2.2.2.2) x1) fun (y98 : (Int × Int × List Int × Int × Int × Bool) × Int × List Int × List UInt8 × Int) =>
  j129 (y98.1.1, y98.1.2.1, y98.1.2.2.1, y98.1.2.2.2.1, y98.1.2.2.2.2.1, y98.1.2.2.2.2.2, y98.2.1, y98.2.2.1, y98.2.2.2.1, y98.2.2.2.2))
  else
  j129 (x0.1.1, x0.1.2.1, x0.1.2.2.1, x0.1.2.2.2.1, x0.1.2.2.2.2.1, x0.1.2.2.2.2.2, x0.2.1, x0.2.2.1, ([] : List UInt8), x0.2.2.2.2))))))))))))

theorem ok_i_Vt_plain (x0 : (Int × Int × List Int × Int × Int × Bool) × Int × List Int × List UInt8 × Int) (x1 : Int) (a3 : Option Addr) (a4 : Option Addr) (c5 : Nat) (l6 : Nat) (hl7 : x0.1.2.2.1.length = l6) (a8 : Option Addr) (c9 : Nat) (l10 : Nat) (hl11 : x0.2.2.1.length = l10) (a12 : Option Addr) (c13 : Nat) (l14 : Nat) (hl15 : x0.2.2.2.1.length = l14) (r : (Int × Int × List Int × Int × Int × Bool) × Int × List Int × List UInt8 × Int) (h : M_i_Vt_plain x0 x1 = some r) :
    FX Try.prog 91 [.pointer a3, .int .i64 x1] [] [⟨(.pair (.pair (.int .i64) (.pair (.int .i64) (.pair .val (.pair (.int .i64) (.pair (.int .i64) .bool))))) (.pair (.int .i64) (.pair .val (.pair .val (.int .i64))))), ⟨a3, 1, 1⟩, [((x0.1.1, x0.1.2.1, (Sl.v ⟨a4, l6, c5⟩), x0.1.2.2.2.1, x0.1.2.2.2.2.1, x0.1.2.2.2.2.2), x0.2.1, (Sl.v ⟨a8, l10, c9⟩), (Sl.v ⟨a12, l14, c13⟩), x0.2.2.2.2)]⟩, ⟨(.int .i64), ⟨a4, l6, c5⟩, x0.1.2.2.1⟩, ⟨(.int .i64), ⟨a8, l10, c9⟩, x0.2.2.1⟩, ⟨.byte, ⟨a12, l14, c13⟩, x0.2.2.2.1⟩] (fun _ : Option Addr × Nat × Option Addr × Nat × Option Addr × Nat => True) (fun q => .tuple #[]) (fun q => [⟨(.pair (.pair (.int .i64) (.pair (.int .i64) (.pair .val (.pair (.int .i64) (.pair (.int .i64) .bool))))) (.pair (.int .i64) (.pair .val (.pair .val (.int .i64))))), ⟨a3, 1, 1⟩, [((r.1.1, r.1.2.1, (Sl.v ⟨q.1, r.1.2.2.1.length, q.2.1⟩), r.1.2.2.2.1, r.1.2.2.2.2.1, r.1.2.2.2.2.2), r.2.1, (Sl.v ⟨q.2.2.1, r.2.2.1.length, q.2.2.2.1⟩), (Sl.v ⟨q.2.2.2.2.1, r.2.2.2.1.length, q.2.2.2.2.2⟩), r.2.2.2.2)]⟩, ⟨(.int .i64), ⟨q.1, r.1.2.2.1.length, q.2.1⟩, r.1.2.2.1⟩, ⟨(.int .i64), ⟨q.2.2.1, r.2.2.1.length, q.2.2.2.1⟩, r.2.2.1⟩, ⟨.byte, ⟨q.2.2.2.2.1, r.2.2.2.1.length, q.2.2.2.2.2⟩, r.2.2.2.1⟩]) :=
  by
    subst hl7
    subst hl11
    subst hl15
    refine FX.of (T := TTx) Try.call91 Try.func91 rfl rfl fun w0 L0 => ?_
    unfold M_i_Vt_plain at h
    refine JS.ptr 0 a3 rfl ?_
    refine JS.seq (JS.region (JO.know 0 rfl fun hs144 => JO.reg ttOk 3 [] [] [(10, .ep ⟨a3, 1, 1⟩ 8)] _ rfl ⟨(hs144.fa ptr0).1, hs144.fa ptr0, ⟨rfl, trivial⟩, rfl⟩ (JO.loadV ttOk rfl rfl rfl rfl rfl rfl 0 rfl rfl 0 8 ((x0.1.1, x0.1.2.1, (Sl.v ⟨a4, x0.1.2.2.1.length, c5⟩), x0.1.2.2.2.1, x0.1.2.2.2.2.1, x0.1.2.2.2.2.2), x0.2.1, (Sl.v ⟨a8, x0.2.2.1.length, c9⟩), (Sl.v ⟨a12, x0.2.2.2.1.length, c13⟩), x0.2.2.2.2) ⟨rfl, rfl⟩ rfl rfl rfl ?_)))
    obtain ⟨y17, hy18, h⟩ := bindO_some h
    refine JO.call rfl rfl rfl rfl (ok_i_copyBytes x0.2.2.2.1 a12 c13 x0.2.2.2.1.length rfl _ hy18) rfl [3] rfl rfl ?_
    rintro ⟨a19, c20⟩ -
    refine JO.reg ttOk 2 [((u8 (x1)).toNat : Int)] [] [(14, .v (.int .u8 ((u8 (x1)).toNat : Int)))] _ rfl ⟨⟨trivial, u8_wrap _⟩, ⟨rfl, trivial⟩, rfl⟩ ?_
    refine JO.ofK rfl (JK.buildSlice ttOk rfl rfl rfl rfl rfl rfl rfl rfl rfl rfl rfl [] rfl .byte [(u8 (x1))] ⟨rfl, rfl⟩ rfl rfl fun a21 => JO.toK ?_)
    obtain ⟨g22, h⟩ := guardO_some h
    refine JO.appendR' ttOk rfl rfl rfl rfl ⟨rfl, rfl, rfl, rfl, trivial, rfl, rfl, rfl, rfl⟩ rfl rfl rfl [1] rfl 0 rfl g22 rfl fun a23 c24 => JO.reg ttOk 1 [] [] [(4, .v (.slice a23 (y17 ++ ([(u8 (x1))] : List UInt8)).length c24))] _ rfl ⟨⟨rfl, trivial⟩, rfl⟩ (JO.done rfl (JS.seq (JS.region (JO.reg ttOk 3 [] [] [(19, .ep ⟨a3, 1, 1⟩ 8)] _ rfl ⟨(hs144.fa ptr0).1, hs144.fa ptr0, ⟨rfl, trivial⟩, rfl⟩ (JO.storeE ttOk rfl rfl rfl rfl rfl rfl rfl rfl rfl [2] (fs := []) rfl 0 8 ((x0.1.1, x0.1.2.1, (Sl.v ⟨a4, x0.1.2.2.1.length, c5⟩), x0.1.2.2.2.1, x0.1.2.2.2.2.1, x0.1.2.2.2.2.2), x0.2.1, (Sl.v ⟨a8, x0.2.2.1.length, c9⟩), (Sl.v ⟨a12, x0.2.2.2.1.length, c13⟩), x0.2.2.2.2) ((x0.1.1, x0.1.2.1, (Sl.v ⟨a4, x0.1.2.2.1.length, c5⟩), x0.1.2.2.2.1, x0.1.2.2.2.2.1, x0.1.2.2.2.2.2), x0.2.1, (Sl.v ⟨a8, x0.2.2.1.length, c9⟩), (Sl.v ⟨none, 0, 0⟩), x0.2.2.2.2) ⟨rfl, rfl⟩ ⟨⟨⟨⟨⟨rfl, rfl, rfl, rfl⟩, rfl⟩, rfl⟩, rfl⟩, rfl⟩ (JO.done rfl (JS.seq (JS.region (JO.reg ttOk 4 [] [] [(5, .ep ⟨a3, 1, 1⟩ 0)] _ rfl ⟨(hs144.fa ptr0).1, hs144.fa ptr0, ⟨rfl, trivial⟩, rfl⟩ (JO.done rfl ?_))))))))))
    obtain ⟨j129, hj158, h⟩ := joinO_some h
    refine JS.blockJ (ι := Int × Int × List Int × Int × Int × Bool × Int × List Int × List UInt8 × Int × Option Addr × Nat × Option Addr × Nat × Option Addr × Nat) ⟨fun z => j129 (z.1, z.2.1, z.2.2.1, z.2.2.2.1, z.2.2.2.2.1, z.2.2.2.2.2.1, z.2.2.2.2.2.2.1, z.2.2.2.2.2.2.2.1, z.2.2.2.2.2.2.2.2.1, z.2.2.2.2.2.2.2.2.2.1) = some r, fun z => [], fun z => .nil, fun z => [], fun z => [⟨(.int .i64), ⟨z.2.2.2.2.2.2.2.2.2.2.1, z.2.2.1.length, z.2.2.2.2.2.2.2.2.2.2.2.1⟩, z.2.2.1⟩, ⟨(.int .i64), ⟨z.2.2.2.2.2.2.2.2.2.2.2.2.1, z.2.2.2.2.2.2.2.1.length, z.2.2.2.2.2.2.2.2.2.2.2.2.2.1⟩, z.2.2.2.2.2.2.2.1⟩, ⟨.byte, ⟨z.2.2.2.2.2.2.2.2.2.2.2.2.2.2.1, z.2.2.2.2.2.2.2.2.1.length, z.2.2.2.2.2.2.2.2.2.2.2.2.2.2.2⟩, z.2.2.2.2.2.2.2.2.1⟩, ⟨(.pair (.pair (.int .i64) (.pair (.int .i64) (.pair .val (.pair (.int .i64) (.pair (.int .i64) .bool))))) (.pair (.int .i64) (.pair .val (.pair .val (.int .i64))))), ⟨a3, 1, 1⟩, [((z.1, z.2.1, (Sl.v ⟨z.2.2.2.2.2.2.2.2.2.2.1, z.2.2.1.length, z.2.2.2.2.2.2.2.2.2.2.2.1⟩), z.2.2.2.1, z.2.2.2.2.1, z.2.2.2.2.2.1), z.2.2.2.2.2.2.1, (Sl.v ⟨z.2.2.2.2.2.2.2.2.2.2.2.2.1, z.2.2.2.2.2.2.2.1.length, z.2.2.2.2.2.2.2.2.2.2.2.2.2.1⟩), (Sl.v ⟨z.2.2.2.2.2.2.2.2.2.2.2.2.2.2.1, z.2.2.2.2.2.2.2.2.1.length, z.2.2.2.2.2.2.2.2.2.2.2.2.2.2.2⟩), z.2.2.2.2.2.2.2.2.2.1)]⟩], fun z => 0⟩ ?_ ?_
    · refine JS.seq (JS.region (JO.reg ttOk 3 [] [] [(23, .v (.bool (decide (128 ≤ x1))))] _ rfl ⟨⟨rfl, trivial⟩, rfl⟩ (JO.done rfl ?_)))
      refine JS.cond rfl (fun ht157 => ?_) (fun ht157 => ?_)
      · have h := condT h ht157
        refine JS.seq (JS.region (JO.reg ttOk 1 [] [] [(27, .v (.slice a23 (y17 ++ ([(u8 (x1))] : List UInt8)).length c24))] _ rfl ⟨⟨rfl, trivial⟩, rfl⟩ ?_))
        obtain ⟨⟨y25, y26⟩, hy27, h⟩ := bindO_some h
        refine JO.call rfl rfl rfl rfl (ok_i_RuneRead (y17 ++ ([(u8 (x1))] : List UInt8)) 0 a23 c24 ((y17 ++ ([(u8 (x1))] : List UInt8)).length) rfl _ hy27) rfl [1] rfl rfl fun _ _ => JO.reg ttOk 5 [] [] [(6, .v (.int .i64 y25)), (7, .v (.int .i64 y26))] _ rfl ⟨⟨rfl, rfl, trivial⟩, rfl⟩ (JO.done rfl (JS.seq (JS.region (JO.reg ttOk 4 [] [] [(34, .v (.bool (decide (y26 = ((y17 ++ ([(u8 (x1))] : List UInt8)).length : Int)))))] _ rfl ⟨⟨rfl, trivial⟩, rfl⟩ (JO.done rfl ?_)))))
        refine JS.cond rfl (fun ht146 => ?_) (fun ht146 => ?_)
        · have h := condT h ht146
          refine JS.region (JO.reg ttOk 2 [] [] [(35, .ep ⟨a3, 1, 1⟩ 0), (36, .v (.int .i64 y25))] _ rfl ⟨⟨rfl, rfl, trivial⟩, rfl⟩ ?_)
          obtain ⟨y28, hy29, h⟩ := bindO_some h
          refine JO.nilO .byte Sl.nil rfl rfl (JO.callX rfl rfl rfl rfl (ok_i_Grid_put_in45 (x0.1, x0.2.1, x0.2.2.1, ([] : List UInt8), x0.2.2.2.2) y25 a3 a4 c5 x0.1.2.2.1.length rfl a8 c9 x0.2.2.1.length rfl none 0 (([] : List UInt8).length) rfl _ hy29) rfl [1, 3, 3, 0] rfl [] rfl rfl ?_)
          rintro ⟨a30, c31, a32, c33, a34, c35⟩ -
          refine JO.done rfl (JS.endB (JS.endJA (y28.1.1, y28.1.2.1, y28.1.2.2.1, y28.1.2.2.2.1, y28.1.2.2.2.2.1, y28.1.2.2.2.2.2, y28.2.1, y28.2.2.1, y28.2.2.2.1, y28.2.2.2.2, a30, c31, a32, c33, a34, c35) h trivial trivial [] rfl [1, 2, 3, 0] rfl rfl))
        have h := condF h ht146
        refine JS.seq (JS.region (JO.reg ttOk 1 [] [] [(38, .v (.slice a23 (y17 ++ ([(u8 (x1))] : List UInt8)).length c24))] _ rfl ⟨⟨rfl, trivial⟩, rfl⟩ ?_))
        obtain ⟨y36, hy37, h⟩ := bindO_some h
        refine JO.call rfl rfl rfl rfl (ok_i_RuneBegin (y17 ++ ([(u8 (x1))] : List UInt8)) a23 c24 ((y17 ++ ([(u8 (x1))] : List UInt8)).length) rfl _ hy37) rfl [1] rfl rfl fun _ _ => JO.done rfl ?_
        refine JS.cond rfl (fun ht145 => ?_) (fun ht145 => ?_)
        · have h := condT h ht145
          refine JS.region (JO.reg ttOk 4 [] [] [(41, .v (.slice a23 (y17 ++ ([(u8 (x1))] : List UInt8)).length c24)), (43, .ep ⟨a3, 1, 1⟩ 8)] _ rfl ⟨(hs144.fa ptr0).1, hs144.fa ptr0, ⟨rfl, rfl, trivial⟩, rfl⟩ (JO.storeE ttOk rfl rfl rfl rfl rfl rfl rfl rfl rfl [0] (fs := []) rfl 0 8 ((x0.1.1, x0.1.2.1, (Sl.v ⟨a4, x0.1.2.2.1.length, c5⟩), x0.1.2.2.2.1, x0.1.2.2.2.2.1, x0.1.2.2.2.2.2), x0.2.1, (Sl.v ⟨a8, x0.2.2.1.length, c9⟩), (Sl.v ⟨none, 0, 0⟩), x0.2.2.2.2) ((x0.1.1, x0.1.2.1, (Sl.v ⟨a4, x0.1.2.2.1.length, c5⟩), x0.1.2.2.2.1, x0.1.2.2.2.2.1, x0.1.2.2.2.2.2), x0.2.1, (Sl.v ⟨a8, x0.2.2.1.length, c9⟩), (Sl.v ⟨a23, (y17 ++ ([(u8 (x1))] : List UInt8)).length, c24⟩), x0.2.2.2.2) ⟨rfl, rfl⟩ ⟨⟨⟨⟨⟨rfl, rfl, rfl, rfl⟩, rfl⟩, rfl⟩, rfl⟩, rfl⟩ (JO.done rfl (JS.endB (JS.endJA (x0.1.1, x0.1.2.1, x0.1.2.2.1, x0.1.2.2.2.1, x0.1.2.2.2.2.1, x0.1.2.2.2.2.2, x0.2.1, x0.2.2.1, (y17 ++ ([(u8 (x1))] : List UInt8)), x0.2.2.2.2, a4, c5, a8, c9, a23, c24) h trivial trivial [] rfl [3, 4, 1, 0] rfl rfl)))))
        have h := condF h ht145
        refine JS.skip (JS.endB (JS.nilO .byte Sl.nil rfl rfl (JS.endJA (x0.1.1, x0.1.2.1, x0.1.2.2.1, x0.1.2.2.2.1, x0.1.2.2.2.2.1, x0.1.2.2.2.2.2, x0.2.1, x0.2.2.1, ([] : List UInt8), x0.2.2.2.2, a4, c5, a8, c9, none, 0) h trivial trivial [] rfl [4, 5, 0, 1] rfl rfl)))
      have h := condF h ht157
      refine JS.seq (JS.region (JO.reg ttOk 3 [] [] [(44, .v (.bool (decide (x1 = 7))))] _ rfl ⟨⟨rfl, trivial⟩, rfl⟩ (JO.done rfl ?_)))
      refine JS.cond rfl (fun ht156 => ?_) (fun ht156 => ?_)
      · have h := condT h ht156
        refine JS.region (JO.reg ttOk 4 [] [] [(47, .ep ⟨a3, 1, 1⟩ 0), (50, .ep ⟨a3, 1, 1⟩ 9)] _ rfl ⟨(hs144.fa ptr0).1, hs144.fa ptr0, ⟨rfl, rfl, trivial⟩, rfl⟩ (JO.loadV ttOk rfl rfl rfl rfl rfl rfl 0 rfl rfl 0 9 ((x0.1.1, x0.1.2.1, (Sl.v ⟨a4, x0.1.2.2.1.length, c5⟩), x0.1.2.2.2.1, x0.1.2.2.2.2.1, x0.1.2.2.2.2.2), x0.2.1, (Sl.v ⟨a8, x0.2.2.1.length, c9⟩), (Sl.v ⟨none, 0, 0⟩), x0.2.2.2.2) ⟨rfl, rfl⟩ rfl rfl rfl (JO.reg ttOk 4 [(W (x0.2.2.2.2 + 1))] [] [(53, .v (.int .i64 (min (W (x0.2.2.2.2 + 1)) 1000000))), (55, .ep ⟨a3, 1, 1⟩ 9)] _ rfl ⟨⟨trivial, rfl⟩, (hs144.fa ptr0).1, hs144.fa ptr0, ⟨rfl, rfl, trivial⟩, rfl⟩ (JO.storeE ttOk rfl rfl rfl rfl rfl rfl rfl rfl rfl [0] (fs := []) rfl 0 9 ((x0.1.1, x0.1.2.1, (Sl.v ⟨a4, x0.1.2.2.1.length, c5⟩), x0.1.2.2.2.1, x0.1.2.2.2.2.1, x0.1.2.2.2.2.2), x0.2.1, (Sl.v ⟨a8, x0.2.2.1.length, c9⟩), (Sl.v ⟨none, 0, 0⟩), x0.2.2.2.2) ((x0.1.1, x0.1.2.1, (Sl.v ⟨a4, x0.1.2.2.1.length, c5⟩), x0.1.2.2.2.1, x0.1.2.2.2.2.1, x0.1.2.2.2.2.2), x0.2.1, (Sl.v ⟨a8, x0.2.2.1.length, c9⟩), (Sl.v ⟨none, 0, 0⟩), (min (W (x0.2.2.2.2 + 1)) 1000000)) ⟨rfl, rfl⟩ ⟨⟨⟨⟨⟨rfl, rfl, rfl⟩, rfl⟩, rfl⟩, rfl⟩, rfl⟩ (JO.done rfl (JS.endB (JS.nilO .byte Sl.nil rfl rfl (JS.endJA (x0.1.1, x0.1.2.1, x0.1.2.2.1, x0.1.2.2.2.1, x0.1.2.2.2.2.1, x0.1.2.2.2.2.2, x0.2.1, x0.2.2.1, ([] : List UInt8), (min (W (x0.2.2.2.2 + 1)) 1000000), a4, c5, a8, c9, none, 0) h trivial trivial [] rfl [4, 5, 0, 1] rfl rfl))))))))
      have h := condF h ht156
      refine JS.seq (JS.region (JO.reg ttOk 3 [] [] [(56, .v (.bool (decide (x1 = 8))))] _ rfl ⟨⟨rfl, trivial⟩, rfl⟩ (JO.done rfl ?_)))
      refine JS.cond rfl (fun ht155 => ?_) (fun ht155 => ?_)
      · have h := condT h ht155
        obtain ⟨y40, hy41, h⟩ := bindO_some h
        refine JS.regionA rfl .nil [0] [10] trivial rfl (fun be48 => ?_)
        refine JA.reg ttOk panic_cxX true 4 [0, 1, 2, 3, 6, 7, 8] rfl (by kernel_rfl) [] [(59, .ep ⟨a3, 1, 1⟩ 0), (62, .ep ⟨a3, 1, 1⟩ 3), (67, .ep ⟨a3, 1, 1⟩ 4)] trivial [0] rfl rfl ⟨(hs144.fa ptr0).1, hs144.fa ptr0, (hs144.fa ptr0).1, hs144.fa ptr0, ⟨rfl, rfl, rfl, trivial⟩⟩ (JA.loadV ttOk panic_cxX 4 rfl (by kernel_rfl) rfl rfl rfl rfl rfl 0 rfl rfl 0 3 ((x0.1.1, x0.1.2.1, (Sl.v ⟨a4, x0.1.2.2.1.length, c5⟩), x0.1.2.2.2.1, x0.1.2.2.2.2.1, x0.1.2.2.2.2.2), x0.2.1, (Sl.v ⟨a8, x0.2.2.1.length, c9⟩), (Sl.v ⟨none, 0, 0⟩), x0.2.2.2.2) ⟨rfl, rfl⟩ rfl rfl rfl trivial [0] rfl (JA.reg ttOk panic_cxX true 2 [5] rfl (by kernel_rfl) [(W (x0.1.2.2.2.1 - 1))] [(64, .v (.int .i64 (W (x0.1.2.2.2.1 - 1))))] trivial [0] rfl rfl ⟨⟨trivial, rfl⟩, ⟨rfl, trivial⟩⟩ (JA.loadV ttOk panic_cxX 9 rfl (by kernel_rfl) rfl rfl rfl rfl rfl 0 rfl rfl 0 4 ((x0.1.1, x0.1.2.1, (Sl.v ⟨a4, x0.1.2.2.1.length, c5⟩), x0.1.2.2.2.1, x0.1.2.2.2.2.1, x0.1.2.2.2.2.2), x0.2.1, (Sl.v ⟨a8, x0.2.2.1.length, c9⟩), (Sl.v ⟨none, 0, 0⟩), x0.2.2.2.2) ⟨rfl, rfl⟩ rfl rfl rfl trivial [0] rfl (JA.one 10 (by kernel_rfl) (JK.nilO .byte Sl.nil rfl rfl (JK.callX rfl rfl rfl rfl (ok_i_Grid_moveTo_in45 (x0.1, x0.2.1, x0.2.2.1, ([] : List UInt8), x0.2.2.2.2) (W (x0.1.2.2.2.1 - 1)) x0.1.2.2.2.2.1 a3 a4 c5 x0.1.2.2.1.length rfl a8 c9 x0.2.2.1.length rfl none 0 (([] : List UInt8).length) rfl _ hy41) rfl [1, 3, 3, 0] rfl [] rfl rfl ?_))))))
        rintro ⟨a42, c43, a44, c45, a46, c47⟩ -
        refine JA.nextL rfl (JA.done (by kernel_rfl) (JS.boxes (B' := .nil) trivial (JS.endB (JS.endJA (y40.1.1, y40.1.2.1, y40.1.2.2.1, y40.1.2.2.2.1, y40.1.2.2.2.2.1, y40.1.2.2.2.2.2, y40.2.1, y40.2.2.1, y40.2.2.2.1, y40.2.2.2.2, a42, c43, a44, c45, a46, c47) h trivial trivial [] rfl [1, 2, 3, 0] rfl rfl))))
      have h := condF h ht155
      refine JS.seq (JS.region (JO.reg ttOk 3 [] [] [(70, .v (.bool (decide (x1 = 13))))] _ rfl ⟨⟨rfl, trivial⟩, rfl⟩ (JO.done rfl ?_)))
      refine JS.cond rfl (fun ht154 => ?_) (fun ht154 => ?_)
      · have h := condT h ht154
        refine JS.region (JO.reg ttOk 4 [] [] [(73, .ep ⟨a3, 1, 1⟩ 0), (76, .ep ⟨a3, 1, 1⟩ 4)] _ rfl ⟨(hs144.fa ptr0).1, hs144.fa ptr0, ⟨rfl, rfl, trivial⟩, rfl⟩ (JO.loadV ttOk rfl rfl rfl rfl rfl rfl 0 rfl rfl 0 4 ((x0.1.1, x0.1.2.1, (Sl.v ⟨a4, x0.1.2.2.1.length, c5⟩), x0.1.2.2.2.1, x0.1.2.2.2.2.1, x0.1.2.2.2.2.2), x0.2.1, (Sl.v ⟨a8, x0.2.2.1.length, c9⟩), (Sl.v ⟨none, 0, 0⟩), x0.2.2.2.2) ⟨rfl, rfl⟩ rfl rfl rfl ?_))
        obtain ⟨y49, hy50, h⟩ := bindO_some h
        refine JO.nilO .byte Sl.nil rfl rfl (JO.callX rfl rfl rfl rfl (ok_i_Grid_moveTo_in45 (x0.1, x0.2.1, x0.2.2.1, ([] : List UInt8), x0.2.2.2.2) 0 x0.1.2.2.2.2.1 a3 a4 c5 x0.1.2.2.1.length rfl a8 c9 x0.2.2.1.length rfl none 0 (([] : List UInt8).length) rfl _ hy50) rfl [1, 3, 3, 0] rfl [] rfl rfl ?_)
        rintro ⟨a51, c52, a53, c54, a55, c56⟩ -
        refine JO.done rfl (JS.endB (JS.endJA (y49.1.1, y49.1.2.1, y49.1.2.2.1, y49.1.2.2.2.1, y49.1.2.2.2.2.1, y49.1.2.2.2.2.2, y49.2.1, y49.2.2.1, y49.2.2.2.1, y49.2.2.2.2, a51, c52, a53, c54, a55, c56) h trivial trivial [] rfl [1, 2, 3, 0] rfl rfl))
      have h := condF h ht154
      refine JS.seq (JS.region (JO.reg ttOk 3 [] [] [(79, .v (.bool (decide (x1 = 10))))] _ rfl ⟨⟨rfl, trivial⟩, rfl⟩ (JO.done rfl ?_)))
      refine JS.cond rfl (fun ht153 => ?_) (fun ht153 => ?_)
      · have h := condT h ht153
        obtain ⟨j82, hj150, h⟩ := joinO_some h
        refine JS.seqJ (ι := Int × Int × List Int × Int × Int × Bool × Int × List Int × List UInt8 × Int × Option Addr × Nat × Option Addr × Nat × Option Addr × Nat) ⟨fun z => j82 (z.1, z.2.1, z.2.2.1, z.2.2.2.1, z.2.2.2.2.1, z.2.2.2.2.2.1, z.2.2.2.2.2.2.1, z.2.2.2.2.2.2.2.1, z.2.2.2.2.2.2.2.2.1, z.2.2.2.2.2.2.2.2.2.1) = some r, fun z => [(5, .ep ⟨a3, 1, 1⟩ 0)], fun z => .nil, fun z => [], fun z => [⟨(.int .i64), ⟨z.2.2.2.2.2.2.2.2.2.2.1, z.2.2.1.length, z.2.2.2.2.2.2.2.2.2.2.2.1⟩, z.2.2.1⟩, ⟨(.int .i64), ⟨z.2.2.2.2.2.2.2.2.2.2.2.2.1, z.2.2.2.2.2.2.2.1.length, z.2.2.2.2.2.2.2.2.2.2.2.2.2.1⟩, z.2.2.2.2.2.2.2.1⟩, ⟨.byte, ⟨z.2.2.2.2.2.2.2.2.2.2.2.2.2.2.1, z.2.2.2.2.2.2.2.2.1.length, z.2.2.2.2.2.2.2.2.2.2.2.2.2.2.2⟩, z.2.2.2.2.2.2.2.2.1⟩, ⟨(.pair (.pair (.int .i64) (.pair (.int .i64) (.pair .val (.pair (.int .i64) (.pair (.int .i64) .bool))))) (.pair (.int .i64) (.pair .val (.pair .val (.int .i64))))), ⟨a3, 1, 1⟩, [((z.1, z.2.1, (Sl.v ⟨z.2.2.2.2.2.2.2.2.2.2.1, z.2.2.1.length, z.2.2.2.2.2.2.2.2.2.2.2.1⟩), z.2.2.2.1, z.2.2.2.2.1, z.2.2.2.2.2.1), z.2.2.2.2.2.2.1, (Sl.v ⟨z.2.2.2.2.2.2.2.2.2.2.2.2.1, z.2.2.2.2.2.2.2.1.length, z.2.2.2.2.2.2.2.2.2.2.2.2.2.1⟩), (Sl.v ⟨z.2.2.2.2.2.2.2.2.2.2.2.2.2.2.1, z.2.2.2.2.2.2.2.2.1.length, z.2.2.2.2.2.2.2.2.2.2.2.2.2.2.2⟩), z.2.2.2.2.2.2.2.2.2.1)]⟩], fun z => 0⟩ ?_ ?_
        · refine JS.seq (JS.regionQ rfl (by kernel_rfl) (JQ.reg ttOk 3 [] [(84, .ep ⟨a3, 1, 1⟩ 4)] rfl ⟨(hs144.fa ptr0).1, hs144.fa ptr0, ⟨rfl, trivial⟩⟩ (JQ.loadV ttOk rfl rfl rfl rfl rfl rfl 0 rfl rfl 0 4 ((x0.1.1, x0.1.2.1, (Sl.v ⟨a4, x0.1.2.2.1.length, c5⟩), x0.1.2.2.2.1, x0.1.2.2.2.2.1, x0.1.2.2.2.2.2), x0.2.1, (Sl.v ⟨a8, x0.2.2.1.length, c9⟩), (Sl.v ⟨none, 0, 0⟩), x0.2.2.2.2) ⟨rfl, rfl⟩ rfl rfl rfl (JQ.reg ttOk 3 [] [(88, .ep ⟨a3, 1, 1⟩ 1)] rfl ⟨(hs144.fa ptr0).1, hs144.fa ptr0, ⟨rfl, trivial⟩⟩ (JQ.loadV ttOk rfl rfl rfl rfl rfl rfl 0 rfl rfl 0 1 ((x0.1.1, x0.1.2.1, (Sl.v ⟨a4, x0.1.2.2.1.length, c5⟩), x0.1.2.2.2.1, x0.1.2.2.2.2.1, x0.1.2.2.2.2.2), x0.2.1, (Sl.v ⟨a8, x0.2.2.1.length, c9⟩), (Sl.v ⟨none, 0, 0⟩), x0.2.2.2.2) ⟨rfl, rfl⟩ rfl rfl rfl (JQ.reg ttOk 2 [(W (x0.1.2.1 - 1))] [(91, .v (.bool (decide (x0.1.2.2.2.2.1 = (W (x0.1.2.1 - 1))))))] rfl ⟨⟨trivial, rfl⟩, ⟨rfl, trivial⟩⟩ (JQ.done rfl ?_)))))))
          refine JS.cond rfl (fun ht147 => ?_) (fun ht147 => ?_)
          · have h := condT h ht147
            refine JS.region (JO.reg ttOk 1 [] [] [(92, .ep ⟨a3, 1, 1⟩ 0)] _ rfl ⟨⟨rfl, trivial⟩, rfl⟩ ?_)
            obtain ⟨y57, hy58, h⟩ := bindO_some h
            refine JO.nilO .byte Sl.nil rfl rfl (JO.callX rfl rfl rfl rfl (ok_i_Grid_scroll_in45 (x0.1, x0.2.1, x0.2.2.1, ([] : List UInt8), x0.2.2.2.2) a3 a4 c5 x0.1.2.2.1.length rfl a8 c9 x0.2.2.1.length rfl none 0 (([] : List UInt8).length) rfl _ hy58) rfl [1, 3, 3, 0] rfl [] rfl rfl ?_)
            rintro ⟨a59, c60, a61, c62, a63, c64⟩ -
            refine JO.done rfl (JS.endJA (y57.1.1, y57.1.2.1, y57.1.2.2.1, y57.1.2.2.2.1, y57.1.2.2.2.2.1, y57.1.2.2.2.2.2, y57.2.1, y57.2.2.1, y57.2.2.2.1, y57.2.2.2.2, a59, c60, a61, c62, a63, c64) h ⟨rfl, trivial⟩ trivial [] rfl [1, 2, 3, 0] rfl rfl)
          have h := condF h ht147
          refine JS.skip (JS.nilO .byte Sl.nil rfl rfl (JS.endJA (x0.1.1, x0.1.2.1, x0.1.2.2.1, x0.1.2.2.2.1, x0.1.2.2.2.2.1, x0.1.2.2.2.2.2, x0.2.1, x0.2.2.1, ([] : List UInt8), x0.2.2.2.2, a4, c5, a8, c9, none, 0) h ⟨rfl, trivial⟩ trivial [] rfl [4, 5, 0, 1] rfl rfl))
        rintro ⟨x66, x67, x68, x71, x72, x73, x74, x75, x78, x81, a69, c70, a76, c77, a79, c80⟩ h
        subst hj150
        obtain ⟨y85, hy86, h⟩ := bindO_some h
        refine JS.know 3 rfl fun hs149 => ?_
        refine JS.regionA rfl .nil [3] [10] trivial rfl (fun be94 => ?_)
        refine JA.reg ttOk panic_cxX true 4 [0, 1, 2, 3, 5, 6, 7] rfl (by kernel_rfl) [] [(94, .ep ⟨a3, 1, 1⟩ 0), (97, .ep ⟨a3, 1, 1⟩ 3), (101, .ep ⟨a3, 1, 1⟩ 4)] trivial [3] rfl rfl ⟨(hs149.fa ptr0).1, hs149.fa ptr0, (hs149.fa ptr0).1, hs149.fa ptr0, ⟨rfl, rfl, rfl, trivial⟩⟩ (JA.loadV ttOk panic_cxX 4 rfl (by kernel_rfl) rfl rfl rfl rfl rfl 0 rfl rfl 0 3 ((x66, x67, (Sl.v ⟨a69, x68.length, c70⟩), x71, x72, x73), x74, (Sl.v ⟨a76, x75.length, c77⟩), (Sl.v ⟨a79, x78.length, c80⟩), x81) ⟨rfl, rfl⟩ rfl rfl rfl trivial [3] rfl (JA.loadV ttOk panic_cxX 8 rfl (by kernel_rfl) rfl rfl rfl rfl rfl 0 rfl rfl 0 4 ((x66, x67, (Sl.v ⟨a69, x68.length, c70⟩), x71, x72, x73), x74, (Sl.v ⟨a76, x75.length, c77⟩), (Sl.v ⟨a79, x78.length, c80⟩), x81) ⟨rfl, rfl⟩ rfl rfl rfl trivial [3] rfl (JA.reg ttOk panic_cxX true 1 [9] rfl (by kernel_rfl) [(W (x72 + 1))] [(103, .v (.int .i64 (W (x72 + 1))))] trivial [3] rfl rfl ⟨⟨trivial, rfl⟩, ⟨rfl, trivial⟩⟩ (JA.one 10 (by kernel_rfl) (JK.callX rfl rfl rfl rfl (ok_i_Grid_moveTo_in45 ((x66, x67, x68, x71, x72, x73), x74, x75, x78, x81) x71 (W (x72 + 1)) a3 a69 c70 x68.length rfl a76 c77 x75.length rfl a79 c80 x78.length rfl _ hy86) rfl [3, 0, 0, 0] rfl [] rfl rfl ?_)))))
        rintro ⟨a87, c88, a89, c90, a91, c92⟩ -
        refine JA.nextL rfl (JA.done (by kernel_rfl) (JS.boxes (B' := .nil) trivial (JS.endB (JS.endJA (y85.1.1, y85.1.2.1, y85.1.2.2.1, y85.1.2.2.2.1, y85.1.2.2.2.2.1, y85.1.2.2.2.2.2, y85.2.1, y85.2.2.1, y85.2.2.2.1, y85.2.2.2.2, a87, c88, a89, c90, a91, c92) h trivial trivial [] rfl [1, 2, 3, 0] rfl rfl))))
      have h := condF h ht153
      refine JS.seq (JS.region (JO.reg ttOk 3 [] [] [(105, .v (.bool (decide (x1 = 27))))] _ rfl ⟨⟨rfl, trivial⟩, rfl⟩ (JO.done rfl ?_)))
      refine JS.cond rfl (fun ht152 => ?_) (fun ht152 => ?_)
      · have h := condT h ht152
        refine JS.region (JO.reg ttOk 3 [] [] [(110, .ep ⟨a3, 1, 1⟩ 6)] _ rfl ⟨(hs144.fa ptr0).1, hs144.fa ptr0, ⟨rfl, trivial⟩, rfl⟩ (JO.storeE ttOk rfl rfl rfl rfl rfl rfl rfl rfl rfl [0] (fs := []) rfl 0 6 ((x0.1.1, x0.1.2.1, (Sl.v ⟨a4, x0.1.2.2.1.length, c5⟩), x0.1.2.2.2.1, x0.1.2.2.2.2.1, x0.1.2.2.2.2.2), x0.2.1, (Sl.v ⟨a8, x0.2.2.1.length, c9⟩), (Sl.v ⟨none, 0, 0⟩), x0.2.2.2.2) ((x0.1.1, x0.1.2.1, (Sl.v ⟨a4, x0.1.2.2.1.length, c5⟩), x0.1.2.2.2.1, x0.1.2.2.2.2.1, x0.1.2.2.2.2.2), 1, (Sl.v ⟨a8, x0.2.2.1.length, c9⟩), (Sl.v ⟨none, 0, 0⟩), x0.2.2.2.2) ⟨rfl, rfl⟩ ⟨⟨⟨rfl, rfl, rfl⟩, rfl⟩, rfl⟩ (JO.done rfl (JS.endB (JS.nilO .byte Sl.nil rfl rfl (JS.endJA (x0.1.1, x0.1.2.1, x0.1.2.2.1, x0.1.2.2.2.1, x0.1.2.2.2.2.1, x0.1.2.2.2.2.2, 1, x0.2.2.1, ([] : List UInt8), x0.2.2.2.2, a4, c5, a8, c9, none, 0) h trivial trivial [] rfl [4, 5, 0, 1] rfl rfl))))))
      have h := condF h ht152
      refine JS.seq (JS.region (JO.reg ttOk 1 [] [] [(112, .v (.int .i64 x1))] _ rfl ⟨⟨rfl, trivial⟩, rfl⟩ ?_))
      obtain ⟨y96, hy97, h⟩ := bindO_some h
      refine JO.call rfl rfl rfl rfl (ok_i_in x1 32 126 _ hy97) rfl [] rfl rfl fun _ _ => JO.reg ttOk 1 [] [] [(111, .v (.bool y96))] _ rfl ⟨⟨rfl, trivial⟩, rfl⟩ (JO.done rfl ?_)
      refine JS.cond rfl (fun ht151 => ?_) (fun ht151 => ?_)
      · have h := condT h ht151
        refine JS.region (JO.reg ttOk 2 [] [] [(114, .ep ⟨a3, 1, 1⟩ 0), (115, .v (.int .i64 x1))] _ rfl ⟨⟨rfl, rfl, trivial⟩, rfl⟩ ?_)
        obtain ⟨y98, hy99, h⟩ := bindO_some h
        refine JO.nilO .byte Sl.nil rfl rfl (JO.callX rfl rfl rfl rfl (ok_i_Grid_put_in45 (x0.1, x0.2.1, x0.2.2.1, ([] : List UInt8), x0.2.2.2.2) x1 a3 a4 c5 x0.1.2.2.1.length rfl a8 c9 x0.2.2.1.length rfl none 0 (([] : List UInt8).length) rfl _ hy99) rfl [1, 3, 3, 0] rfl [] rfl rfl ?_)
        rintro ⟨a100, c101, a102, c103, a104, c105⟩ -
        refine JO.done rfl (JS.endB (JS.endJA (y98.1.1, y98.1.2.1, y98.1.2.2.1, y98.1.2.2.2.1, y98.1.2.2.2.2.1, y98.1.2.2.2.2.2, y98.2.1, y98.2.2.1, y98.2.2.2.1, y98.2.2.2.2, a100, c101, a102, c103, a104, c105) h trivial trivial [] rfl [1, 2, 3, 0] rfl rfl))
      have h := condF h ht151
      refine JS.skip (JS.endB (JS.nilO .byte Sl.nil rfl rfl (JS.endJA (x0.1.1, x0.1.2.1, x0.1.2.2.1, x0.1.2.2.2.1, x0.1.2.2.2.2.1, x0.1.2.2.2.2.2, x0.2.1, x0.2.2.1, ([] : List UInt8), x0.2.2.2.2, a4, c5, a8, c9, none, 0) h trivial trivial [] rfl [4, 5, 0, 1] rfl rfl)))
    rintro ⟨x113, x114, x115, x118, x119, x120, x121, x122, x125, x128, a116, c117, a123, c124, a126, c127⟩ h
    subst hj158
    cases h
    exact JS.fallX ttOk (a116, c117, a123, c124, a126, c127) trivial rfl rfl [3, 0, 0, 0] rfl

def M_i_Vt_step (x0 : (Int × Int × List Int × Int × Int × Bool) × Int × List Int × List UInt8 × Int) (x1 : Int) : Option ((Int × Int × List Int × Int × Int × Bool) × Int × List Int × List UInt8 × Int) :=
  (joinO (fun ((x36, x37, x38, x41, x42, x43, x44, x45, x48, x51) : Int × Int × List Int × Int × Int × Bool × Int × List Int × List UInt8 × Int) =>
  some ((x36, x37, x38, x41, x42, x43), x44, x45, x48, x51)) fun j52 =>
  (bif (decide (x0.2.1 = 0)) then
  (bindO (M_i_Vt_plain x0 x1) fun (y17 : (Int × Int × List Int × Int × Int × Bool) × Int × List Int × List UInt8 × Int) =>
  j52 (y17.1.1, y17.1.2.1, y17.1.2.2.1, y17.1.2.2.2.1, y17.1.2.2.2.2.1, y17.1.2.2.2.2.2, y17.2.1, y17.2.2.1, y17.2.2.2.1, y17.2.2.2.2))
  else
  (bif (decide (x0.2.1 = 1)) then
  (bif (decide (x1 = 91)) then
  j52 (x0.1.1, x0.1.2.1, x0.1.2.2.1, x0.1.2.2.2.1, x0.1.2.2.2.2.1, x0.1.2.2.2.2.2, 2, x0.2.2.1, x0.2.2.2.1, x0.2.2.2.2)
  else
  j52 (x0.1.1, x0.1.2.1, x0.1.2.2.1, x0.1.2.2.2.1, x0.1.2.2.2.2.1, x0.1.2.2.2.2.2, 0, x0.2.2.1, x0.2.2.2.1, x0.2.2.2.2))
  else
  (bindO (M_i_Vt_sequence x0 x1) fun (y26 : (Int × Int × List Int × Int × Int × Bool) × Int × List Int × List UInt8 × Int) =>
  j52 (y26.1.1, y26.1.2.1, y26.1.2.2.1, y26.1.2.2.2.1, y26.1.2.2.2.2.1, y26.1.2.2.2.2.2, y26.2.1, y26.2.2.1, y26.2.2.2.1, y26.2.2.2.2)))))

theorem ok_i_Vt_step (x0 : (Int × Int × List Int × Int × Int × Bool) × Int × List Int × List UInt8 × Int) (x1 : Int) (a3 : Option Addr) (a4 : Option Addr) (c5 : Nat) (l6 : Nat) (hl7 : x0.1.2.2.1.length = l6) (a8 : Option Addr) (c9 : Nat) (l10 : Nat) (hl11 : x0.2.2.1.length = l10) (a12 : Option Addr) (c13 : Nat) (l14 : Nat) (hl15 : x0.2.2.2.1.length = l14) (r : (Int × Int × List Int × Int × Int × Bool) × Int × List Int × List UInt8 × Int) (h : M_i_Vt_step x0 x1 = some r) :
    FX Try.prog 72 [.pointer a3, .int .i64 x1] [] [⟨(.pair (.pair (.int .i64) (.pair (.int .i64) (.pair .val (.pair (.int .i64) (.pair (.int .i64) .bool))))) (.pair (.int .i64) (.pair .val (.pair .val (.int .i64))))), ⟨a3, 1, 1⟩, [((x0.1.1, x0.1.2.1, (Sl.v ⟨a4, l6, c5⟩), x0.1.2.2.2.1, x0.1.2.2.2.2.1, x0.1.2.2.2.2.2), x0.2.1, (Sl.v ⟨a8, l10, c9⟩), (Sl.v ⟨a12, l14, c13⟩), x0.2.2.2.2)]⟩, ⟨(.int .i64), ⟨a4, l6, c5⟩, x0.1.2.2.1⟩, ⟨(.int .i64), ⟨a8, l10, c9⟩, x0.2.2.1⟩, ⟨.byte, ⟨a12, l14, c13⟩, x0.2.2.2.1⟩] (fun _ : Option Addr × Nat × Option Addr × Nat × Option Addr × Nat => True) (fun q => .tuple #[]) (fun q => [⟨(.pair (.pair (.int .i64) (.pair (.int .i64) (.pair .val (.pair (.int .i64) (.pair (.int .i64) .bool))))) (.pair (.int .i64) (.pair .val (.pair .val (.int .i64))))), ⟨a3, 1, 1⟩, [((r.1.1, r.1.2.1, (Sl.v ⟨q.1, r.1.2.2.1.length, q.2.1⟩), r.1.2.2.2.1, r.1.2.2.2.2.1, r.1.2.2.2.2.2), r.2.1, (Sl.v ⟨q.2.2.1, r.2.2.1.length, q.2.2.2.1⟩), (Sl.v ⟨q.2.2.2.2.1, r.2.2.2.1.length, q.2.2.2.2.2⟩), r.2.2.2.2)]⟩, ⟨(.int .i64), ⟨q.1, r.1.2.2.1.length, q.2.1⟩, r.1.2.2.1⟩, ⟨(.int .i64), ⟨q.2.2.1, r.2.2.1.length, q.2.2.2.1⟩, r.2.2.1⟩, ⟨.byte, ⟨q.2.2.2.2.1, r.2.2.2.1.length, q.2.2.2.2.2⟩, r.2.2.2.1⟩]) :=
  by
    subst hl7
    subst hl11
    subst hl15
    refine FX.of (T := TTx) Try.call72 Try.func72 rfl rfl fun w0 L0 => ?_
    unfold M_i_Vt_step at h
    refine JS.ptr 0 a3 rfl ?_
    refine JS.seq (JS.region (JO.know 0 rfl fun hs57 => JO.reg ttOk 3 [] [] [(6, .ep ⟨a3, 1, 1⟩ 6)] _ rfl ⟨(hs57.fa ptr0).1, hs57.fa ptr0, ⟨rfl, trivial⟩, rfl⟩ (JO.loadV ttOk rfl rfl rfl rfl rfl rfl 0 rfl rfl 0 6 ((x0.1.1, x0.1.2.1, (Sl.v ⟨a4, x0.1.2.2.1.length, c5⟩), x0.1.2.2.2.1, x0.1.2.2.2.2.1, x0.1.2.2.2.2.2), x0.2.1, (Sl.v ⟨a8, x0.2.2.1.length, c9⟩), (Sl.v ⟨a12, x0.2.2.2.1.length, c13⟩), x0.2.2.2.2) ⟨rfl, rfl⟩ rfl rfl rfl (JO.done rfl ?_))))
    obtain ⟨j52, hj61, h⟩ := joinO_some h
    refine JS.blockJ (ι := Int × Int × List Int × Int × Int × Bool × Int × List Int × List UInt8 × Int × Option Addr × Nat × Option Addr × Nat × Option Addr × Nat) ⟨fun z => j52 (z.1, z.2.1, z.2.2.1, z.2.2.2.1, z.2.2.2.2.1, z.2.2.2.2.2.1, z.2.2.2.2.2.2.1, z.2.2.2.2.2.2.2.1, z.2.2.2.2.2.2.2.2.1, z.2.2.2.2.2.2.2.2.2.1) = some r, fun z => [], fun z => .nil, fun z => [], fun z => [⟨(.int .i64), ⟨z.2.2.2.2.2.2.2.2.2.2.1, z.2.2.1.length, z.2.2.2.2.2.2.2.2.2.2.2.1⟩, z.2.2.1⟩, ⟨(.int .i64), ⟨z.2.2.2.2.2.2.2.2.2.2.2.2.1, z.2.2.2.2.2.2.2.1.length, z.2.2.2.2.2.2.2.2.2.2.2.2.2.1⟩, z.2.2.2.2.2.2.2.1⟩, ⟨.byte, ⟨z.2.2.2.2.2.2.2.2.2.2.2.2.2.2.1, z.2.2.2.2.2.2.2.2.1.length, z.2.2.2.2.2.2.2.2.2.2.2.2.2.2.2⟩, z.2.2.2.2.2.2.2.2.1⟩, ⟨(.pair (.pair (.int .i64) (.pair (.int .i64) (.pair .val (.pair (.int .i64) (.pair (.int .i64) .bool))))) (.pair (.int .i64) (.pair .val (.pair .val (.int .i64))))), ⟨a3, 1, 1⟩, [((z.1, z.2.1, (Sl.v ⟨z.2.2.2.2.2.2.2.2.2.2.1, z.2.2.1.length, z.2.2.2.2.2.2.2.2.2.2.2.1⟩), z.2.2.2.1, z.2.2.2.2.1, z.2.2.2.2.2.1), z.2.2.2.2.2.2.1, (Sl.v ⟨z.2.2.2.2.2.2.2.2.2.2.2.2.1, z.2.2.2.2.2.2.2.1.length, z.2.2.2.2.2.2.2.2.2.2.2.2.2.1⟩), (Sl.v ⟨z.2.2.2.2.2.2.2.2.2.2.2.2.2.2.1, z.2.2.2.2.2.2.2.2.1.length, z.2.2.2.2.2.2.2.2.2.2.2.2.2.2.2⟩), z.2.2.2.2.2.2.2.2.2.1)]⟩], fun z => 0⟩ ?_ ?_
    · refine JS.seq (JS.region (JO.reg ttOk 2 [] [] [(11, .v (.bool (decide (x0.2.1 = 0))))] _ rfl ⟨⟨rfl, trivial⟩, rfl⟩ (JO.done rfl ?_)))
      refine JS.cond rfl (fun ht60 => ?_) (fun ht60 => ?_)
      · have h := condT h ht60
        refine JS.region (JO.reg ttOk 2 [] [] [(13, .ep ⟨a3, 1, 1⟩ 0), (14, .v (.int .i64 x1))] _ rfl ⟨⟨rfl, rfl, trivial⟩, rfl⟩ ?_)
        obtain ⟨y17, hy18, h⟩ := bindO_some h
        refine JO.callX rfl rfl rfl rfl (ok_i_Vt_plain x0 x1 a3 a4 c5 x0.1.2.2.1.length rfl a8 c9 x0.2.2.1.length rfl a12 c13 x0.2.2.2.1.length rfl _ hy18) rfl [0, 0, 0, 0] rfl [] rfl rfl ?_
        rintro ⟨a19, c20, a21, c22, a23, c24⟩ -
        refine JO.done rfl (JS.endB (JS.endJA (y17.1.1, y17.1.2.1, y17.1.2.2.1, y17.1.2.2.2.1, y17.1.2.2.2.2.1, y17.1.2.2.2.2.2, y17.2.1, y17.2.2.1, y17.2.2.2.1, y17.2.2.2.2, a19, c20, a21, c22, a23, c24) h trivial trivial [] rfl [1, 2, 3, 0] rfl rfl))
      have h := condF h ht60
      refine JS.seq (JS.region (JO.reg ttOk 2 [] [] [(16, .v (.bool (decide (x0.2.1 = 1))))] _ rfl ⟨⟨rfl, trivial⟩, rfl⟩ (JO.done rfl ?_)))
      refine JS.cond rfl (fun ht59 => ?_) (fun ht59 => ?_)
      · have h := condT h ht59
        refine JS.seq (JS.region (JO.reg ttOk 3 [] [] [(20, .ep ⟨a3, 1, 1⟩ 6)] _ rfl ⟨(hs57.fa ptr0).1, hs57.fa ptr0, ⟨rfl, trivial⟩, rfl⟩ (JO.storeE ttOk rfl rfl rfl rfl rfl rfl rfl rfl rfl [0] (fs := []) rfl 0 6 ((x0.1.1, x0.1.2.1, (Sl.v ⟨a4, x0.1.2.2.1.length, c5⟩), x0.1.2.2.2.1, x0.1.2.2.2.2.1, x0.1.2.2.2.2.2), x0.2.1, (Sl.v ⟨a8, x0.2.2.1.length, c9⟩), (Sl.v ⟨a12, x0.2.2.2.1.length, c13⟩), x0.2.2.2.2) ((x0.1.1, x0.1.2.1, (Sl.v ⟨a4, x0.1.2.2.1.length, c5⟩), x0.1.2.2.2.1, x0.1.2.2.2.2.1, x0.1.2.2.2.2.2), 0, (Sl.v ⟨a8, x0.2.2.1.length, c9⟩), (Sl.v ⟨a12, x0.2.2.2.1.length, c13⟩), x0.2.2.2.2) ⟨rfl, rfl⟩ ⟨⟨⟨rfl, rfl, rfl⟩, rfl⟩, rfl⟩ (JO.done rfl (JS.seq (JS.region (JO.reg ttOk 2 [] [] [(22, .v (.bool (decide (x1 = 91))))] _ rfl ⟨⟨rfl, trivial⟩, rfl⟩ (JO.done rfl ?_))))))))
        refine JS.cond rfl (fun ht58 => ?_) (fun ht58 => ?_)
        · have h := condT h ht58
          refine JS.region (JO.reg ttOk 3 [] [] [(25, .ep ⟨a3, 1, 1⟩ 6)] _ rfl ⟨(hs57.fa ptr0).1, hs57.fa ptr0, ⟨rfl, trivial⟩, rfl⟩ (JO.storeE ttOk rfl rfl rfl rfl rfl rfl rfl rfl rfl [0] (fs := []) rfl 0 6 ((x0.1.1, x0.1.2.1, (Sl.v ⟨a4, x0.1.2.2.1.length, c5⟩), x0.1.2.2.2.1, x0.1.2.2.2.2.1, x0.1.2.2.2.2.2), 0, (Sl.v ⟨a8, x0.2.2.1.length, c9⟩), (Sl.v ⟨a12, x0.2.2.2.1.length, c13⟩), x0.2.2.2.2) ((x0.1.1, x0.1.2.1, (Sl.v ⟨a4, x0.1.2.2.1.length, c5⟩), x0.1.2.2.2.1, x0.1.2.2.2.2.1, x0.1.2.2.2.2.2), 2, (Sl.v ⟨a8, x0.2.2.1.length, c9⟩), (Sl.v ⟨a12, x0.2.2.2.1.length, c13⟩), x0.2.2.2.2) ⟨rfl, rfl⟩ ⟨⟨⟨rfl, rfl, rfl⟩, rfl⟩, rfl⟩ (JO.done rfl (JS.endB (JS.endJA (x0.1.1, x0.1.2.1, x0.1.2.2.1, x0.1.2.2.2.1, x0.1.2.2.2.2.1, x0.1.2.2.2.2.2, 2, x0.2.2.1, x0.2.2.2.1, x0.2.2.2.2, a4, c5, a8, c9, a12, c13) h trivial trivial [] rfl [1, 2, 3, 0] rfl rfl)))))
        have h := condF h ht58
        refine JS.skip (JS.endB (JS.endJA (x0.1.1, x0.1.2.1, x0.1.2.2.1, x0.1.2.2.2.1, x0.1.2.2.2.2.1, x0.1.2.2.2.2.2, 0, x0.2.2.1, x0.2.2.2.1, x0.2.2.2.2, a4, c5, a8, c9, a12, c13) h trivial trivial [] rfl [1, 2, 3, 0] rfl rfl))
      have h := condF h ht59
      refine JS.region (JO.reg ttOk 2 [] [] [(8, .ep ⟨a3, 1, 1⟩ 0), (9, .v (.int .i64 x1))] _ rfl ⟨⟨rfl, rfl, trivial⟩, rfl⟩ ?_)
      obtain ⟨y26, hy27, h⟩ := bindO_some h
      refine JO.callX rfl rfl rfl rfl (ok_i_Vt_sequence x0 x1 a3 a4 c5 x0.1.2.2.1.length rfl a8 c9 x0.2.2.1.length rfl a12 c13 x0.2.2.2.1.length rfl _ hy27) rfl [0, 0, 0, 0] rfl [] rfl rfl ?_
      rintro ⟨a28, c29, a30, c31, a32, c33⟩ -
      refine JO.done rfl (JS.endB (JS.endJA (y26.1.1, y26.1.2.1, y26.1.2.2.1, y26.1.2.2.2.1, y26.1.2.2.2.2.1, y26.1.2.2.2.2.2, y26.2.1, y26.2.2.1, y26.2.2.2.1, y26.2.2.2.2, a28, c29, a30, c31, a32, c33) h trivial trivial [] rfl [1, 2, 3, 0] rfl rfl))
    rintro ⟨x36, x37, x38, x41, x42, x43, x44, x45, x48, x51, a39, c40, a46, c47, a49, c50⟩ h
    subst hj61
    cases h
    exact JS.fallX ttOk (a39, c40, a46, c47, a49, c50) trivial rfl rfl [3, 0, 0, 0] rfl

def M_i_VtFeed_L1 (x1 : List UInt8) (j96 : (Int × Int × List Int × Int × Int × Bool × Int × List Int × List UInt8 × Int) → Option ((Int × Int × List Int × Int × Int × Bool) × Int × List Int × List UInt8 × Int)) (k76 : (Int × Int × Int × List Int × Int × Int × Bool × Int × List Int × List UInt8 × Int) → Option ((Int × Int × List Int × Int × Int × Bool) × Int × List Int × List UInt8 × Int)) : (Int × Int × Int × List Int × Int × Int × Bool × Int × List Int × List UInt8 × Int) → Option ((Int × Int × List Int × Int × Int × Bool) × Int × List Int × List UInt8 × Int) := fun (x30, x47, x48, x49, x52, x53, x54, x55, x56, x59, x62) =>
  (bif (decide (x30 < (x1.length : Int))) then
  (guardO (0 ≤ x30 ∧ x30 < (x1.length : Int)) <|
  (bindO (M_i_Vt_step ((x47, x48, x49, x52, x53, x54), x55, x56, x59, x62) ((at' x1 x30).toNat : Int)) fun (y65 : (Int × Int × List Int × Int × Int × Bool) × Int × List Int × List UInt8 × Int) =>
  k76 ((W (x30 + 1)), y65.1.1, y65.1.2.1, y65.1.2.2.1, y65.1.2.2.2.1, y65.1.2.2.2.2.1, y65.1.2.2.2.2.2, y65.2.1, y65.2.2.1, y65.2.2.2.1, y65.2.2.2.2)))
  else
  j96 (x47, x48, x49, x52, x53, x54, x55, x56, x59, x62))

def M_i_VtFeed (x0 : (Int × Int × List Int × Int × Int × Bool) × Int × List Int × List UInt8 × Int) (x1 : List UInt8) : Option ((Int × Int × List Int × Int × Int × Bool) × Int × List Int × List UInt8 × Int) :=
  (bindO (M_i_VtOk x0) fun (y19 : Bool) =>
  (bif (!y19) then
  some ((0, 0, [], 0, 0, false), 0, [], [], 0)
  else
  (bindO (M_i_copyVt x0) fun (y21 : (Int × Int × List Int × Int × Int × Bool) × Int × List Int × List UInt8 × Int) =>
  (joinO (fun ((x80, x81, x82, x85, x86, x87, x88, x89, x92, x95) : Int × Int × List Int × Int × Int × Bool × Int × List Int × List UInt8 × Int) =>
  some ((x80, x81, x82, x85, x86, x87), x88, x89, x92, x95)) fun j96 =>
  (fixF (M_i_VtFeed_L1 x1 j96) FUEL (0, y21.1.1, y21.1.2.1, y21.1.2.2.1, y21.1.2.2.2.1, y21.1.2.2.2.2.1, y21.1.2.2.2.2.2, y21.2.1, y21.2.2.1, y21.2.2.2.1, y21.2.2.2.2))))))

theorem ok_i_VtFeed (x0 : (Int × Int × List Int × Int × Int × Bool) × Int × List Int × List UInt8 × Int) (x1 : List UInt8) (a3 : Option Addr) (c4 : Nat) (l5 : Nat) (hl6 : x0.1.2.2.1.length = l5) (a7 : Option Addr) (c8 : Nat) (l9 : Nat) (hl10 : x0.2.2.1.length = l9) (a11 : Option Addr) (c12 : Nat) (l13 : Nat) (hl14 : x0.2.2.2.1.length = l13) (a15 : Option Addr) (c16 : Nat) (l17 : Nat) (hl18 : x1.length = l17) (r : (Int × Int × List Int × Int × Int × Bool) × Int × List Int × List UInt8 × Int) (h : M_i_VtFeed x0 x1 = some r) :
    FC Try.prog 27 [.agg #[.int .i64 x0.1.1, .int .i64 x0.1.2.1, .slice a3 l5 c4, .int .i64 x0.1.2.2.2.1, .int .i64 x0.1.2.2.2.2.1, .bool x0.1.2.2.2.2.2, .int .i64 x0.2.1, .slice a7 l9 c8, .slice a11 l13 c12, .int .i64 x0.2.2.2.2], .slice a15 l17 c16] [⟨(.int .i64), ⟨a3, l5, c4⟩, x0.1.2.2.1⟩, ⟨(.int .i64), ⟨a7, l9, c8⟩, x0.2.2.1⟩, ⟨.byte, ⟨a11, l13, c12⟩, x0.2.2.2.1⟩, ⟨.byte, ⟨a15, l17, c16⟩, x1⟩] (fun _ : Option Addr × Nat × Option Addr × Nat × Option Addr × Nat => True) (fun q => .agg (cl45 r q.1 q.2.1 q.2.2.1 q.2.2.2.1 q.2.2.2.2.1 q.2.2.2.2.2).toArray) (fun q => [⟨(.int .i64), ⟨q.1, r.1.2.2.1.length, q.2.1⟩, r.1.2.2.1⟩, ⟨(.int .i64), ⟨q.2.2.1, r.2.2.1.length, q.2.2.2.1⟩, r.2.2.1⟩, ⟨.byte, ⟨q.2.2.2.2.1, r.2.2.2.1.length, q.2.2.2.2.2⟩, r.2.2.2.1⟩]) :=
  by
    subst hl6
    subst hl10
    subst hl14
    subst hl18
    refine FC.of (T := TTx) Try.call27 Try.func27 rfl rfl fun w0 => ?_
    unfold M_i_VtFeed at h
    refine JS.seq (JS.region (JO.regB ttOk 2 [] [5, 6] [(2, .bp 5 0), (4, .bp 6 0)] (.new 5 45 (cl45 x0 a3 c4 a7 c8 a11 c12) (.new 6 45 (cl45 ((0, 0, [], 0, 0, false), 0, [], [], 0) none 0 none 0 none 0) .nil)) rfl ⟨⟨rfl, rfl, trivial⟩, ⟨rfl, rfl, rfl, rfl, rfl, rfl, rfl, rfl, trivial⟩⟩ (JO.done rfl (JS.seq (JS.seq (JS.region (JO.reg ttOk 1 [] [] [(8, .v (.agg (cl45 x0 a3 c4 a7 c8 a11 c12).toArray))] _ rfl ⟨⟨rfl, trivial⟩, rfl⟩ ?_)))))))
    obtain ⟨y19, hy20, h⟩ := bindO_some h
    refine JO.call rfl rfl rfl rfl (ok_i_VtOk x0 a3 c4 x0.1.2.2.1.length rfl a7 c8 x0.2.2.1.length rfl a11 c12 x0.2.2.2.1.length rfl _ hy20) rfl [0, 1, 2] rfl rfl fun _ _ => JO.reg ttOk 1 [] [] [(10, .v (.bool (!y19)))] _ rfl ⟨⟨rfl, trivial⟩, rfl⟩ (JO.done rfl ?_)
    refine JS.cond rfl (fun ht104 => ?_) (fun ht104 => ?_)
    · have h := condT h ht104
      refine JS.seq (JS.region (JO.regB ttOk 2 [] [] [] (.new 6 45 (cl45 ((0, 0, [], 0, 0, false), 0, [], [], 0) none 0 none 0 none 0) .nil) rfl ⟨trivial, ⟨rfl, rfl, rfl, rfl, trivial⟩⟩ (JO.done rfl ?_)))
      cases h
      refine JS.nilO (.int .i64) Sl.nil rfl rfl (JS.nilO (.int .i64) Sl.nil rfl rfl (JS.nilO .byte Sl.nil rfl rfl (JS.ret ttOk (none, 0, none, 0, none, 0) trivial rfl rfl [2, 1, 0] rfl)))
    have h := condF h ht104
    refine JS.skip (JS.seq (JS.region (JO.reg ttOk 1 [] [] [(12, .v (.agg (cl45 x0 a3 c4 a7 c8 a11 c12).toArray))] _ rfl ⟨⟨rfl, trivial⟩, rfl⟩ ?_)))
    obtain ⟨y21, hy22, h⟩ := bindO_some h
    refine JO.call rfl rfl rfl rfl (ok_i_copyVt x0 a3 c4 x0.1.2.2.1.length rfl a7 c8 x0.2.2.1.length rfl a11 c12 x0.2.2.2.1.length rfl _ hy22) rfl [0, 1, 2] rfl rfl ?_
    rintro ⟨a23, c24, a25, c26, a27, c28⟩ -
    refine JO.regB ttOk 2 [] [20] [(5, .bp 20 0)] (.new 6 45 (cl45 ((0, 0, [], 0, 0, false), 0, [], [], 0) none 0 none 0 none 0) (.new 20 45 (cl45 y21 a23 c24 a25 c26 a27 c28) .nil)) rfl ⟨⟨rfl, trivial⟩, ⟨rfl, rfl, rfl, rfl, rfl, rfl, rfl, rfl, trivial⟩⟩ (JO.done rfl (JS.seq (JS.seq (JS.region (JO.reg ttOk 3 [] [] [(14, .v (.slice a15 x1.length c16)), (15, .v (.int .i64 (x1.length : Int))), (16, .v (.int .i64 0))] _ rfl ⟨⟨rfl, rfl, rfl, trivial⟩, rfl⟩ (JO.done rfl (JS.unbox 20 rfl (B' := (.new 6 45 (cl45 ((0, 0, [], 0, 0, false), 0, [], [], 0) none 0 none 0 none 0) .nil)) ⟨rfl, rfl, rfl, rfl, trivial⟩ rfl (.pair (.pair (.int .i64) (.pair (.int .i64) (.pair .val (.pair (.int .i64) (.pair (.int .i64) .bool))))) (.pair (.int .i64) (.pair .val (.pair .val (.int .i64))))) ((y21.1.1, y21.1.2.1, (Sl.v ⟨a23, y21.1.2.2.1.length, c24⟩), y21.1.2.2.2.1, y21.1.2.2.2.2.1, y21.1.2.2.2.2.2), y21.2.1, (Sl.v ⟨a25, y21.2.2.1.length, c26⟩), (Sl.v ⟨a27, y21.2.2.2.1.length, c28⟩), y21.2.2.2.2) ⟨rfl, rfl, rfl, rfl, rfl⟩ (fun a29 => [(0, .v (.agg (cl45 x0 a3 c4 a7 c8 a11 c12).toArray)), (1, .v (.slice a15 x1.length c16)), (4, .bp 6 0), (5, .ep ⟨a29, 1, 1⟩ 0), (8, .v (.agg (cl45 x0 a3 c4 a7 c8 a11 c12).toArray)), (9, .v (.bool y19)), (10, .v (.bool (!y19))), (12, .v (.agg (cl45 x0 a3 c4 a7 c8 a11 c12).toArray)), (13, .v (.agg (cl45 y21 a23 c24 a25 c26 a27 c28).toArray)), (14, .v (.slice a15 x1.length c16)), (15, .v (.int .i64 (x1.length : Int))), (16, .v (.int .i64 0))]) (fun _ => ⟨rfl, rfl, rfl, rfl, rfl, rfl, rfl, rfl, rfl, rfl, rfl, rfl, trivial⟩) fun a29 => ?_)))))))
    obtain ⟨j96, hj103, h⟩ := joinO_some h
    refine JS.blockJ (ι := Int × Int × List Int × Int × Int × Bool × Int × List Int × List UInt8 × Int × Option Addr × Nat × Option Addr × Nat × Option Addr × Nat) ⟨fun z => j96 (z.1, z.2.1, z.2.2.1, z.2.2.2.1, z.2.2.2.2.1, z.2.2.2.2.2.1, z.2.2.2.2.2.2.1, z.2.2.2.2.2.2.2.1, z.2.2.2.2.2.2.2.2.1, z.2.2.2.2.2.2.2.2.2.1) = some r, fun z => [(4, .bp 6 0), (5, .ep ⟨a29, 1, 1⟩ 0)], fun z => (.new 6 45 (cl45 ((0, 0, [], 0, 0, false), 0, [], [], 0) none 0 none 0 none 0) .nil), fun z => [], fun z => [⟨(.int .i64), ⟨z.2.2.2.2.2.2.2.2.2.2.1, z.2.2.1.length, z.2.2.2.2.2.2.2.2.2.2.2.1⟩, z.2.2.1⟩, ⟨(.int .i64), ⟨z.2.2.2.2.2.2.2.2.2.2.2.2.1, z.2.2.2.2.2.2.2.1.length, z.2.2.2.2.2.2.2.2.2.2.2.2.2.1⟩, z.2.2.2.2.2.2.2.1⟩, ⟨.byte, ⟨z.2.2.2.2.2.2.2.2.2.2.2.2.2.2.1, z.2.2.2.2.2.2.2.2.1.length, z.2.2.2.2.2.2.2.2.2.2.2.2.2.2.2⟩, z.2.2.2.2.2.2.2.2.1⟩, ⟨(.pair (.pair (.int .i64) (.pair (.int .i64) (.pair .val (.pair (.int .i64) (.pair (.int .i64) .bool))))) (.pair (.int .i64) (.pair .val (.pair .val (.int .i64))))), ⟨a29, 1, 1⟩, [((z.1, z.2.1, (Sl.v ⟨z.2.2.2.2.2.2.2.2.2.2.1, z.2.2.1.length, z.2.2.2.2.2.2.2.2.2.2.2.1⟩), z.2.2.2.1, z.2.2.2.2.1, z.2.2.2.2.2.1), z.2.2.2.2.2.2.1, (Sl.v ⟨z.2.2.2.2.2.2.2.2.2.2.2.2.1, z.2.2.2.2.2.2.2.1.length, z.2.2.2.2.2.2.2.2.2.2.2.2.2.1⟩), (Sl.v ⟨z.2.2.2.2.2.2.2.2.2.2.2.2.2.2.1, z.2.2.2.2.2.2.2.2.1.length, z.2.2.2.2.2.2.2.2.2.2.2.2.2.2.2⟩), z.2.2.2.2.2.2.2.2.2.1)]⟩], fun z => 0⟩ ?_ ?_
    · refine JS.loop (ι := Nat × Int × Int × Int × List Int × Int × Int × Bool × Int × List Int × List UInt8 × Int × Option Addr × Nat × Option Addr × Nat × Option Addr × Nat) ⟨fun z => fixF (M_i_VtFeed_L1 x1 j96) z.1 (z.2.1, z.2.2.1, z.2.2.2.1, z.2.2.2.2.1, z.2.2.2.2.2.1, z.2.2.2.2.2.2.1, z.2.2.2.2.2.2.2.1, z.2.2.2.2.2.2.2.2.1, z.2.2.2.2.2.2.2.2.2.1, z.2.2.2.2.2.2.2.2.2.2.1, z.2.2.2.2.2.2.2.2.2.2.2.1) = some r, fun z => [(4, .bp 6 0), (5, .ep ⟨a29, 1, 1⟩ 0), (14, .v (.slice a15 x1.length c16)), (15, .v (.int .i64 (x1.length : Int))), (16, .v (.int .i64 z.2.1))], fun z => (.new 6 45 (cl45 ((0, 0, [], 0, 0, false), 0, [], [], 0) none 0 none 0 none 0) .nil), fun z => [⟨.byte, ⟨a15, x1.length, c16⟩, x1⟩], fun z => [⟨(.int .i64), ⟨z.2.2.2.2.2.2.2.2.2.2.2.2.1, z.2.2.2.2.1.length, z.2.2.2.2.2.2.2.2.2.2.2.2.2.1⟩, z.2.2.2.2.1⟩, ⟨(.int .i64), ⟨z.2.2.2.2.2.2.2.2.2.2.2.2.2.2.1, z.2.2.2.2.2.2.2.2.2.1.length, z.2.2.2.2.2.2.2.2.2.2.2.2.2.2.2.1⟩, z.2.2.2.2.2.2.2.2.2.1⟩, ⟨.byte, ⟨z.2.2.2.2.2.2.2.2.2.2.2.2.2.2.2.2.1, z.2.2.2.2.2.2.2.2.2.2.1.length, z.2.2.2.2.2.2.2.2.2.2.2.2.2.2.2.2.2⟩, z.2.2.2.2.2.2.2.2.2.2.1⟩, ⟨(.pair (.pair (.int .i64) (.pair (.int .i64) (.pair .val (.pair (.int .i64) (.pair (.int .i64) .bool))))) (.pair (.int .i64) (.pair .val (.pair .val (.int .i64))))), ⟨a29, 1, 1⟩, [((z.2.2.1, z.2.2.2.1, (Sl.v ⟨z.2.2.2.2.2.2.2.2.2.2.2.2.1, z.2.2.2.2.1.length, z.2.2.2.2.2.2.2.2.2.2.2.2.2.1⟩), z.2.2.2.2.2.1, z.2.2.2.2.2.2.1, z.2.2.2.2.2.2.2.1), z.2.2.2.2.2.2.2.2.1, (Sl.v ⟨z.2.2.2.2.2.2.2.2.2.2.2.2.2.2.1, z.2.2.2.2.2.2.2.2.2.1.length, z.2.2.2.2.2.2.2.2.2.2.2.2.2.2.2.1⟩), (Sl.v ⟨z.2.2.2.2.2.2.2.2.2.2.2.2.2.2.2.2.1, z.2.2.2.2.2.2.2.2.2.2.1.length, z.2.2.2.2.2.2.2.2.2.2.2.2.2.2.2.2.2⟩), z.2.2.2.2.2.2.2.2.2.2.2.1)]⟩], fun z => z.1⟩ (FUEL, 0, y21.1.1, y21.1.2.1, y21.1.2.2.1, y21.1.2.2.2.1, y21.1.2.2.2.2.1, y21.1.2.2.2.2.2, y21.2.1, y21.2.2.1, y21.2.2.2.1, y21.2.2.2.2, a23, c24, a25, c26, a27, c28) h ⟨rfl, rfl, rfl, rfl, rfl, trivial⟩ ⟨rfl, rfl, rfl, rfl, trivial⟩ [3] rfl [1, 1, 1, 0] rfl ?_
      rintro ⟨n77, x30, x47, x48, x49, x52, x53, x54, x55, x56, x59, x62, a50, c51, a57, c58, a60, c61⟩ h
      obtain ⟨n77, rfl, h⟩ := fixF_some h
      rw [M_i_VtFeed_L1] at h
      refine JS.seq (JS.region (JO.reg ttOk 1 [] [] [(17, .v (.bool (decide (x30 < (x1.length : Int)))))] _ rfl ⟨⟨rfl, trivial⟩, rfl⟩ (JO.done rfl (JS.seq ?_))))
      refine JS.cond rfl (fun ht102 => ?_) (fun ht102 => ?_)
      · have h := condT h ht102
        refine JS.skip (JS.seq (JS.block (JS.seq (JS.region (JO.know 0 rfl fun hs101 => ?_)))))
        obtain ⟨g64, h⟩ := guardO_some h
        refine JO.reg ttOk 1 [] [] [(18, .ep ⟨a15, x1.length, c16⟩ (Int.toNat x30 * 1))] _ rfl ⟨hs101.ix g64, ⟨rfl, trivial⟩, rfl⟩ (JO.load ttOk rfl rfl rfl rfl rfl rfl rfl 0 rfl rfl (Int.toNat x30) 0 (at' x1 x30) ⟨at_some g64, rfl⟩ rfl rfl (JO.reg ttOk 1 [] [] [(7, .v (.int .u8 ((at' x1 x30).toNat : Int)))] _ rfl ⟨⟨rfl, trivial⟩, rfl⟩ (JO.done rfl (JS.region (JO.reg ttOk 2 [((at' x1 x30).toNat : Int)] [] [(21, .v (.int .i64 ((at' x1 x30).toNat : Int)))] _ rfl ⟨⟨trivial, W_byte _⟩, ⟨rfl, trivial⟩, rfl⟩ ?_)))))
        obtain ⟨y65, hy66, h⟩ := bindO_some h
        refine JO.callX rfl rfl rfl rfl (ok_i_Vt_step ((x47, x48, x49, x52, x53, x54), x55, x56, x59, x62) ((at' x1 x30).toNat : Int) a29 a50 c51 x49.length rfl a57 c58 x56.length rfl a60 c61 x59.length rfl _ hy66) rfl [3, 0, 0, 0] rfl [] rfl rfl ?_
        rintro ⟨a67, c68, a69, c70, a71, c72⟩ -
        refine JO.done rfl (JS.endB (JS.region (JO.reg ttOk 2 [(W (x30 + 1))] [] [(16, .v (.int .i64 (W (x30 + 1))))] _ rfl ⟨⟨trivial, rfl⟩, ⟨rfl, trivial⟩, rfl⟩ (JO.done rfl (JS.endLA (n77, (W (x30 + 1)), y65.1.1, y65.1.2.1, y65.1.2.2.1, y65.1.2.2.2.1, y65.1.2.2.2.2.1, y65.1.2.2.2.2.2, y65.2.1, y65.2.2.1, y65.2.2.2.1, y65.2.2.2.2, a67, c68, a69, c70, a71, c72) h (Nat.lt_succ_self _) ⟨rfl, rfl, rfl, rfl, rfl, trivial⟩ ⟨rfl, rfl, rfl, rfl, trivial⟩ [0] rfl [1, 2, 3, 0] rfl rfl)))))
      have h := condF h ht102
      refine JS.exit rfl (JS.endJA (x47, x48, x49, x52, x53, x54, x55, x56, x59, x62, a50, c51, a57, c58, a60, c61) h ⟨rfl, rfl, trivial⟩ ⟨rfl, rfl, rfl, rfl, trivial⟩ [] rfl [0, 1, 2, 3] rfl rfl)
    rintro ⟨x80, x81, x82, x85, x86, x87, x88, x89, x92, x95, a83, c84, a90, c91, a93, c94⟩ h
    subst hj103
    refine JS.seq (JS.region (JO.loadV ttOk rfl rfl rfl rfl rfl rfl 3 rfl rfl 0 0 ((x80, x81, (Sl.v ⟨a83, x82.length, c84⟩), x85, x86, x87), x88, (Sl.v ⟨a90, x89.length, c91⟩), (Sl.v ⟨a93, x92.length, c94⟩), x95) ⟨rfl, rfl⟩ rfl rfl rfl (JO.regB ttOk 1 [] [] [] (.new 6 45 (cl45 ((x80, x81, x82, x85, x86, x87), x88, x89, x92, x95) a83 c84 a90 c91 a93 c94) .nil) rfl ⟨trivial, ⟨rfl, rfl, rfl, rfl, trivial⟩⟩ (JO.done rfl ?_))))
    cases h
    exact JS.ret ttOk (a83, c84, a90, c91, a93, c94) trivial rfl rfl [0, 0, 0] rfl

def M_i_EmitCost_L1 (x0 : List UInt8) (j41 : Int → Option Int) (k28 : Int → Option Int) : Int → Option Int := fun x13 =>
  (guardO (((decide (x13 < (x0.length : Int))) = true) → 0 ≤ x13 ∧ x13 < (x0.length : Int)) <|
  (callO ((decide (x13 < (x0.length : Int))) = true) (M_i_isDigit ((at' x0 x13).toNat : Int)) false fun (y19 : Bool) =>
  (guardO ((y19 = false) → ((decide (x13 < (x0.length : Int))) = true) → 0 ≤ x13 ∧ x13 < (x0.length : Int)) <|
  (bif (bif (decide (x13 < (x0.length : Int))) then (bif y19 then true else (decide (((at' x0 x13).toNat : Int) = (59 : Int)))) else false) then
  k28 (W (x13 + 1))
  else
  j41 x13))))

def M_i_EmitCost_L2 (x0 : List UInt8) (j97 : Int → Option Int) (k76 : (Int × Int) → Option Int) : (Int × Int) → Option Int := fun (x6, x7) =>
  (bif (decide (x7 < (x0.length : Int))) then
  (joinO (fun ((x55, x56) : Int × Int) =>
  k76 (x55, x56)) fun j57 =>
  (guardO (0 ≤ x7 ∧ x7 < (x0.length : Int)) <|
  (bif (!(decide (((at' x0 x7).toNat : Int) = (27 : Int)))) then
  j57 ((W (x6 + 1)), (W (x7 + 1)))
  else
  (guardO (((decide ((W (x7 + 1)) = (x0.length : Int))) = false) → 0 ≤ (W (x7 + 1)) ∧ (W (x7 + 1)) < (x0.length : Int)) <|
  (bif (bif (decide ((W (x7 + 1)) = (x0.length : Int))) then true else (!(decide (((at' x0 (W (x7 + 1))).toNat : Int) = (91 : Int))))) then
  j57 (x6, (W (x7 + 1)))
  else
  (joinO (fun (x40 : Int) =>
  j57 (x6, (W (x40 + 1)))) fun j41 =>
  (fixF (M_i_EmitCost_L1 x0 j41) FUEL (W ((W (x7 + 1)) + 1)))))))))
  else
  j97 x6)

def M_i_EmitCost (x0 : List UInt8) : Option Int :=
  (joinO (fun (x96 : Int) =>
  some x96) fun j97 =>
  (fixF (M_i_EmitCost_L2 x0 j97) FUEL (0, 0)))

theorem ok_i_EmitCost (x0 : List UInt8) (a2 : Option Addr) (c3 : Nat) (l4 : Nat) (hl5 : x0.length = l4) (r : Int) (h : M_i_EmitCost x0 = some r) :
    FC Try.prog 32 [.slice a2 l4 c3] [⟨.byte, ⟨a2, l4, c3⟩, x0⟩] (fun _ : Unit => True) (fun _ => .int .i64 r) (fun _ => []) :=
  by
    subst hl5
    refine FC.of (T := TTx) Try.call32 Try.func32 rfl rfl fun w0 => ?_
    unfold M_i_EmitCost at h
    refine JS.seq (JS.region (JO.reg ttOk 1 [] [] [] _ rfl ⟨trivial, rfl⟩ (JO.done rfl (JS.seq (JS.region (JO.reg ttOk 1 [] [] [(3, .v (.int .i64 0))] _ rfl ⟨⟨rfl, trivial⟩, rfl⟩ (JO.done rfl (JS.seq (JS.seq (JS.region (JO.reg ttOk 1 [] [] [(4, .v (.int .i64 0))] _ rfl ⟨⟨rfl, trivial⟩, rfl⟩ (JO.done rfl ?_))))))))))))
    obtain ⟨j97, hj135, h⟩ := joinO_some h
    refine JS.blockJ (ι := Int) ⟨fun z => j97 z = some r, fun z => [(3, .v (.int .i64 z))], fun z => .nil, fun z => [], fun z => [], fun z => 0⟩ ?_ ?_
    · refine JS.loop (ι := Nat × Int × Int) ⟨fun z => fixF (M_i_EmitCost_L2 x0 j97) z.1 (z.2.1, z.2.2) = some r, fun z => [(0, .v (.slice a2 x0.length c3)), (3, .v (.int .i64 z.2.1)), (4, .v (.int .i64 z.2.2))], fun z => .nil, fun z => [⟨.byte, ⟨a2, x0.length, c3⟩, x0⟩], fun z => [], fun z => z.1⟩ (FUEL, 0, 0) h ⟨rfl, rfl, rfl, trivial⟩ trivial [0] rfl [] rfl ?_
      rintro ⟨n77, x6, x7⟩ h
      obtain ⟨n77, rfl, h⟩ := fixF_some h
      rw [M_i_EmitCost_L2] at h
      refine JS.seq (JS.seq (JS.region (JO.reg ttOk 4 [] [] [(8, .v (.bool (decide (x7 < (x0.length : Int)))))] _ rfl ⟨⟨rfl, trivial⟩, rfl⟩ (JO.done rfl ?_))))
      refine JS.cond rfl (fun ht134 => ?_) (fun ht134 => ?_)
      · have h := condT h ht134
        refine JS.skip ?_
        obtain ⟨j57, hj133, h⟩ := joinO_some h
        refine JS.blockJ (ι := Int × Int) ⟨fun z => j57 (z.1, z.2) = some r, fun z => [(0, .v (.slice a2 x0.length c3)), (3, .v (.int .i64 z.1)), (4, .v (.int .i64 z.2))], fun z => .nil, fun z => [⟨.byte, ⟨a2, x0.length, c3⟩, x0⟩], fun z => [], fun z => 0⟩ ?_ ?_
        · refine JS.seq (JS.seq (JS.region (JO.know 0 rfl fun hs117 => ?_)))
          obtain ⟨g9, h⟩ := guardO_some h
          refine JO.reg ttOk 3 [] [] [(11, .ep ⟨a2, x0.length, c3⟩ (Int.toNat x7 * 1))] _ rfl ⟨hs117.ix g9, ⟨rfl, trivial⟩, rfl⟩ (JO.load ttOk rfl rfl rfl rfl rfl rfl rfl 0 rfl rfl (Int.toNat x7) 0 (at' x0 x7) ⟨at_some g9, rfl⟩ rfl rfl (JO.reg ttOk 1 [] [] [(13, .v (.bool (!(decide (((at' x0 x7).toNat : Int) = (27 : Int))))))] _ rfl ⟨⟨rfl, trivial⟩, rfl⟩ (JO.done rfl ?_)))
          refine JS.cond rfl (fun ht132 => ?_) (fun ht132 => ?_)
          · have h := condT h ht132
            refine JS.seq (JS.region (JO.reg ttOk 3 [(W (x6 + 1))] [] [(3, .v (.int .i64 (W (x6 + 1))))] _ rfl ⟨⟨trivial, rfl⟩, ⟨rfl, trivial⟩, rfl⟩ (JO.done rfl (JS.seq (JS.region (JO.reg ttOk 3 [(W (x7 + 1))] [] [(4, .v (.int .i64 (W (x7 + 1))))] _ rfl ⟨⟨trivial, rfl⟩, ⟨rfl, trivial⟩, rfl⟩ (JO.done rfl (JS.exit rfl (JS.endJ ((W (x6 + 1)), (W (x7 + 1))) h ⟨rfl, rfl, rfl, trivial⟩ trivial [0] rfl [] rfl)))))))))
          have h := condF h ht132
          refine JS.skip (JS.seq (JS.region (JO.reg ttOk 3 [(W (x7 + 1))] [] [(4, .v (.int .i64 (W (x7 + 1))))] _ rfl ⟨⟨trivial, rfl⟩, ⟨rfl, trivial⟩, rfl⟩ (JO.done rfl (JS.seq (JS.seq (JS.region ?_)))))))
          obtain ⟨g10, h⟩ := guardO_some h
          refine JO.reg ttOk 8 [] [] [(24, .v (.bool (decide ((W (x7 + 1)) = (x0.length : Int))))), (27, .cd [(24, false)] (.ep ⟨a2, x0.length, c3⟩ (Int.toNat (W (x7 + 1)) * 1)))] _ rfl ⟨(fun q118 => hs117.ix (g10 q118)), ⟨rfl, rfl, trivial⟩, rfl⟩ (JO.load ttOk rfl rfl rfl rfl rfl rfl rfl 0 rfl rfl (Int.toNat (W (x7 + 1))) 0 (at' x0 (W (x7 + 1))) (fun q119 => ⟨at_some (g10 q119), rfl⟩) rfl rfl (JO.reg ttOk 2 [] [] [(30, .v (.bool (bif (decide ((W (x7 + 1)) = (x0.length : Int))) then true else (!(decide (((at' x0 (W (x7 + 1))).toNat : Int) = (91 : Int)))))))] _ rfl ⟨⟨rfl, trivial⟩, rfl⟩ (JO.done rfl ?_)))
          refine JS.cond rfl (fun ht131 => ?_) (fun ht131 => ?_)
          · have h := condT h ht131
            refine JS.exit rfl (JS.endJ (x6, (W (x7 + 1))) h ⟨rfl, rfl, rfl, trivial⟩ trivial [0] rfl [] rfl)
          have h := condF h ht131
          refine JS.skip (JS.seq (JS.region (JO.reg ttOk 3 [(W ((W (x7 + 1)) + 1))] [] [(4, .v (.int .i64 (W ((W (x7 + 1)) + 1))))] _ rfl ⟨⟨trivial, rfl⟩, ⟨rfl, trivial⟩, rfl⟩ (JO.done rfl (JS.seq ?_)))))
          obtain ⟨j41, hj130, h⟩ := joinO_some h
          refine JS.blockJ (ι := Int) ⟨fun z => j41 z = some r, fun z => [(0, .v (.slice a2 x0.length c3)), (3, .v (.int .i64 x6)), (4, .v (.int .i64 z))], fun z => .nil, fun z => [⟨.byte, ⟨a2, x0.length, c3⟩, x0⟩], fun z => [], fun z => 0⟩ ?_ ?_
          · refine JS.loop (ι := Nat × Int) ⟨fun z => fixF (M_i_EmitCost_L1 x0 j41) z.1 z.2 = some r, fun z => [(0, .v (.slice a2 x0.length c3)), (3, .v (.int .i64 x6)), (4, .v (.int .i64 z.2))], fun z => .nil, fun z => [⟨.byte, ⟨a2, x0.length, c3⟩, x0⟩], fun z => [], fun z => z.1⟩ (FUEL, (W ((W (x7 + 1)) + 1))) h ⟨rfl, rfl, rfl, trivial⟩ trivial [0] rfl [] rfl ?_
            rintro ⟨n29, x13⟩ h
            obtain ⟨n29, rfl, h⟩ := fixF_some h
            rw [M_i_EmitCost_L1] at h
            refine JS.seq (JS.seq (JS.region (JO.know 0 rfl fun hs120 => ?_)))
            obtain ⟨g15, h⟩ := guardO_some h
            refine JO.reg ttOk 8 [] [] [(37, .v (.bool (decide (x13 < (x0.length : Int))))), (40, .cd [(37, true)] (.ep ⟨a2, x0.length, c3⟩ (Int.toNat x13 * 1)))] _ rfl ⟨(fun q121 => hs120.ix (g15 q121)), ⟨rfl, rfl, trivial⟩, rfl⟩ (JO.load ttOk rfl rfl rfl rfl rfl rfl rfl 0 rfl rfl (Int.toNat x13) 0 (at' x0 x13) (fun q122 => ⟨at_some (g15 q122), rfl⟩) rfl rfl (JO.reg ttOk 1 [((at' x0 x13).toNat : Int)] [] [(42, .cd [(37, true)] (.v (.int .i64 ((at' x0 x13).toNat : Int))))] _ rfl ⟨(fun q123 => ⟨trivial, W_byte _⟩), ⟨rfl, trivial⟩, rfl⟩ ?_))
            obtain ⟨y19, hy20, -, h⟩ := callO_some h
            refine JO.callg rfl rfl rfl rfl (fun q124 => ok_i_isDigit ((at' x0 x13).toNat : Int) _ (hy20 q124)) rfl [] rfl rfl ?_
            obtain ⟨g22, h⟩ := guardO_some h
            refine JO.reg ttOk 4 [] [] [(44, .cd [(37, true)] (.v (.bool y19))), (47, .cd [(44, false), (37, true)] (.ep ⟨a2, x0.length, c3⟩ (Int.toNat x13 * 1)))] _ rfl ⟨(fun q125 q126 => hs120.ix (g22 q125 q126)), ⟨rfl, rfl, trivial⟩, rfl⟩ (JO.load ttOk rfl rfl rfl rfl rfl rfl rfl 0 rfl rfl (Int.toNat x13) 0 (at' x0 x13) (fun q127 q128 => ⟨at_some (g22 q127 q128), rfl⟩) rfl rfl (JO.reg ttOk 3 [] [] [(51, .v (.bool (bif (decide (x13 < (x0.length : Int))) then (bif y19 then true else (decide (((at' x0 x13).toNat : Int) = (59 : Int)))) else false)))] _ rfl ⟨⟨rfl, trivial⟩, rfl⟩ (JO.done rfl ?_)))
            refine JS.cond rfl (fun ht129 => ?_) (fun ht129 => ?_)
            · have h := condT h ht129
              refine JS.skip (JS.block (JS.region (JO.reg ttOk 3 [(W (x13 + 1))] [] [(4, .v (.int .i64 (W (x13 + 1))))] _ rfl ⟨⟨trivial, rfl⟩, ⟨rfl, trivial⟩, rfl⟩ (JO.done rfl (JS.endB (JS.endL (n29, (W (x13 + 1))) h (Nat.lt_succ_self _) ⟨rfl, rfl, rfl, trivial⟩ trivial [0] rfl [] rfl))))))
            have h := condF h ht129
            refine JS.exit rfl (JS.endJ x13 h ⟨rfl, rfl, rfl, trivial⟩ trivial [0] rfl [] rfl)
          rintro x40 h
          subst hj130
          refine JS.region (JO.reg ttOk 3 [(W (x40 + 1))] [] [(4, .v (.int .i64 (W (x40 + 1))))] _ rfl ⟨⟨trivial, rfl⟩, ⟨rfl, trivial⟩, rfl⟩ (JO.done rfl (JS.endB (JS.endJ (x6, (W (x40 + 1))) h ⟨rfl, rfl, rfl, trivial⟩ trivial [0] rfl [] rfl))))
        rintro ⟨x55, x56⟩ h
        subst hj133
        exact JS.endL (n77, x55, x56) h (Nat.lt_succ_self _) ⟨rfl, rfl, rfl, trivial⟩ trivial [0] rfl [] rfl
      have h := condF h ht134
      refine JS.exit rfl (JS.endJ x6 h ⟨rfl, trivial⟩ trivial [] rfl [] rfl)
    rintro x96 h
    subst hj135
    refine JS.seq (JS.region (JO.reg ttOk 2 [] [] [(2, .v (.int .i64 x96))] _ rfl ⟨⟨rfl, trivial⟩, rfl⟩ (JO.done rfl ?_)))
    cases h
    exact JS.ret ttOk () trivial rfl rfl [] rfl

def M_i_GridPut (x0 : Int × Int × List Int × Int × Int × Bool) (x1 : Int) : Option (Int × Int × List Int × Int × Int × Bool) :=
  (bindO (M_i_GridOk x0) fun (y7 : Bool) =>
  (bif (!y7) then
  some (0, 0, [], 0, 0, false)
  else
  (bindO (M_i_copyGrid x0) fun (y9 : Int × Int × List Int × Int × Int × Bool) =>
  (bindO (M_i_Grid_put y9 x1) fun (y14 : Int × Int × List Int × Int × Int × Bool) =>
  some y14))))

theorem ok_i_GridPut (x0 : Int × Int × List Int × Int × Int × Bool) (x1 : Int) (a3 : Option Addr) (c4 : Nat) (l5 : Nat) (hl6 : x0.2.2.1.length = l5) (r : Int × Int × List Int × Int × Int × Bool) (h : M_i_GridPut x0 x1 = some r) :
    FC Try.prog 12 [.agg #[.int .i64 x0.1, .int .i64 x0.2.1, .slice a3 l5 c4, .int .i64 x0.2.2.2.1, .int .i64 x0.2.2.2.2.1, .bool x0.2.2.2.2.2], .int .i64 x1] [⟨(.int .i64), ⟨a3, l5, c4⟩, x0.2.2.1⟩] (fun _ : Option Addr × Nat => True) (fun q => .agg (cl26 r q.1 q.2).toArray) (fun q => [⟨(.int .i64), ⟨q.1, r.2.2.1.length, q.2⟩, r.2.2.1⟩]) :=
  by
    subst hl6
    refine FC.of (T := TTx) Try.call12 Try.func12 rfl rfl fun w0 => ?_
    unfold M_i_GridPut at h
    refine JS.seq (JS.region (JO.regB ttOk 2 [] [2, 3] [(2, .bp 2 0), (4, .bp 3 0)] (.new 2 26 (cl26 x0 a3 c4) (.new 3 26 (cl26 (0, 0, [], 0, 0, false) none 0) .nil)) rfl ⟨⟨rfl, rfl, trivial⟩, ⟨rfl, rfl, rfl, rfl, rfl, rfl, rfl, rfl, trivial⟩⟩ (JO.done rfl (JS.seq (JS.seq (JS.region (JO.reg ttOk 1 [] [] [(6, .v (.agg (cl26 x0 a3 c4).toArray))] _ rfl ⟨⟨rfl, trivial⟩, rfl⟩ ?_)))))))
    obtain ⟨y7, hy8, h⟩ := bindO_some h
    refine JO.call rfl rfl rfl rfl (ok_i_GridOk x0 a3 c4 x0.2.2.1.length rfl _ hy8) rfl [0] rfl rfl fun _ _ => JO.reg ttOk 1 [] [] [(8, .v (.bool (!y7)))] _ rfl ⟨⟨rfl, trivial⟩, rfl⟩ (JO.done rfl ?_)
    refine JS.cond rfl (fun ht19 => ?_) (fun ht19 => ?_)
    · have h := condT h ht19
      refine JS.seq (JS.region (JO.regB ttOk 2 [] [] [] (.new 3 26 (cl26 (0, 0, [], 0, 0, false) none 0) .nil) rfl ⟨trivial, ⟨rfl, rfl, rfl, rfl, trivial⟩⟩ (JO.done rfl ?_)))
      cases h
      refine JS.nilO (.int .i64) Sl.nil rfl rfl (JS.ret ttOk (none, 0) trivial rfl rfl [0] rfl)
    have h := condF h ht19
    refine JS.skip (JS.seq (JS.region (JO.reg ttOk 1 [] [] [(10, .v (.agg (cl26 x0 a3 c4).toArray))] _ rfl ⟨⟨rfl, trivial⟩, rfl⟩ ?_)))
    obtain ⟨y9, hy10, h⟩ := bindO_some h
    refine JO.call rfl rfl rfl rfl (ok_i_copyGrid x0 a3 c4 x0.2.2.1.length rfl _ hy10) rfl [0] rfl rfl ?_
    rintro ⟨a11, c12⟩ -
    refine JO.regB ttOk 2 [] [11] [(5, .bp 11 0)] (.new 3 26 (cl26 (0, 0, [], 0, 0, false) none 0) (.new 11 26 (cl26 y9 a11 c12) .nil)) rfl ⟨⟨rfl, trivial⟩, ⟨rfl, rfl, rfl, rfl, rfl, rfl, rfl, rfl, trivial⟩⟩ (JO.done rfl (JS.seq (JS.region (JO.reg ttOk 1 [] [] [(12, .v (.int .i64 x1))] _ rfl ⟨⟨rfl, trivial⟩, rfl⟩ ?_))))
    obtain ⟨y14, hy15, h⟩ := bindO_some h
    refine JO.unbox 11 rfl (B' := (.new 3 26 (cl26 (0, 0, [], 0, 0, false) none 0) .nil)) ⟨rfl, rfl, rfl, rfl, trivial⟩ rfl (.pair (.int .i64) (.pair (.int .i64) (.pair .val (.pair (.int .i64) (.pair (.int .i64) .bool))))) (y9.1, y9.2.1, (Sl.v ⟨a11, y9.2.2.1.length, c12⟩), y9.2.2.2.1, y9.2.2.2.2.1, y9.2.2.2.2.2) ⟨rfl, rfl, rfl⟩ (fun a13 => [(0, .v (.agg (cl26 x0 a3 c4).toArray)), (1, .v (.int .i64 x1)), (4, .bp 3 0), (5, .ep ⟨a13, 1, 1⟩ 0), (6, .v (.agg (cl26 x0 a3 c4).toArray)), (7, .v (.bool y7)), (8, .v (.bool (!y7))), (10, .v (.agg (cl26 x0 a3 c4).toArray)), (11, .v (.agg (cl26 y9 a11 c12).toArray)), (12, .v (.int .i64 x1))]) (fun _ => ⟨rfl, rfl, rfl, rfl, rfl, rfl, rfl, rfl, rfl, rfl, trivial⟩) fun a13 => JO.callX rfl rfl rfl rfl (ok_i_Grid_put y9 x1 a13 a11 c12 y9.2.2.1.length rfl _ hy15) rfl [0, 0] rfl [] rfl rfl ?_
    rintro ⟨a16, c17⟩ -
    refine JO.done rfl (JS.seq (JS.region (JO.loadV ttOk rfl rfl rfl rfl rfl rfl 1 rfl rfl 0 0 (y14.1, y14.2.1, (Sl.v ⟨a16, y14.2.2.1.length, c17⟩), y14.2.2.2.1, y14.2.2.2.2.1, y14.2.2.2.2.2) ⟨rfl, rfl⟩ rfl rfl rfl (JO.regB ttOk 1 [] [] [] (.new 3 26 (cl26 y14 a16 c17) .nil) rfl ⟨trivial, ⟨rfl, rfl, rfl, rfl, trivial⟩⟩ (JO.done rfl ?_)))))
    cases h
    exact JS.ret ttOk (a16, c17) trivial rfl rfl [1] rfl

def M_i_sameInts_L1 (x0 : List Int) (x1 : List Int) (j28 : Unit → Option Bool) (k20 : Int → Option Bool) : Int → Option Bool := fun x11 =>
  (bif (decide (x11 < (x0.length : Int))) then
  (guardO (0 ≤ x11 ∧ x11 < (x0.length : Int)) <|
  (guardO (0 ≤ x11 ∧ x11 < (x1.length : Int)) <|
  (bif (!(decide ((at' x0 x11) = (at' x1 x11)))) then
  some false
  else
  k20 (W (x11 + 1)))))
  else
  j28 ())

def M_i_sameInts (x0 : List Int) (x1 : List Int) : Option Bool :=
  (bif (!(decide ((x0.length : Int) = (x1.length : Int)))) then
  some false
  else
  (joinO (fun (_ : Unit) =>
  some true) fun j28 =>
  (fixF (M_i_sameInts_L1 x0 x1 j28) FUEL 0)))

theorem ok_i_sameInts (x0 : List Int) (x1 : List Int) (a3 : Option Addr) (c4 : Nat) (l5 : Nat) (hl6 : x0.length = l5) (a7 : Option Addr) (c8 : Nat) (l9 : Nat) (hl10 : x1.length = l9) (r : Bool) (h : M_i_sameInts x0 x1 = some r) :
    FC Try.prog 74 [.slice a3 l5 c4, .slice a7 l9 c8] [⟨(.int .i64), ⟨a3, l5, c4⟩, x0⟩, ⟨(.int .i64), ⟨a7, l9, c8⟩, x1⟩] (fun _ : Unit => True) (fun _ => .bool r) (fun _ => []) :=
  by
    subst hl6
    subst hl10
    refine FC.of (T := TTx) Try.call74 Try.func74 rfl rfl fun w0 => ?_
    unfold M_i_sameInts at h
    refine JS.seq (JS.region (JO.reg ttOk 1 [] [] [] _ rfl ⟨trivial, rfl⟩ (JO.done rfl (JS.seq (JS.seq (JS.region (JO.reg ttOk 5 [] [] [(10, .v (.bool (!(decide ((x0.length : Int) = (x1.length : Int))))))] _ rfl ⟨⟨rfl, trivial⟩, rfl⟩ (JO.done rfl ?_))))))))
    refine JS.cond rfl (fun ht44 => ?_) (fun ht44 => ?_)
    · have h := condT h ht44
      refine JS.seq (JS.region (JO.reg ttOk 1 [] [] [(4, .v (.bool false))] _ rfl ⟨⟨rfl, trivial⟩, rfl⟩ (JO.done rfl ?_)))
      cases h
      exact JS.ret ttOk () trivial rfl rfl [] rfl
    have h := condF h ht44
    refine JS.skip (JS.seq (JS.seq (JS.region (JO.reg ttOk 3 [] [] [(12, .v (.int .i64 (x0.length : Int))), (13, .v (.int .i64 0))] _ rfl ⟨⟨rfl, rfl, trivial⟩, rfl⟩ (JO.done rfl ?_)))))
    obtain ⟨j28, hj43, h⟩ := joinO_some h
    refine JS.blockJ (ι := Unit) ⟨fun _ => j28 () = some r, fun _ => [], fun _ => .nil, fun _ => [], fun _ => [], fun _ => 0⟩ ?_ ?_
    · refine JS.loop (ι := Nat × Int) ⟨fun z => fixF (M_i_sameInts_L1 x0 x1 j28) z.1 z.2 = some r, fun z => [(0, .v (.slice a3 x0.length c4)), (1, .v (.slice a7 x1.length c8)), (12, .v (.int .i64 (x0.length : Int))), (13, .v (.int .i64 z.2))], fun z => .nil, fun z => [⟨(.int .i64), ⟨a3, x0.length, c4⟩, x0⟩, ⟨(.int .i64), ⟨a7, x1.length, c8⟩, x1⟩], fun z => [], fun z => z.1⟩ (FUEL, 0) h ⟨rfl, rfl, rfl, rfl, trivial⟩ trivial [0, 1] rfl [] rfl ?_
      rintro ⟨n21, x11⟩ h
      obtain ⟨n21, rfl, h⟩ := fixF_some h
      rw [M_i_sameInts_L1] at h
      refine JS.seq (JS.region (JO.reg ttOk 1 [] [] [(14, .v (.bool (decide (x11 < (x0.length : Int)))))] _ rfl ⟨⟨rfl, trivial⟩, rfl⟩ (JO.done rfl (JS.seq ?_))))
      refine JS.cond rfl (fun ht42 => ?_) (fun ht42 => ?_)
      · have h := condT h ht42
        refine JS.skip (JS.seq (JS.block (JS.seq (JS.region (JO.reg ttOk 2 [] [] [(5, .v (.int .i64 x11))] _ rfl ⟨⟨rfl, trivial⟩, rfl⟩ (JO.done rfl (JS.seq ?_)))))))
        obtain ⟨g13, h⟩ := guardO_some h
        obtain ⟨g15, h⟩ := guardO_some h
        refine JS.know 0 rfl fun hs39 => JS.know 1 rfl fun hs40 => JS.regionQ rfl (by kernel_rfl) (JQ.reg ttOk 3 [] [(18, .ep ⟨a3, x0.length, c4⟩ (Int.toNat x11 * 1))] rfl ⟨hs39.ix g13, ⟨rfl, trivial⟩⟩ (JQ.load ttOk rfl rfl rfl rfl rfl rfl rfl 0 rfl rfl (Int.toNat x11) 0 (at' x0 x11) ⟨at_some g13, rfl⟩ rfl rfl (JQ.reg ttOk 3 [] [(22, .ep ⟨a7, x1.length, c8⟩ (Int.toNat x11 * 1))] rfl ⟨hs40.ix g15, ⟨rfl, trivial⟩⟩ (JQ.load ttOk rfl rfl rfl rfl rfl rfl rfl 1 rfl rfl (Int.toNat x11) 0 (at' x1 x11) ⟨at_some g15, rfl⟩ rfl rfl (JQ.reg ttOk 1 [] [(24, .v (.bool (!(decide ((at' x0 x11) = (at' x1 x11))))))] rfl ⟨rfl, trivial⟩ (JQ.done rfl ?_))))))
        refine JS.cond rfl (fun ht41 => ?_) (fun ht41 => ?_)
        · have h := condT h ht41
          refine JS.seq (JS.region (JO.reg ttOk 1 [] [] [(4, .v (.bool false))] _ rfl ⟨⟨rfl, trivial⟩, rfl⟩ (JO.done rfl ?_)))
          cases h
          exact JS.ret ttOk () trivial rfl rfl [] rfl
        have h := condF h ht41
        refine JS.skip (JS.endB (JS.region (JO.reg ttOk 2 [(W (x11 + 1))] [] [(13, .v (.int .i64 (W (x11 + 1))))] _ rfl ⟨⟨trivial, rfl⟩, ⟨rfl, trivial⟩, rfl⟩ (JO.done rfl (JS.endL (n21, (W (x11 + 1))) h (Nat.lt_succ_self _) ⟨rfl, rfl, rfl, rfl, trivial⟩ trivial [0, 1] rfl [] rfl)))))
      have h := condF h ht42
      refine JS.exit rfl (JS.endJ () h trivial trivial [] rfl [] rfl)
    rintro _ h
    subst hj43
    refine JS.seq (JS.region (JO.reg ttOk 1 [] [] [(4, .v (.bool true))] _ rfl ⟨⟨rfl, trivial⟩, rfl⟩ (JO.done rfl ?_)))
    cases h
    exact JS.ret ttOk () trivial rfl rfl [] rfl

def M_i_SameGrid (x0 : Int × Int × List Int × Int × Int × Bool) (x1 : Int × Int × List Int × Int × Int × Bool) : Option Bool :=
  (callO ((bif (decide (x0.1 = x1.1)) then (decide (x0.2.1 = x1.2.1)) else false) = true) (M_i_sameInts x0.2.2.1 x1.2.2.1) false fun (y11 : Bool) =>
  some (bif (bif (bif (bif (bif (decide (x0.1 = x1.1)) then (decide (x0.2.1 = x1.2.1)) else false) then y11 else false) then (decide (x0.2.2.2.1 = x1.2.2.2.1)) else false) then (decide (x0.2.2.2.2.1 = x1.2.2.2.2.1)) else false) then (x0.2.2.2.2.2 == x1.2.2.2.2.2) else false))

theorem ok_i_SameGrid (x0 : Int × Int × List Int × Int × Int × Bool) (x1 : Int × Int × List Int × Int × Int × Bool) (a3 : Option Addr) (c4 : Nat) (l5 : Nat) (hl6 : x0.2.2.1.length = l5) (a7 : Option Addr) (c8 : Nat) (l9 : Nat) (hl10 : x1.2.2.1.length = l9) (r : Bool) (h : M_i_SameGrid x0 x1 = some r) :
    FC Try.prog 29 [.agg #[.int .i64 x0.1, .int .i64 x0.2.1, .slice a3 l5 c4, .int .i64 x0.2.2.2.1, .int .i64 x0.2.2.2.2.1, .bool x0.2.2.2.2.2], .agg #[.int .i64 x1.1, .int .i64 x1.2.1, .slice a7 l9 c8, .int .i64 x1.2.2.2.1, .int .i64 x1.2.2.2.2.1, .bool x1.2.2.2.2.2]] [⟨(.int .i64), ⟨a3, l5, c4⟩, x0.2.2.1⟩, ⟨(.int .i64), ⟨a7, l9, c8⟩, x1.2.2.1⟩] (fun _ : Unit => True) (fun _ => .bool r) (fun _ => []) :=
  by
    subst hl6
    subst hl10
    refine FC.of (T := TTx) Try.call29 Try.func29 rfl rfl fun w0 => ?_
    unfold M_i_SameGrid at h
    refine JS.seq (JS.region (JO.regB ttOk 3 [] [3, 4] [(2, .bp 3 0), (3, .bp 4 0)] (.new 3 26 (cl26 x0 a3 c4) (.new 4 26 (cl26 x1 a7 c8) .nil)) rfl ⟨⟨rfl, rfl, trivial⟩, ⟨rfl, rfl, rfl, rfl, rfl, rfl, rfl, rfl, trivial⟩⟩ (JO.done rfl (JS.seq (JS.region (JO.reg ttOk 17 [] [] [(17, .v (.bool (bif (decide (x0.1 = x1.1)) then (decide (x0.2.1 = x1.2.1)) else false))), (19, .cd [(17, true)] (.v (.slice a3 x0.2.2.1.length c4))), (21, .cd [(17, true)] (.v (.slice a7 x1.2.2.1.length c8)))] _ rfl ⟨⟨rfl, rfl, rfl, trivial⟩, rfl⟩ ?_))))))
    obtain ⟨y11, hy12, -, h⟩ := callO_some h
    refine JO.callg rfl rfl rfl rfl (fun q14 => ok_i_sameInts x0.2.2.1 x1.2.2.1 a3 c4 x0.2.2.1.length rfl a7 c8 x1.2.2.1.length rfl _ (hy12 q14)) rfl [0, 1] rfl rfl (JO.reg ttOk 23 [] [] [(4, .v (.bool (bif (bif (bif (bif (bif (decide (x0.1 = x1.1)) then (decide (x0.2.1 = x1.2.1)) else false) then y11 else false) then (decide (x0.2.2.2.1 = x1.2.2.2.1)) else false) then (decide (x0.2.2.2.2.1 = x1.2.2.2.2.1)) else false) then (x0.2.2.2.2.2 == x1.2.2.2.2.2) else false)))] _ rfl ⟨⟨rfl, trivial⟩, rfl⟩ (JO.done rfl ?_))
    cases h
    exact JS.ret ttOk () trivial rfl rfl [] rfl

def M_l_FnPutRune (x0 : List UInt8) : Option Bool :=
  (bif (decide (1048576 < (x0.length : Int))) then
  some true
  else
  (bindO (M_s_MakeTerminal x0) fun (y6, y7) =>
  (bindO (M_s_MakeRune x0) fun (y17 : Int) =>
  (bindO (M_i_EmitRunes ([y17] : List Int)) fun (y20 : List UInt8) =>
  (bindO (M_i_VtFeed (y6.1, y6.2.1, y6.2.2.1, ([] : List UInt8), y6.2.2.2.2) y20) fun (y24 : (Int × Int × List Int × Int × Int × Bool) × Int × List Int × List UInt8 × Int) =>
  (callO ((decide (0 < (y20.length : Int))) = true) (M_i_EmitCost y20) (0 : Int) fun (y32 : Int) =>
  (callO ((bif (decide (0 < (y20.length : Int))) then (decide (y32 = (y20.length : Int))) else false) = true) (M_i_GridPut y6.1 y17) ((0 : Int), (0 : Int), [], (0 : Int), (0 : Int), false) fun (y35 : Int × Int × List Int × Int × Int × Bool) =>
  (callO ((bif (decide (0 < (y20.length : Int))) then (decide (y32 = (y20.length : Int))) else false) = true) (M_i_SameGrid y24.1 y35) false fun (y43 : Bool) =>
  (callO ((bif (bif (decide (0 < (y20.length : Int))) then (decide (y32 = (y20.length : Int))) else false) then y43 else false) = true) (M_i_VtOk y24) false fun (y46 : Bool) =>
  some (bif (bif (bif (decide (0 < (y20.length : Int))) then (decide (y32 = (y20.length : Int))) else false) then y43 else false) then y46 else false))))))))))

theorem ok_l_FnPutRune (x0 : List UInt8) (a2 : Option Addr) (c3 : Nat) (l4 : Nat) (hl5 : x0.length = l4) (r : Bool) (h : M_l_FnPutRune x0 = some r) :
    FC Try.prog 6 [.slice a2 l4 c3] [⟨.byte, ⟨a2, l4, c3⟩, x0⟩] (fun _ : Unit => True) (fun _ => .bool r) (fun _ => []) :=
  by
    subst hl5
    refine FC.of (T := TTx) Try.call6 Try.func6 rfl rfl fun w0 => ?_
    unfold M_l_FnPutRune at h
    refine JS.seq (JS.region (JO.reg ttOk 1 [] [] [] _ rfl ⟨trivial, rfl⟩ (JO.done rfl (JS.seq (JS.seq (JS.region (JO.reg ttOk 3 [] [] [(10, .v (.bool (decide (1048576 < (x0.length : Int)))))] _ rfl ⟨⟨rfl, trivial⟩, rfl⟩ (JO.done rfl ?_))))))))
    refine JS.cond rfl (fun ht81 => ?_) (fun ht81 => ?_)
    · have h := condT h ht81
      refine JS.seq (JS.region (JO.reg ttOk 1 [] [] [(2, .v (.bool true))] _ rfl ⟨⟨rfl, trivial⟩, rfl⟩ (JO.done rfl ?_)))
      cases h
      exact JS.ret ttOk () trivial rfl rfl [] rfl
    have h := condF h ht81
    refine JS.skip (JS.seq (JS.region (JO.reg ttOk 1 [] [] [(12, .v (.slice a2 x0.length c3))] _ rfl ⟨⟨rfl, trivial⟩, rfl⟩ ?_)))
    obtain ⟨⟨y6, y7⟩, hy8, h⟩ := bindO_some h
    refine JO.call rfl rfl rfl rfl (ok_s_MakeTerminal x0 a2 c3 x0.length rfl _ hy8) rfl [0] rfl rfl ?_
    rintro ⟨a9, c10, a11, c12, a13, c14, a15, c16⟩ -
    refine JO.regB ttOk 7 [] [17, 18] [(3, .bp 17 0), (4, .bp 18 0)] (.new 17 45 (cl45 y6 a9 c10 a11 c12 a13 c14) .nil) rfl ⟨⟨rfl, rfl, trivial⟩, ⟨rfl, rfl, rfl, rfl, trivial⟩⟩ (JO.done rfl (JS.seq (JS.region (JO.regB ttOk 2 [] [] [] (.new 17 45 (cl45 (y6.1, y6.2.1, y6.2.2.1, [], y6.2.2.2.2) a9 c10 a11 c12 none 0) .nil) rfl ⟨trivial, ⟨rfl, rfl, rfl, rfl, trivial⟩⟩ (JO.done rfl (JS.seq (JS.region (JO.reg ttOk 1 [] [] [(17, .v (.slice a2 x0.length c3))] _ rfl ⟨⟨rfl, trivial⟩, rfl⟩ ?_))))))))
    obtain ⟨y17, hy18, h⟩ := bindO_some h
    refine JO.call rfl rfl rfl rfl (ok_s_MakeRune x0 a2 c3 x0.length rfl _ hy18) rfl [0] rfl rfl fun _ _ => JO.reg ttOk 1 [] [] [(5, .v (.int .i64 y17))] _ rfl ⟨⟨rfl, trivial⟩, rfl⟩ (JO.done rfl (JS.seq (JS.region (JO.reg ttOk 1 [] [] [(19, .v (.int .i64 y17))] _ rfl ⟨⟨rfl, trivial⟩, rfl⟩ ?_))))
    refine JO.ofK rfl (JK.buildSlice ttOk rfl rfl rfl rfl rfl rfl rfl rfl rfl rfl rfl [] rfl (.int .i64) [y17] ⟨rfl, rfl⟩ rfl rfl fun a19 => JO.toK ?_)
    obtain ⟨y20, hy21, h⟩ := bindO_some h
    refine JO.call rfl rfl rfl rfl (ok_i_EmitRunes ([y17] : List Int) a19 (([y17] : List Int).length) (([y17] : List Int).length) rfl _ hy21) rfl [1] rfl rfl ?_
    rintro ⟨a22, c23⟩ -
    refine JO.reg ttOk 1 [] [] [(6, .v (.slice a22 y20.length c23))] _ rfl ⟨⟨rfl, trivial⟩, rfl⟩ (JO.done rfl (JS.seq (JS.region (JO.reg ttOk 2 [] [] [(22, .v (.agg (cl45 (y6.1, y6.2.1, y6.2.2.1, [], y6.2.2.2.2) a9 c10 a11 c12 none 0).toArray)), (23, .v (.slice a22 y20.length c23))] _ rfl ⟨⟨rfl, rfl, trivial⟩, rfl⟩ ?_))))
    obtain ⟨y24, hy25, h⟩ := bindO_some h
    refine JO.nilR .byte Sl.nil rfl rfl (JO.call rfl rfl rfl rfl (ok_i_VtFeed (y6.1, y6.2.1, y6.2.2.1, ([] : List UInt8), y6.2.2.2.2) y20 a9 c10 y6.1.2.2.1.length rfl a11 c12 y6.2.2.1.length rfl none 0 (([] : List UInt8).length) rfl a22 c23 y20.length rfl _ hy25) rfl [4, 5, 0, 2] rfl rfl ?_)
    rintro ⟨a26, c27, a28, c29, a30, c31⟩ -
    refine JO.regB ttOk 2 [] [40] [(7, .bp 40 0)] (.new 17 45 (cl45 (y6.1, y6.2.1, y6.2.2.1, [], y6.2.2.2.2) a9 c10 a11 c12 none 0) (.new 40 45 (cl45 y24 a26 c27 a28 c29 a30 c31) .nil)) rfl ⟨⟨rfl, trivial⟩, ⟨rfl, rfl, rfl, rfl, rfl, rfl, rfl, rfl, trivial⟩⟩ (JO.done rfl (JS.seq ?_))
    obtain ⟨y32, hy33, -, h⟩ := callO_some h
    obtain ⟨y35, hy36, hd39, h⟩ := callO_some h
    obtain ⟨y43, hy44, -, h⟩ := callO_some h
    obtain ⟨y46, hy47, -, h⟩ := callO_some h
    refine JS.regionA rfl (.new 17 45 (cl45 (y6.1, y6.2.1, y6.2.2.1, [], y6.2.2.2.2) a9 c10 a11 c12 none 0) (.new 40 45 (cl45 y24 a26 c27 a28 c29 a30 c31) .nil)) [] [21, 22, 23] ⟨rfl, rfl, rfl, rfl, rfl, rfl, rfl, rfl, trivial⟩ rfl (fun be55 => ?_)
    refine JA.regL ttOk panic_cx 21 [0, 1, 2] rfl (by kernel_rfl) [] [(27, .v (.bool (decide (0 < (y20.length : Int)))))] rfl ⟨rfl, trivial⟩ (JA.reg ttOk panic_cx true 19 [3, 4] rfl (by kernel_rfl) [] [(28, .v (.bool (decide (0 < (y20.length : Int))))), (29, .cd [(28, true)] (.v (.slice a22 y20.length c23)))] ⟨rfl, rfl, rfl, rfl, rfl, rfl, rfl, rfl, trivial⟩ [] rfl rfl ⟨rfl, rfl, trivial⟩ (JA.regL ttOk panic_cx 17 [6, 7] rfl (by kernel_rfl) [] [(32, .cd [(28, true)] (.v (.int .i64 (y20.length : Int))))] rfl ⟨rfl, trivial⟩ (JA.one 5 (by kernel_rfl) (JK.callg rfl rfl rfl rfl (fun q75 => ok_i_EmitCost y20 a22 c23 y20.length rfl _ (hy33 q75)) rfl [5] rfl rfl (JA.next ⟨rfl, rfl, rfl, rfl, rfl, rfl, rfl, rfl, trivial⟩ [] rfl (JA.reg ttOk panic_cx true 8 [8, 9, 10, 11, 12, 13, 14, 15] rfl (by kernel_rfl) [] [(35, .v (.bool (bif (decide (0 < (y20.length : Int))) then (decide (y32 = (y20.length : Int))) else false))), (37, .cd [(35, true)] (.v (.agg (cl26 y24.1 a26 c27).toArray))), (39, .cd [(35, true)] (.v (.agg (cl26 y6.1 a9 c10).toArray))), (40, .cd [(35, true)] (.v (.int .i64 y17)))] ⟨rfl, rfl, rfl, rfl, rfl, rfl, rfl, rfl, trivial⟩ [] rfl rfl ⟨rfl, rfl, rfl, rfl, trivial⟩ (JA.one 16 (by kernel_rfl) (JK.callgF rfl rfl rfl rfl (fun q76 => ok_i_GridPut y6.1 y17 a9 c10 y6.1.2.2.1.length rfl _ (hy36 q76)) rfl [7] rfl rfl (none, 0) (fun q77 => by cases hd39 (fun q78 => q77 ⟨q78, trivial⟩); rfl) ?_))))))))
    rintro ⟨a37, c38⟩ -
    refine JA.next ⟨rfl, rfl, rfl, rfl, rfl, rfl, rfl, rfl, trivial⟩ [] rfl (JA.one 17 (by kernel_rfl) (JK.callg rfl rfl rfl rfl (fun q79 => ok_i_SameGrid y24.1 y35 a26 c27 y24.1.2.2.1.length rfl a37 c38 y35.2.2.1.length rfl _ (hy44 q79)) rfl [3, 2] rfl rfl (JA.next ⟨rfl, rfl, rfl, rfl, rfl, rfl, rfl, rfl, trivial⟩ [] rfl (JA.reg ttOk panic_cx true 3 [18, 19, 20] rfl (by kernel_rfl) [] [(44, .v (.bool (bif (bif (decide (0 < (y20.length : Int))) then (decide (y32 = (y20.length : Int))) else false) then y43 else false))), (45, .cd [(44, true)] (.v (.agg (cl45 y24 a26 c27 a28 c29 a30 c31).toArray)))] ⟨rfl, rfl, rfl, rfl, rfl, rfl, rfl, rfl, trivial⟩ [] rfl rfl ⟨rfl, rfl, trivial⟩ (JA.one 21 (by kernel_rfl) (JK.callg rfl rfl rfl rfl (fun q80 => ok_i_VtOk y24 a26 c27 y24.1.2.2.1.length rfl a28 c29 y24.2.2.1.length rfl a30 c31 y24.2.2.2.1.length rfl _ (hy47 q80)) rfl [3, 4, 5] rfl rfl (JA.nextL rfl (JA.regL ttOk panic_cx 0 [22, 23] rfl (by kernel_rfl) [] [(2, .v (.bool (bif (bif (bif (decide (0 < (y20.length : Int))) then (decide (y32 = (y20.length : Int))) else false) then y43 else false) then y46 else false)))] rfl ⟨rfl, trivial⟩ (JA.done (by kernel_rfl) (JS.boxes (B' := .nil) trivial ?_))))))))))
    cases h
    exact JS.ret ttOk () trivial rfl rfl [] rfl

end
end Go.Eng
