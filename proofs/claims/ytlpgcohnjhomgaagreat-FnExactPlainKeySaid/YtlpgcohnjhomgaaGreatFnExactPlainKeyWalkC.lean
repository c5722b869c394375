/- The walks of the functions that FnExactPlainKey reaches: what each computes, as a plain function (M_..), and that the model computes it (ok_..). Condition of each: that the plain function answers. -/
import Derived.Test.YtlpgcohnjhomgaaGreatFnExactPlainKeyWalkB
set_option linter.unusedVariables false
set_option linter.unusedSimpArgs false
namespace Go.Eng
open Go Go.Proofs
noncomputable section

def M_i_UndoPut (x0 : List (List Int × Int)) (x1 : List Int × Int) : Option ((List (List Int × Int)) × Bool) :=
  (bindO (M_i_UndoOk x0) fun (y11 : Bool) =>
  (callO ((!y11) = false) (M_i_LineOk x1) false fun (y13 : Bool) =>
  (bif (bif (!y11) then true else (!y13)) then
  some ([], false)
  else
  (bindO (M_i_copyUndo x0) fun (y16 : List (List Int × Int)) =>
  (guardO (((decide (0 < (y16.length : Int))) = true) → 0 ≤ (W ((y16.length : Int) - 1)) ∧ (W ((y16.length : Int) - 1)) < (y16.length : Int)) <|
  (callO ((decide (0 < (y16.length : Int))) = true) (M_i_sameInts ((at' y16 (W ((y16.length : Int) - 1))).1) x1.1) false fun (y30 : Bool) =>
  (bif (bif (decide (0 < (y16.length : Int))) then y30 else false) then
  some (y16, true)
  else
  (bindO (M_i_copyLine x1) fun (y45 : List Int × Int) =>
  (guardO (y16.length + ([y45] : List (List Int × Int)).length ≤ 536870912) <|
  (joinO (fun (x58 : List (List Int × Int)) =>
  some (x58, true)) fun j61 =>
  (bif (decide (20 < ((y16 ++ ([y45] : List (List Int × Int))).length : Int))) then
  (guardO (0 ≤ (1 : Int) ∧ (1 : Int) ≤ ((y16 ++ ([y45] : List (List Int × Int))).length : Int) ∧ ((y16 ++ ([y45] : List (List Int × Int))).length : Int) ≤ ((y16 ++ ([y45] : List (List Int × Int))).length : Int)) <|
  j61 (sub' (y16 ++ ([y45] : List (List Int × Int))) 1 ((y16 ++ ([y45] : List (List Int × Int))).length : Int)))
  else
  j61 (y16 ++ ([y45] : List (List Int × Int))))))))))))))

theorem ok_i_UndoPut (x0 : List (List Int × Int)) (x1 : List Int × Int) (a3 : Option Addr) (c4 : Nat) (l5 : Nat) (hl6 : x0.length = l5) (a7 : Option Addr) (c8 : Nat) (l9 : Nat) (hl10 : x1.1.length = l9) (r : (List (List Int × Int)) × Bool) (h : M_i_UndoPut x0 x1 = some r) :
  FC Tryz.prog 264 [.agg #[.slice a3 l5 c4], .agg #[.slice a7 l9 c8, .int .i64 x1.2]] [⟨(.pair (.sl (.int .i64)) (.int .i64)), ⟨a3, l5, c4⟩, x0⟩, ⟨(.int .i64), ⟨a7, l9, c8⟩, x1.1⟩] (fun _ : Option Addr × Nat => True) (fun q => .tuple #[.agg #[.slice q.1 r.1.length q.2], .bool r.2]) (fun q => [⟨(.pair (.sl (.int .i64)) (.int .i64)), ⟨q.1, r.1.length, q.2⟩, r.1⟩]) :=
 by
  subst hl6
  subst hl10
  refine FC.of (T := TTx) Tryz.call264 Tryz.func264 E E fun w0 => ?_
  unfold M_i_UndoPut at h
  refine JS.rgB ttOk 4 [] [3, 4, 5] [(2, .bp 3 0), (3, .bp 4 0), (4, .bp 5 0)] (.new 3 44 [.slice a3 x0.length c4] (.new 4 38 [.slice a7 x1.1.length c8, .int .i64 x1.2] (.new 5 44 [.slice none 0 0] .nil))) ⟨(Es E), (Bs E E)⟩ E E (JS.seq (JS.seq (JS.region (JO.reg ttOk 1 [] [] [(8, .v (.agg #[.slice a3 x0.length c4]))] _ E ⟨⟨E, V⟩, E⟩ ?_))))
  obtain ⟨y11, hy12, h⟩ := bindO_some h
  refine JO.call E E E E (ok_i_UndoOk x0 a3 c4 x0.length E _ hy12) E [0] E E fun _ _ => JO.reg ttOk 3 [] [] [(11, .v (.bool (!y11))), (12, .cd [(11, false)] (.v (.agg #[.slice a7 x1.1.length c8, .int .i64 x1.2])))] _ E ⟨(Es E), E⟩ ?_
  obtain ⟨y13, hy14, -, h⟩ := callO_some h
  refine JO.callg E E E E (fun q66 => ok_i_LineOk x1 a7 c8 x1.1.length E _ (hy14 q66)) E [1] E E (JO.reg ttOk 2 [] [] [(15, .v (.bool (bif (!y11) then true else (!y13))))] _ E ⟨⟨E, V⟩, E⟩ (JO.done E ?_))
  refine JS.cond E (fun ht88 => ?_) (fun ht88 => ?_)
  ·
   have h := condT h ht88
   refine JS.rgB ttOk 3 [] [] [(5, .v (.bool false))] (.new 5 44 [.slice none 0 0] .nil) ⟨⟨E, V⟩, (Bs E E)⟩ E E ?_
   cases h
   refine JS.nilO (.pair (.sl (.int .i64)) (.int .i64)) Sl.nil E E (JS.ret ttOk (none, 0) V E E [0] E)
  have h := condF h ht88
  refine JS.skip (JS.seq (JS.region (JO.reg ttOk 1 [] [] [(17, .v (.agg #[.slice a3 x0.length c4]))] _ E ⟨⟨E, V⟩, E⟩ ?_)))
  obtain ⟨y16, hy17, h⟩ := bindO_some h
  refine JO.call E E E E (ok_i_copyUndo x0 a3 c4 x0.length E _ hy17) E [0] E E ?_
  rintro ⟨a18, c19⟩ -
  refine JO.regB ttOk 2 [] [15] [(6, .bp 15 0)] (.new 4 38 [.slice a7 x1.1.length c8, .int .i64 x1.2] (.new 5 44 [.slice none 0 0] (.new 15 44 [.slice a18 y16.length c19] .nil))) E ⟨⟨E, V⟩, (Bs E E)⟩ (JO.done E (JS.seq (JS.rg0 ttOk 4 [(7, .v (I (y16.length : Int)))] ⟨⟨E, V⟩, E⟩ E E (JS.seq ?_))))
  obtain ⟨g22, h⟩ := guardO_some h
  obtain ⟨y30, hy31, -, h⟩ := callO_some h
  refine JS.ofO (id := 0) (JO.lend [0] E (Int.toNat (W ((y16.length : Int) - 1))) (at' y16 (W ((y16.length : Int) - 1))) E ?_)
  intro a25 c26 l27 hl28
  obtain rfl : ([.slice a25 ((at' y16 (W ((y16.length : Int) - 1))).1).length c26, .int .i64 (at' y16 (W ((y16.length : Int) - 1))).2] : List Value) = l27 := Option.some.inj hl28
  refine JO.ofS (JS.know 2 E fun hs80 => JS.regionQ E (by kernel_rfl) (JQ.reg ttOk 9 [(W ((y16.length : Int) - 1))] [(24, .v (.bool (decide (0 < (y16.length : Int))))), (30, .cd [(24, true)] (.ep ⟨a18, y16.length, c19⟩ (Int.toNat (W ((y16.length : Int) - 1)) * 2)))] E ⟨(fun q79 => ⟨V, E⟩), (fun q81 => (hs80.cast (lentL_len _ _ _)).ix (g22 q81)), (fun q82 => (hs80.cast (lentL_len _ _ _)).fa (g22 q82)), (Es E)⟩ (JQ.loadV ttOk E E E E E E 2 E E (Int.toNat (W ((y16.length : Int) - 1))) 0 (Sum.inr [.slice a25 ((at' y16 (W ((y16.length : Int) - 1))).1).length c26, .int .i64 (at' y16 (W ((y16.length : Int) - 1))).2]) (fun q83 => ⟨lentL_at (at_some (g22 q83)), E⟩) E E E (JQ.reg ttOk 2 [] [(33, .cd [(24, true)] (.v (.slice a7 x1.1.length c8)))] E ⟨E, V⟩ (JQ.call E E E E (fun q84 => ok_i_sameInts ((at' y16 (W ((y16.length : Int) - 1))).1) x1.1 a25 c26 (((at' y16 (W ((y16.length : Int) - 1))).1).length) E a7 c8 x1.1.length E _ (hy31 q84)) E [3, 1] E E (JQ.reg ttOk 1 [] [(35, .v (.bool (bif (decide (0 < (y16.length : Int))) then y30 else false)))] E ⟨E, V⟩ (JQ.done E ?_)))))))
  refine JS.ofO (id := 0) (JO.unlend0 [0, 0] E (at' y16 (W ((y16.length : Int) - 1))) E ⟨E, E, E⟩ (JO.ofS ?_))
  refine JS.cond E (fun ht87 => ?_) (fun ht87 => ?_)
  ·
   have h := condT h ht87
   refine JS.rgB ttOk 3 [] [] [(5, .v (.bool true))] (.new 5 44 [.slice a18 y16.length c19] .nil) ⟨⟨E, V⟩, (Bs E E)⟩ E E ?_
   cases h
   exact JS.ret ttOk (a18, c19) V E E [0] E
  have h := condF h ht87
  refine JS.skip (JS.seq ?_)
  obtain ⟨y45, hy46, h⟩ := bindO_some h
  obtain ⟨g50, h⟩ := guardO_some h
  refine JS.regionA E (.new 4 38 [.slice a7 x1.1.length c8, .int .i64 x1.2] (.new 15 44 [.slice a18 y16.length c19] .nil)) [] [5, 6, 7] ⟨E, E, E, E, E, E, E, E, V⟩ E (fun be53 => ?_)
  refine JA.reg ttOk panic_cx true 5 [0, 1, 2] E (by kernel_rfl) [] [(38, .v (.slice a18 y16.length c19)), (39, .v (.agg #[.slice a7 x1.1.length c8, .int .i64 x1.2]))] ⟨E, E, E, E, E, E, E, E, V⟩ [] E E (Es E) (JA.one 3 (by kernel_rfl) (JK.call E E E E (ok_i_copyLine x1 a7 c8 x1.1.length E _ hy46) E [1] E E ?_))
  rintro ⟨a47, c48⟩ -
  refine JA.next ⟨E, E, E, E, E, E, E, E, V⟩ [] E (JA.one 4 (by kernel_rfl) (JK.buildSlice ttOk E E E E E E E E E E E [0] E (.pair (.sl (.int .i64)) (.int .i64)) [y45] ⟨E, E, E⟩ E E fun a49 => JA.next ⟨E, E, E, E, E, E, E, E, V⟩ [] E (JA.one 5 (by kernel_rfl) (JK.appendO' ttOk E E E E ⟨E, E, E, E, V, E, E, E, E⟩ E E [1, 0] E g50 E fun a51 c52 => JA.nextL E (JA.regL ttOk panic_cx 1 [6] E (by kernel_rfl) [] [(43, .bp 15 0)] E ⟨E, V⟩ (JA.one 7 (by kernel_rfl) (JK.stBox ttOk E E E E E E E E (JA.nextL E (JA.done (by kernel_rfl) (JS.boxes (B' := (.new 5 44 [.slice none 0 0] (.new 15 44 [.slice a51 (y16 ++ ([y45] : List (List Int × Int))).length c52] .nil))) (Bs E E) ?_))))))))))
  obtain ⟨j61, hj86, h⟩ := joinO_some h
  refine JS.seqJ (ι := (List (List Int × Int)) × Option Addr × Nat) ⟨fun z => j61 z.1 = some r, fun z => [(4, .bp 5 0), (6, .bp 15 0)], fun z => (.new 5 44 [.slice none 0 0] (.new 15 44 [.slice z.2.1 z.1.length z.2.2] .nil)), fun z => [], fun z => [⟨(.pair (.sl (.int .i64)) (.int .i64)), ⟨z.2.1, z.1.length, z.2.2⟩, z.1⟩], fun z => 0⟩ ?_ ?_
  ·
   refine JS.rg0 ttOk 4 [(47, .v (.bool (decide (20 < ((y16 ++ ([y45] : List (List Int × Int))).length : Int)))))] ⟨⟨E, V⟩, E⟩ E E ?_
   refine JS.cond E (fun ht85 => ?_) (fun ht85 => ?_)
   ·
    have h := condT h ht85
    refine JS.region (JO.reg ttOk 2 [] [] [(49, .v (.slice a51 (y16 ++ ([y45] : List (List Int × Int))).length c52))] _ E ⟨⟨E, V⟩, E⟩ ?_)
    obtain ⟨g54, h⟩ := guardO_some h
    refine JO.sliceO' ttOk E E E E E E E E [0] E (1 : Int) ((y16 ++ ([y45] : List (List Int × Int))).length : Int) E E g54 E fun a55 c56 => JO.regB ttOk 2 [] [] [] (.new 5 44 [.slice none 0 0] (.new 15 44 [.slice a55 (sub' (y16 ++ ([y45] : List (List Int × Int))) 1 ((y16 ++ ([y45] : List (List Int × Int))).length : Int)).length c56] .nil)) E ⟨V, (Bs E E)⟩ (JO.done E (JS.endJ ((sub' (y16 ++ ([y45] : List (List Int × Int))) 1 ((y16 ++ ([y45] : List (List Int × Int))).length : Int)), a55, c56) h (Es E) (Bs E E) [] E [0] E))
   have h := condF h ht85
   refine JS.skip (JS.endJ ((y16 ++ ([y45] : List (List Int × Int))), a51, c52) h (Es E) (Bs E E) [] E [0] E)
  rintro ⟨x58, a59, c60⟩ h
  subst hj86
  refine JS.rgB ttOk 3 [] [] [(5, .v (.bool true))] (.new 5 44 [.slice a59 x58.length c60] .nil) ⟨⟨E, V⟩, (Bs E E)⟩ E E ?_
  cases h
  exact JS.ret ttOk (a59, c60) V E E [0] E

def M_i_set (x0 : EdQ) (x1 : List Int × Int) (x2 : Int) : Option EdQ :=
  (bindO (M_i_settled x0 x2) fun (y32 : EdQ) =>
  (joinO (fun (x54 : List (List Int × Int)) =>
  (bindO (M_i_copyLine x1) fun (y59 : List Int × Int) =>
  (bindO (M_i_inCommand y59 x0.2.1) fun (y63 : List Int × Int) =>
  some (y32.1, y32.2.1, (y59.1, y63.2), y32.2.2.2.1, y32.2.2.2.2.1, y32.2.2.2.2.2.1, y32.2.2.2.2.2.2.1, y32.2.2.2.2.2.2.2.1, y32.2.2.2.2.2.2.2.2.1, y32.2.2.2.2.2.2.2.2.2.1, y32.2.2.2.2.2.2.2.2.2.2.1, x54, y32.2.2.2.2.2.2.2.2.2.2.2.2.1, y32.2.2.2.2.2.2.2.2.2.2.2.2.2.1, y32.2.2.2.2.2.2.2.2.2.2.2.2.2.2.1, y32.2.2.2.2.2.2.2.2.2.2.2.2.2.2.2.1, y32.2.2.2.2.2.2.2.2.2.2.2.2.2.2.2.2)))) fun j57 =>
  (bindO (M_i_sameInts x1.1 x0.2.2.1.1) fun (y46 : Bool) =>
  (bif (bif (!y46) then (!(bif (decide (x2 = 1)) then (decide (x0.2.2.2.2.2.2.2.2.2.1 = 1)) else false)) else false) then
  (bindO (M_i_UndoPut x0.2.2.2.2.2.2.2.2.2.2.2.1 x0.2.2.1) fun (y48, y49) =>
  j57 y48)
  else
  j57 y32.2.2.2.2.2.2.2.2.2.2.2.1))))

theorem ok_i_set (x0 : EdQ) (x1 : List Int × Int) (x2 : Int) (a4 : Option Addr) (c5 : Nat) (l6 : Nat) (hl7 : x0.2.2.1.1.length = l6) (a8 : Option Addr) (c9 : Nat) (l10 : Nat) (hl11 : (Q8 x0).2.2.1.length = l10) (a12 : Option Addr) (c13 : Nat) (l14 : Nat) (hl15 : (Q8 x0).2.2.2.1.length = l14) (a16 : Option Addr) (c17 : Nat) (l18 : Nat) (hl19 : (Q12 x0).2.1.1.length = l18) (a20 : Option Addr) (c21 : Nat) (l22 : Nat) (hl23 : (Q12 x0).2.2.1.length = l22) (a24 : Option Addr) (c25 : Nat) (l26 : Nat) (hl27 : (Q16 x0).1.length = l26) (a28 : Option Addr) (c29 : Nat) (l30 : Nat) (hl31 : x1.1.length = l30) (r : EdQ) (h : M_i_set x0 x1 x2 = some r) :
  FC Tryz.prog 203 [.agg #[.bool x0.1, .int .i64 x0.2.1, .slice a4 l6 c5, .int .i64 x0.2.2.1.2, .int .i64 x0.2.2.2.1, .int .i64 (Q4 x0).1, .int .i64 (Q4 x0).2.1, .int .i64 (Q4 x0).2.2.1, .int .i64 (Q4 x0).2.2.2.1, .int .i64 (Q8 x0).1, .int .i64 (Q8 x0).2.1, .slice a8 l10 c9, .slice a12 l14 c13, .int .i64 (Q12 x0).1, .slice a16 l18 c17, .int .i64 (Q12 x0).2.1.2, .slice a20 l22 c21, .int .i64 (Q12 x0).2.2.2.1, .slice a24 l26 c25, .int .i64 (Q16 x0).2], .agg #[.slice a28 l30 c29, .int .i64 x1.2], .int .i64 x2] [⟨(.int .i64), ⟨a4, l6, c5⟩, x0.2.2.1.1⟩, ⟨(.sl (.int .i64)), ⟨a8, l10, c9⟩, (Q8 x0).2.2.1⟩, ⟨(.pair (.sl (.int .i64)) (.int .i64)), ⟨a12, l14, c13⟩, (Q8 x0).2.2.2.1⟩, ⟨(.int .i64), ⟨a16, l18, c17⟩, (Q12 x0).2.1.1⟩, ⟨(.int .i64), ⟨a20, l22, c21⟩, (Q12 x0).2.2.1⟩, ⟨(.int .i64), ⟨a24, l26, c25⟩, (Q16 x0).1⟩, ⟨(.int .i64), ⟨a28, l30, c29⟩, x1.1⟩] (fun _ : Option Addr × Nat × Option Addr × Nat × Option Addr × Nat × Option Addr × Nat × Option Addr × Nat × Option Addr × Nat => True) (fun q => .agg (cl46 r q.1 q.2.1 q.2.2.1 q.2.2.2.1 (Q4 q).1 (Q4 q).2.1 (Q4 q).2.2.1 (Q4 q).2.2.2.1 (Q8 q).1 (Q8 q).2.1 (Q8 q).2.2.1 (Q8 q).2.2.2).toArray) (fun q => (fl32 r q.1 q.2.1 q.2.2.1 q.2.2.2.1 (Q4 q).1 (Q4 q).2.1 (Q4 q).2.2.1 (Q4 q).2.2.2.1 (Q8 q).1 (Q8 q).2.1 (Q8 q).2.2.1 (Q8 q).2.2.2 [])) :=
 by
  subst hl7
  subst hl11
  subst hl15
  subst hl19
  subst hl23
  subst hl27
  subst hl31
  refine FC.of (T := TTx) Tryz.call203 Tryz.func203 E E fun w0 => ?_
  unfold M_i_set at h
  refine JS.rgB ttOk 3 [] [8, 9, 10] [(3, .bp 8 0), (4, .bp 9 0), (6, .bp 10 0)] (.new 8 46 (cl46 x0 a4 c5 a8 c9 a12 c13 a16 c17 a20 c21 a24 c25) (.new 9 38 [.slice a28 x1.1.length c29, .int .i64 x1.2] (.new 10 46 cz46 .nil))) ⟨(Es E), (Bs E E)⟩ E E (JS.seq (JS.region (JO.reg ttOk 2 [] [] [(8, .v (.agg (cl46 x0 a4 c5 a8 c9 a12 c13 a16 c17 a20 c21 a24 c25).toArray)), (9, .v (I x2))] _ E ⟨(Es E), E⟩ ?_)))
  obtain ⟨y32, hy33, h⟩ := bindO_some h
  refine JO.call E E E E (ok_i_settled x0 x2 a4 c5 x0.2.2.1.1.length E a8 c9 (Q8 x0).2.2.1.length E a12 c13 (Q8 x0).2.2.2.1.length E a16 c17 (Q12 x0).2.1.1.length E a20 c21 (Q12 x0).2.2.1.length E a24 c25 (Q16 x0).1.length E _ hy33) E [0, 1, 2, 3, 4, 5] E E ?_
  rintro ⟨a34, c35, a36, c37, a38, c39, a40, c41, a42, c43, a44, c45⟩ -
  refine JO.regB ttOk 2 [] [31] [(7, .bp 31 0)] (.new 8 46 (cl46 x0 a4 c5 a8 c9 a12 c13 a16 c17 a20 c21 a24 c25) (.new 9 38 [.slice a28 x1.1.length c29, .int .i64 x1.2] (.new 10 46 cz46 (.new 31 46 (cl46 y32 a34 c35 a36 c37 a38 c39 a40 c41 a42 c43 a44 c45) .nil)))) E ⟨⟨E, V⟩, (Bs E E)⟩ (JO.done E ?_)
  obtain ⟨j57, hj68, h⟩ := joinO_some h
  refine JS.seqJ (ι := (List (List Int × Int)) × Option Addr × Nat) ⟨fun z => j57 z.1 = some r, fun z => [(3, .bp 8 0), (4, .bp 9 0), (6, .bp 10 0), (7, .bp 31 0)], fun z => (.new 8 46 (cl46 x0 a4 c5 a8 c9 a12 c13 a16 c17 a20 c21 a24 c25) (.new 9 38 [.slice a28 x1.1.length c29, .int .i64 x1.2] (.new 10 46 cz46 (.new 31 46 (cl46 (y32.1, y32.2.1, y32.2.2.1, y32.2.2.2.1, (Q4 y32).1, (Q4 y32).2.1, (Q4 y32).2.2.1, (Q4 y32).2.2.2.1, (Q8 y32).1, (Q8 y32).2.1, (Q8 y32).2.2.1, z.1, (Q12 y32).1, (Q12 y32).2.1, (Q12 y32).2.2.1, (Q12 y32).2.2.2.1, (Q16 y32)) a34 c35 a36 c37 z.2.1 z.2.2 a40 c41 a42 c43 a44 c45) .nil)))), fun z => (fl32 x0 a4 c5 a8 c9 a12 c13 a16 c17 a20 c21 a24 c25 [⟨(.int .i64), ⟨a28, x1.1.length, c29⟩, x1.1⟩]), fun z => [⟨(.pair (.sl (.int .i64)) (.int .i64)), ⟨z.2.1, z.1.length, z.2.2⟩, z.1⟩, ⟨(.int .i64), ⟨a34, y32.2.2.1.1.length, c35⟩, y32.2.2.1.1⟩, ⟨(.sl (.int .i64)), ⟨a36, (Q8 y32).2.2.1.length, c37⟩, (Q8 y32).2.2.1⟩, ⟨(.int .i64), ⟨a40, (Q12 y32).2.1.1.length, c41⟩, (Q12 y32).2.1.1⟩, ⟨(.int .i64), ⟨a42, (Q12 y32).2.2.1.length, c43⟩, (Q12 y32).2.2.1⟩, ⟨(.int .i64), ⟨a44, (Q16 y32).1.length, c45⟩, (Q16 y32).1⟩], fun z => 0⟩ ?_ ?_
  ·
   refine JS.seq (JS.region (JO.reg ttOk 5 [] [] [(12, .v (.slice a28 x1.1.length c29)), (15, .v (.slice a4 x0.2.2.1.1.length c5))] _ E ⟨(Es E), E⟩ ?_))
   obtain ⟨y46, hy47, h⟩ := bindO_some h
   refine JO.call E E E E (ok_i_sameInts x1.1 x0.2.2.1.1 a28 c29 x1.1.length E a4 c5 x0.2.2.1.1.length E _ hy47) E [6, 0] E E fun _ _ => JO.reg ttOk 11 [] [] [(27, .v (.bool (bif (!y46) then (!(bif (decide (x2 = 1)) then (decide ((Q8 x0).2.1 = 1)) else false)) else false)))] _ E ⟨⟨E, V⟩, E⟩ (JO.done E ?_)
   refine JS.cond E (fun ht67 => ?_) (fun ht67 => ?_)
   ·
    have h := condT h ht67
    refine JS.region (JO.reg ttOk 4 [] [] [(30, .v (.agg #[.slice a12 (Q8 x0).2.2.2.1.length c13])), (32, .v (.agg #[.slice a4 x0.2.2.1.1.length c5, .int .i64 x0.2.2.1.2]))] _ E ⟨(Es E), E⟩ ?_)
    obtain ⟨⟨y48, y49⟩, hy50, h⟩ := bindO_some h
    refine JO.call E E E E (ok_i_UndoPut (Q8 x0).2.2.2.1 x0.2.2.1 a12 c13 (Q8 x0).2.2.2.1.length E a4 c5 x0.2.2.1.1.length E _ hy50) E [2, 0] E E ?_
    rintro ⟨a51, c52⟩ -
    refine JO.regB ttOk 5 [] [] [] (.new 8 46 (cl46 x0 a4 c5 a8 c9 a12 c13 a16 c17 a20 c21 a24 c25) (.new 9 38 [.slice a28 x1.1.length c29, .int .i64 x1.2] (.new 10 46 cz46 (.new 31 46 (cl46 (y32.1, y32.2.1, y32.2.2.1, y32.2.2.2.1, (Q4 y32).1, (Q4 y32).2.1, (Q4 y32).2.2.1, (Q4 y32).2.2.2.1, (Q8 y32).1, (Q8 y32).2.1, (Q8 y32).2.2.1, y48, (Q12 y32).1, (Q12 y32).2.1, (Q12 y32).2.2.1, (Q12 y32).2.2.2.1, (Q16 y32)) a34 c35 a36 c37 a51 c52 a40 c41 a42 c43 a44 c45) .nil)))) E ⟨V, (Bs E E)⟩ (JO.done E (JS.endJA (y48, a51, c52) h (Es E) (Bs E E) [0, 1, 2, 3, 4, 5, 6] E [0, 1, 2, 4, 5, 6] E E))
   have h := condF h ht67
   refine JS.skip (JS.endJA ((Q8 y32).2.2.2.1, a38, c39) h (Es E) (Bs E E) [0, 1, 2, 3, 4, 5, 6] E [2, 0, 1, 3, 4, 5] E E)
  rintro ⟨x54, a55, c56⟩ h
  subst hj68
  refine JS.seq ?_
  obtain ⟨y59, hy60, h⟩ := bindO_some h
  obtain ⟨y63, hy64, h⟩ := bindO_some h
  refine JS.regionA E (.new 8 46 (cl46 x0 a4 c5 a8 c9 a12 c13 a16 c17 a20 c21 a24 c25) (.new 9 38 [.slice a28 x1.1.length c29, .int .i64 x1.2] .nil)) [] [4, 5, 6] ⟨E, E, E, E, E, E, E, E, V⟩ E (fun be65 => ?_)
  refine JA.reg ttOk panic_cx true 4 [0, 2, 3] E (by kernel_rfl) [] [(37, .v (.agg #[.slice a28 x1.1.length c29, .int .i64 x1.2])), (40, .v (I x0.2.1))] ⟨E, E, E, E, E, E, E, E, V⟩ [] E E (Es E) (JA.one 1 (by kernel_rfl) (JK.call E E E E (ok_i_copyLine x1 a28 c29 x1.1.length E _ hy60) E [6] E E ?_))
  rintro ⟨a61, c62⟩ -
  refine JA.next ⟨E, E, E, E, E, E, E, E, V⟩ [] E (JA.one 4 (by kernel_rfl) (JK.call E E E E (ok_i_inCommand y59 x0.2.1 a61 c62 y59.1.length E _ hy64) E [7] E E fun _ _ => JA.nextL E (JA.regL ttOk panic_cx 1 [5] E (by kernel_rfl) [] [(42, .bp 31 2)] E ⟨E, V⟩ (JA.one 6 (by kernel_rfl) (JK.stBox ttOk E E E E E E E E (JA.nextL E (JA.done (by kernel_rfl) (JS.boxes (B' := (.new 10 46 cz46 (.new 31 46 (cl46 (y32.1, y32.2.1, (y59.1, y63.2), y32.2.2.2.1, (Q4 y32).1, (Q4 y32).2.1, (Q4 y32).2.2.1, (Q4 y32).2.2.2.1, (Q8 y32).1, (Q8 y32).2.1, (Q8 y32).2.2.1, x54, (Q12 y32).1, (Q12 y32).2.1, (Q12 y32).2.2.1, (Q12 y32).2.2.2.1, (Q16 y32)) a61 c62 a36 c37 a55 c56 a40 c41 a42 c43 a44 c45) .nil))) (Bs E E) (JS.rgB ttOk 2 [] [] [] (.new 10 46 (cl46 (y32.1, y32.2.1, (y59.1, y63.2), y32.2.2.2.1, (Q4 y32).1, (Q4 y32).2.1, (Q4 y32).2.2.1, (Q4 y32).2.2.2.1, (Q8 y32).1, (Q8 y32).2.1, (Q8 y32).2.2.1, x54, (Q12 y32).1, (Q12 y32).2.1, (Q12 y32).2.2.1, (Q12 y32).2.2.2.1, (Q16 y32)) a61 c62 a36 c37 a55 c56 a40 c41 a42 c43 a44 c45) .nil) ⟨V, (Bs E E)⟩ E E ?_)))))))))
  cases h
  exact JS.ret ttOk (a61, c62, a36, c37, a55, c56, a40, c41, a42, c43, a44, c45) V E E [0, 2, 0, 1, 1, 1] E

def M_i_put (x0 : EdQ) (x1 : List Int × Int) : Option (EdQ × Int) :=
  (bindO (M_i_set x0 x1 0) fun (y31 : EdQ) =>
  some (y31, 0))

theorem ok_i_put (x0 : EdQ) (x1 : List Int × Int) (a3 : Option Addr) (c4 : Nat) (l5 : Nat) (hl6 : x0.2.2.1.1.length = l5) (a7 : Option Addr) (c8 : Nat) (l9 : Nat) (hl10 : (Q8 x0).2.2.1.length = l9) (a11 : Option Addr) (c12 : Nat) (l13 : Nat) (hl14 : (Q8 x0).2.2.2.1.length = l13) (a15 : Option Addr) (c16 : Nat) (l17 : Nat) (hl18 : (Q12 x0).2.1.1.length = l17) (a19 : Option Addr) (c20 : Nat) (l21 : Nat) (hl22 : (Q12 x0).2.2.1.length = l21) (a23 : Option Addr) (c24 : Nat) (l25 : Nat) (hl26 : (Q16 x0).1.length = l25) (a27 : Option Addr) (c28 : Nat) (l29 : Nat) (hl30 : x1.1.length = l29) (r : EdQ × Int) (h : M_i_put x0 x1 = some r) :
  FC Tryz.prog 169 [.agg #[.bool x0.1, .int .i64 x0.2.1, .slice a3 l5 c4, .int .i64 x0.2.2.1.2, .int .i64 x0.2.2.2.1, .int .i64 (Q4 x0).1, .int .i64 (Q4 x0).2.1, .int .i64 (Q4 x0).2.2.1, .int .i64 (Q4 x0).2.2.2.1, .int .i64 (Q8 x0).1, .int .i64 (Q8 x0).2.1, .slice a7 l9 c8, .slice a11 l13 c12, .int .i64 (Q12 x0).1, .slice a15 l17 c16, .int .i64 (Q12 x0).2.1.2, .slice a19 l21 c20, .int .i64 (Q12 x0).2.2.2.1, .slice a23 l25 c24, .int .i64 (Q16 x0).2], .agg #[.slice a27 l29 c28, .int .i64 x1.2]] [⟨(.int .i64), ⟨a3, l5, c4⟩, x0.2.2.1.1⟩, ⟨(.sl (.int .i64)), ⟨a7, l9, c8⟩, (Q8 x0).2.2.1⟩, ⟨(.pair (.sl (.int .i64)) (.int .i64)), ⟨a11, l13, c12⟩, (Q8 x0).2.2.2.1⟩, ⟨(.int .i64), ⟨a15, l17, c16⟩, (Q12 x0).2.1.1⟩, ⟨(.int .i64), ⟨a19, l21, c20⟩, (Q12 x0).2.2.1⟩, ⟨(.int .i64), ⟨a23, l25, c24⟩, (Q16 x0).1⟩, ⟨(.int .i64), ⟨a27, l29, c28⟩, x1.1⟩] (fun _ : Option Addr × Nat × Option Addr × Nat × Option Addr × Nat × Option Addr × Nat × Option Addr × Nat × Option Addr × Nat => True) (fun q => .tuple #[.agg (cl46 r.1 q.1 q.2.1 q.2.2.1 q.2.2.2.1 (Q4 q).1 (Q4 q).2.1 (Q4 q).2.2.1 (Q4 q).2.2.2.1 (Q8 q).1 (Q8 q).2.1 (Q8 q).2.2.1 (Q8 q).2.2.2).toArray, .int .i64 r.2]) (fun q => (fl32 r.1 q.1 q.2.1 q.2.2.1 q.2.2.2.1 (Q4 q).1 (Q4 q).2.1 (Q4 q).2.2.1 (Q4 q).2.2.2.1 (Q8 q).1 (Q8 q).2.1 (Q8 q).2.2.1 (Q8 q).2.2.2 [])) :=
 by
  subst hl6
  subst hl10
  subst hl14
  subst hl18
  subst hl22
  subst hl26
  subst hl30
  refine FC.of (T := TTx) Tryz.call169 Tryz.func169 E E fun w0 => ?_
  unfold M_i_put at h
  refine JS.rgB ttOk 4 [] [8, 9, 10] [(2, .bp 8 0), (3, .bp 9 0), (4, .bp 10 0)] (.new 8 46 (cl46 x0 a3 c4 a7 c8 a11 c12 a15 c16 a19 c20 a23 c24) (.new 9 38 [.slice a27 x1.1.length c28, .int .i64 x1.2] (.new 10 46 cz46 .nil))) ⟨(Es E), (Bs E E)⟩ E E (JS.seq (JS.region (JO.reg ttOk 2 [] [] [(6, .v (.agg (cl46 x0 a3 c4 a7 c8 a11 c12 a15 c16 a19 c20 a23 c24).toArray)), (7, .v (.agg #[.slice a27 x1.1.length c28, .int .i64 x1.2]))] _ E ⟨(Es E), E⟩ ?_)))
  obtain ⟨y31, hy32, h⟩ := bindO_some h
  refine JO.call E E E E (ok_i_set x0 x1 0 a3 c4 x0.2.2.1.1.length E a7 c8 (Q8 x0).2.2.1.length E a11 c12 (Q8 x0).2.2.2.1.length E a15 c16 (Q12 x0).2.1.1.length E a19 c20 (Q12 x0).2.2.1.length E a23 c24 (Q16 x0).1.length E a27 c28 x1.1.length E _ hy32) E [0, 1, 2, 3, 4, 5, 6] E E ?_
  rintro ⟨a33, c34, a35, c36, a37, c38, a39, c40, a41, c42, a43, c44⟩ -
  refine JO.regB ttOk 2 [] [] [(5, .v (I 0))] (.new 10 46 (cl46 y31 a33 c34 a35 c36 a37 c38 a39 c40 a41 c42 a43 c44) .nil) E ⟨⟨E, V⟩, (Bs E E)⟩ (JO.done E ?_)
  cases h
  exact JS.ret ttOk (a33, c34, a35, c36, a37, c38, a39, c40, a41, c42, a43, c44) V E E [0, 0, 0, 0, 0, 0] E

def M_i_inLine (x0 : List Int × Int) (x1 : Int) (x2 : Int) : Option Bool :=
  (bindO (M_i_LineOk x0) fun (y8 : Bool) =>
  some (bif (bif (bif y8 then (decide (0 ≤ x1)) else false) then (decide (x1 ≤ x2)) else false) then (decide (x2 ≤ (x0.1.length : Int))) else false))

theorem ok_i_inLine (x0 : List Int × Int) (x1 : Int) (x2 : Int) (a4 : Option Addr) (c5 : Nat) (l6 : Nat) (hl7 : x0.1.length = l6) (r : Bool) (h : M_i_inLine x0 x1 x2 = some r) :
  FC Tryz.prog 260 [.agg #[.slice a4 l6 c5, .int .i64 x0.2], .int .i64 x1, .int .i64 x2] [⟨(.int .i64), ⟨a4, l6, c5⟩, x0.1⟩] (fun _ : Unit => True) (fun _ => .bool r) (fun _ => []) :=
 by
  subst hl7
  refine FC.of (T := TTx) Tryz.call260 Tryz.func260 E E fun w0 => ?_
  unfold M_i_inLine at h
  refine JS.rgB ttOk 2 [] [2] [(3, .bp 2 0)] (.new 2 38 [.slice a4 x0.1.length c5, .int .i64 x0.2] .nil) ⟨⟨E, V⟩, (Bs E E)⟩ E E (JS.seq (JS.region (JO.reg ttOk 1 [] [] [(7, .v (.agg #[.slice a4 x0.1.length c5, .int .i64 x0.2]))] _ E ⟨⟨E, V⟩, E⟩ ?_)))
  obtain ⟨y8, hy9, h⟩ := bindO_some h
  refine JO.call E E E E (ok_i_LineOk x0 a4 c5 x0.1.length E _ hy9) E [0] E E fun _ _ => JO.reg ttOk 17 [] [] [(6, .v (.bool (bif (bif (bif y8 then (decide (0 ≤ x1)) else false) then (decide (x1 ≤ x2)) else false) then (decide (x2 ≤ (x0.1.length : Int))) else false)))] _ E ⟨⟨E, V⟩, E⟩ (JO.done E ?_)
  cases h
  exact JS.ret ttOk () V E E [] E

def M_i_LineCut (x0 : List Int × Int) (x1 : Int) (x2 : Int) : Option ((List Int × Int) × List Int × Bool) :=
  (bindO (M_i_inLine x0 x1 x2) fun (y8 : Bool) =>
  (bif (!y8) then
  some (([], 0), [], false)
  else
  (joinO (fun (x32 : List Int) =>
  (joinO (fun (x41 : Int) =>
  (guardO (0 ≤ x1 ∧ x1 ≤ x2 ∧ x2 ≤ (x0.1.length : Int)) <|
  (bindO (M_i_copyInts (sub' x0.1 x1 x2)) fun (y50 : List Int) =>
  some ((x32, x41), y50, true)))) fun j42 =>
  (bif (decide (x2 ≤ x0.2)) then
  j42 (W (x0.2 - (W (x2 - x1))))
  else
  (bif (decide (x1 < x0.2)) then
  j42 x1
  else
  j42 x0.2)))) fun j35 =>
  (guardO (0 ≤ (0 : Int) ∧ (0 : Int) ≤ x1 ∧ x1 ≤ (x0.1.length : Int)) <|
  (bindO (M_i_copyInts (sub' x0.1 (0 : Int) x1)) fun (y15 : List Int) =>
  (guardO (0 ≤ x2 ∧ x2 ≤ (x0.1.length : Int) ∧ (x0.1.length : Int) ≤ (x0.1.length : Int)) <|
  (guardO (y15.length + (sub' x0.1 x2 (x0.1.length : Int)).length ≤ 536870912) <|
  j35 (y15 ++ (sub' x0.1 x2 (x0.1.length : Int))))))))))

theorem ok_i_LineCut (x0 : List Int × Int) (x1 : Int) (x2 : Int) (a4 : Option Addr) (c5 : Nat) (l6 : Nat) (hl7 : x0.1.length = l6) (r : (List Int × Int) × List Int × Bool) (h : M_i_LineCut x0 x1 x2 = some r) :
  FC Tryz.prog 202 [.agg #[.slice a4 l6 c5, .int .i64 x0.2], .int .i64 x1, .int .i64 x2] [⟨(.int .i64), ⟨a4, l6, c5⟩, x0.1⟩] (fun _ : Option Addr × Nat × Option Addr × Nat => True) (fun q => .tuple #[.agg #[.slice q.1 r.1.1.length q.2.1, .int .i64 r.1.2], .slice q.2.2.1 r.2.1.length q.2.2.2, .bool r.2.2]) (fun q => [⟨(.int .i64), ⟨q.1, r.1.1.length, q.2.1⟩, r.1.1⟩, ⟨(.int .i64), ⟨q.2.2.1, r.2.1.length, q.2.2.2⟩, r.2.1⟩]) :=
 by
  subst hl7
  refine FC.of (T := TTx) Tryz.call202 Tryz.func202 E E fun w0 => ?_
  unfold M_i_LineCut at h
  refine JS.rgB ttOk 4 [] [2, 3] [(3, .bp 2 0), (6, .bp 3 0)] (.new 2 38 [.slice a4 x0.1.length c5, .int .i64 x0.2] (.new 3 38 [.slice none 0 0, .int .i64 0] .nil)) ⟨(Es E), (Bs E E)⟩ E E (JS.seq (JS.seq (JS.region (JO.reg ttOk 3 [] [] [(10, .v (.agg #[.slice a4 x0.1.length c5, .int .i64 x0.2])), (11, .v (I x1)), (12, .v (I x2))] _ E ⟨(Es E), E⟩ ?_))))
  obtain ⟨y8, hy9, h⟩ := bindO_some h
  refine JO.call E E E E (ok_i_inLine x0 x1 x2 a4 c5 x0.1.length E _ hy9) E [0] E E fun _ _ => JO.reg ttOk 1 [] [] [(14, .v (.bool (!y8)))] _ E ⟨⟨E, V⟩, E⟩ (JO.done E ?_)
  refine JS.cond E (fun ht73 => ?_) (fun ht73 => ?_)
  ·
   have h := condT h ht73
   refine JS.rgB ttOk 4 [] [] [(7, .v (.slice none 0 0)), (8, .v (.bool false))] (.new 3 38 [.slice none 0 0, .int .i64 0] .nil) ⟨(Es E), (Bs E E)⟩ E E ?_
   cases h
   refine JS.nilO (.int .i64) Sl.nil E E (JS.nilO (.int .i64) Sl.nil E E (JS.ret ttOk (none, 0, none, 0) V E E [1, 0] E))
  have h := condF h ht73
  refine JS.skip (JS.seq ?_)
  obtain ⟨j35, hj72, h⟩ := joinO_some h
  refine JS.cutJ (ι := List Int × Option Addr × Nat) ⟨fun z => j35 z.1 = some r, fun z => [(1, .v (I x1)), (2, .v (I x2)), (3, .bp 2 0), (6, .bp 3 0), (9, .bp 25 0)], fun z => (.new 2 38 [.slice a4 x0.1.length c5, .int .i64 x0.2] (.new 3 38 [.slice none 0 0, .int .i64 0] (.new 25 38 [.slice z.2.1 z.1.length z.2.2, .int .i64 x0.2] .nil))), fun z => [⟨(.int .i64), ⟨a4, x0.1.length, c5⟩, x0.1⟩], fun z => [⟨(.int .i64), ⟨z.2.1, z.1.length, z.2.2⟩, z.1⟩], fun z => 0⟩ ?_ ?_
  ·
   obtain ⟨g10, h⟩ := guardO_some h
   obtain ⟨y15, hy16, h⟩ := bindO_some h
   obtain ⟨g19, h⟩ := guardO_some h
   obtain ⟨g23, h⟩ := guardO_some h
   refine JS.subR 0 E (0 : Int) x1 fun a11 c12 hu13 => JS.subR 1 E x2 (x0.1.length : Int) fun a20 c21 hu22 => JS.know 2 E fun hs65 => ?_
   refine JS.regionA E (.new 2 38 [.slice a4 x0.1.length c5, .int .i64 x0.2] .nil) [] [12, 14] ⟨E, E, E, E, V⟩ E (fun be28 => ?_)
   refine JA.reg ttOk panic_cx true 7 [0, 1, 2, 5, 6, 7, 10, 11] E (by kernel_rfl) [] [(17, .v (.slice a4 x0.1.length c5)), (18, .v (I x1)), (22, .v (.slice a4 x0.1.length c5)), (23, .v (I x2)), (27, .v (I x0.2))] ⟨E, E, E, E, V⟩ [] E E (Es E) (JA.sliceP ttOk panic_cx 3 E (by kernel_rfl) E E E E E E (0 : Int) x1 E E ⟨g10.1, g10.2.1, g10.2.2, hs65.cap, hu13 g10⟩ E (JA.sliceP ttOk panic_cx 8 E (by kernel_rfl) E E E E E E x2 (x0.1.length : Int) E E ⟨g19.1, g19.2.1, g19.2.2, hs65.cap, hu22 g19⟩ E ?_))
   refine JA.all (rs := [4, 13]) (by kernel_rfl) E (List.forall_mem_cons.2 ⟨?_, List.forall_mem_cons.2 ⟨?_, (fun _ hx => absurd hx List.not_mem_nil)⟩⟩)
   ·
    refine JK.call E E E E (ok_i_copyInts (sub' x0.1 (0 : Int) x1) a11 c12 ((sub' x0.1 (0 : Int) x1).length) E _ hy16) E [1] E E ?_
    rintro ⟨a17, c18⟩ -
    refine JA.next ⟨E, E, E, E, V⟩ [] E ?_
    refine JA.all (rs := [9, 13]) (by kernel_rfl) E (List.forall_mem_cons.2 ⟨?_, List.forall_mem_cons.2 ⟨?_, (fun _ hx => absurd hx List.not_mem_nil)⟩⟩)
    ·
     refine JK.appendR' ttOk E E E E ⟨E, E, E, E, V, E, E, E, E⟩ E E E [0] E 0 E g23 E fun a24 c25 => JA.next ⟨E, E, E, E, V⟩ [] E (JA.regL ttOk panic_cx 2 [12] E (by kernel_rfl) [] [(28, .v (.agg #[.slice a24 (y15 ++ (sub' x0.1 x2 (x0.1.length : Int))).length c25, .int .i64 x0.2]))] E ⟨E, V⟩ (JA.one 13 (by kernel_rfl) (JK.alloc ttOk E E E E E 25 E (sd_upd _ E) (JA.next ⟨E, E, E, E, V⟩ [] E (JA.one 14 (by kernel_rfl) (JK.stBox ttOk E E E E E E E E (JA.nextL E (JA.done (by kernel_rfl) (JS.boxes (B' := (.new 2 38 [.slice a4 x0.1.length c5, .int .i64 x0.2] (.new 3 38 [.slice none 0 0, .int .i64 0] (.new 25 38 [.slice a24 (y15 ++ (sub' x0.1 x2 (x0.1.length : Int))).length c25, .int .i64 x0.2] .nil)))) (Bs E E) (JS.endJ ((y15 ++ (sub' x0.1 x2 (x0.1.length : Int))), a24, c25) h (Es E) (Bs E E) [2] E [0] E))))))))))
    refine JK.alloc ttOk E E E E E 25 E (sd_upd _ E) (JA.next ⟨E, E, E, E, V⟩ [] E (JA.one 9 (by kernel_rfl) (JK.appendR' ttOk E E E E ⟨E, E, E, E, V, E, E, E, E⟩ E E E [0] E 0 E g23 E fun a24 c25 => JA.next ⟨E, E, E, E, V⟩ [] E (JA.regL ttOk panic_cx 1 [12] E (by kernel_rfl) [] [(28, .v (.agg #[.slice a24 (y15 ++ (sub' x0.1 x2 (x0.1.length : Int))).length c25, .int .i64 x0.2]))] E ⟨E, V⟩ (JA.one 14 (by kernel_rfl) (JK.stBox ttOk E E E E E E E E (JA.nextL E (JA.done (by kernel_rfl) (JS.boxes (B' := (.new 2 38 [.slice a4 x0.1.length c5, .int .i64 x0.2] (.new 3 38 [.slice none 0 0, .int .i64 0] (.new 25 38 [.slice a24 (y15 ++ (sub' x0.1 x2 (x0.1.length : Int))).length c25, .int .i64 x0.2] .nil)))) (Bs E E) (JS.endJ ((y15 ++ (sub' x0.1 x2 (x0.1.length : Int))), a24, c25) h (Es E) (Bs E E) [2] E [0] E))))))))))
   refine JK.alloc ttOk E E E E E 25 E (sd_upd _ E) (JA.next ⟨E, E, E, E, V⟩ [] E (JA.one 4 (by kernel_rfl) (JK.call E E E E (ok_i_copyInts (sub' x0.1 (0 : Int) x1) a11 c12 ((sub' x0.1 (0 : Int) x1).length) E _ hy16) E [1] E E ?_)))
   rintro ⟨a17, c18⟩ -
   refine JA.next ⟨E, E, E, E, V⟩ [] E (JA.one 9 (by kernel_rfl) (JK.appendR' ttOk E E E E ⟨E, E, E, E, V, E, E, E, E⟩ E E E [0] E 0 E g23 E fun a24 c25 => JA.next ⟨E, E, E, E, V⟩ [] E (JA.regL ttOk panic_cx 1 [12] E (by kernel_rfl) [] [(28, .v (.agg #[.slice a24 (y15 ++ (sub' x0.1 x2 (x0.1.length : Int))).length c25, .int .i64 x0.2]))] E ⟨E, V⟩ (JA.one 14 (by kernel_rfl) (JK.stBox ttOk E E E E E E E E (JA.nextL E (JA.done (by kernel_rfl) (JS.boxes (B' := (.new 2 38 [.slice a4 x0.1.length c5, .int .i64 x0.2] (.new 3 38 [.slice none 0 0, .int .i64 0] (.new 25 38 [.slice a24 (y15 ++ (sub' x0.1 x2 (x0.1.length : Int))).length c25, .int .i64 x0.2] .nil)))) (Bs E E) (JS.endJ ((y15 ++ (sub' x0.1 x2 (x0.1.length : Int))), a24, c25) h (Es E) (Bs E E) [2] E [0] E)))))))))
  rintro ⟨x32, a33, c34⟩ h
  subst hj72
  refine JS.seq ?_
  obtain ⟨j42, hj71, h⟩ := joinO_some h
  refine JS.blockJ (ι := Int) ⟨fun z => j42 z = some r, fun z => [(1, .v (I x1)), (2, .v (I x2)), (3, .bp 2 0), (6, .bp 3 0), (9, .bp 25 0)], fun z => (.new 2 38 [.slice a4 x0.1.length c5, .int .i64 x0.2] (.new 3 38 [.slice none 0 0, .int .i64 0] (.new 25 38 [.slice a33 x32.length c34, .int .i64 z] .nil))), fun z => [⟨(.int .i64), ⟨a4, x0.1.length, c5⟩, x0.1⟩], fun z => [⟨(.int .i64), ⟨a33, x32.length, c34⟩, x32⟩], fun z => 0⟩ ?_ ?_
  ·
   refine JS.rg0 ttOk 5 [(29, .v (.bool (decide (x2 ≤ x0.2))))] ⟨⟨E, V⟩, E⟩ E E ?_
   refine JS.cond E (fun ht67 => ?_) (fun ht67 => ?_)
   ·
    have h := condT h ht67
    refine JS.reB ttOk 8 [(W (x2 - x1)), (W (x0.2 - (W (x2 - x1))))] [] [] (.new 2 38 [.slice a4 x0.1.length c5, .int .i64 x0.2] (.new 3 38 [.slice none 0 0, .int .i64 0] (.new 25 38 [.slice a33 x32.length c34, .int .i64 (W (x0.2 - (W (x2 - x1))))] .nil))) ⟨⟨V, E⟩, ⟨V, E⟩, V, (Bs E E)⟩ E E (JS.endB (JS.endJ (W (x0.2 - (W (x2 - x1)))) h (Es E) (Bs E E) [0] E [0] E))
   have h := condF h ht67
   refine JS.rg0 ttOk 5 [(41, .v (.bool (decide (x1 < x0.2))))] ⟨⟨E, V⟩, E⟩ E E ?_
   refine JS.cond E (fun ht66 => ?_) (fun ht66 => ?_)
   ·
    have h := condT h ht66
    refine JS.reB ttOk 3 [] [] [] (.new 2 38 [.slice a4 x0.1.length c5, .int .i64 x0.2] (.new 3 38 [.slice none 0 0, .int .i64 0] (.new 25 38 [.slice a33 x32.length c34, .int .i64 x1] .nil))) ⟨V, (Bs E E)⟩ E E (JS.endB (JS.endJ x1 h (Es E) (Bs E E) [0] E [0] E))
   have h := condF h ht66
   refine JS.skip (JS.endB (JS.endJ x0.2 h (Es E) (Bs E E) [0] E [0] E))
  rintro x41 h
  subst hj71
  refine JS.seq ?_
  obtain ⟨g45, h⟩ := guardO_some h
  obtain ⟨y50, hy51, h⟩ := bindO_some h
  refine JS.subR 0 E x1 x2 fun a46 c47 hu48 => JS.know 1 E fun hs70 => ?_
  refine JS.regionA E (.new 2 38 [.slice a4 x0.1.length c5, .int .i64 x0.2] (.new 25 38 [.slice a33 x32.length c34, .int .i64 x41] .nil)) [] [7, 8, 9] ⟨E, E, E, E, E, E, E, E, V⟩ E (fun be56 => ?_)
  refine JA.reg ttOk panic_cx true 5 [0, 1, 2, 3, 4] E (by kernel_rfl) [] [(48, .v (.agg #[.slice a33 x32.length c34, .int .i64 x41])), (50, .v (.slice a4 x0.1.length c5)), (51, .v (I x1)), (52, .v (I x2))] ⟨E, E, E, E, E, E, E, E, V⟩ [] E E (Es E) (JA.sliceP ttOk panic_cx 5 E (by kernel_rfl) E E E E E E x1 x2 E E ⟨g45.1, g45.2.1, g45.2.2, hs70.cap, hu48 g45⟩ E (JA.one 6 (by kernel_rfl) (JK.call E E E E (ok_i_copyInts (sub' x0.1 x1 x2) a46 c47 ((sub' x0.1 x1 x2).length) E _ hy51) E [0] E E ?_)))
  rintro ⟨a52, c53⟩ -
  refine JA.next ⟨E, E, E, E, E, E, E, E, V⟩ [] E (JA.one 7 (by kernel_rfl) (JK.stBox ttOk E E E E E E E E (JA.nextL E (JA.regL ttOk panic_cx 0 [8, 9] E (by kernel_rfl) [] [(7, .v (.slice a52 y50.length c53)), (8, .v (.bool true))] E (Es E) (JA.done (by kernel_rfl) (JS.boxes (B' := (.new 3 38 [.slice a33 x32.length c34, .int .i64 x41] .nil)) (Bs E E) ?_))))))
  cases h
  exact JS.ret ttOk (a33, c34, a52, c53) V E E [1, 0] E

def M_i_cut (x0 : EdQ) (x1 : Int) (x2 : Int) : Option (EdQ × Int) :=
  (bindO (M_i_LineCut x0.2.2.1 x1 x2) fun (y28, y29, y30) =>
  (bif (bif (!y30) then true else (decide ((y29.length : Int) = 0))) then
  (bindO (M_i_bell x0) fun (y36, y37) =>
  some (y36, y37))
  else
  (bindO (M_i_put x0 y28) fun (y51, y52) =>
  some (y51, y52))))

theorem ok_i_cut (x0 : EdQ) (x1 : Int) (x2 : Int) (a4 : Option Addr) (c5 : Nat) (l6 : Nat) (hl7 : x0.2.2.1.1.length = l6) (a8 : Option Addr) (c9 : Nat) (l10 : Nat) (hl11 : (Q8 x0).2.2.1.length = l10) (a12 : Option Addr) (c13 : Nat) (l14 : Nat) (hl15 : (Q8 x0).2.2.2.1.length = l14) (a16 : Option Addr) (c17 : Nat) (l18 : Nat) (hl19 : (Q12 x0).2.1.1.length = l18) (a20 : Option Addr) (c21 : Nat) (l22 : Nat) (hl23 : (Q12 x0).2.2.1.length = l22) (a24 : Option Addr) (c25 : Nat) (l26 : Nat) (hl27 : (Q16 x0).1.length = l26) (r : EdQ × Int) (h : M_i_cut x0 x1 x2 = some r) :
  FC Tryz.prog 168 [.agg #[.bool x0.1, .int .i64 x0.2.1, .slice a4 l6 c5, .int .i64 x0.2.2.1.2, .int .i64 x0.2.2.2.1, .int .i64 (Q4 x0).1, .int .i64 (Q4 x0).2.1, .int .i64 (Q4 x0).2.2.1, .int .i64 (Q4 x0).2.2.2.1, .int .i64 (Q8 x0).1, .int .i64 (Q8 x0).2.1, .slice a8 l10 c9, .slice a12 l14 c13, .int .i64 (Q12 x0).1, .slice a16 l18 c17, .int .i64 (Q12 x0).2.1.2, .slice a20 l22 c21, .int .i64 (Q12 x0).2.2.2.1, .slice a24 l26 c25, .int .i64 (Q16 x0).2], .int .i64 x1, .int .i64 x2] [⟨(.int .i64), ⟨a4, l6, c5⟩, x0.2.2.1.1⟩, ⟨(.sl (.int .i64)), ⟨a8, l10, c9⟩, (Q8 x0).2.2.1⟩, ⟨(.pair (.sl (.int .i64)) (.int .i64)), ⟨a12, l14, c13⟩, (Q8 x0).2.2.2.1⟩, ⟨(.int .i64), ⟨a16, l18, c17⟩, (Q12 x0).2.1.1⟩, ⟨(.int .i64), ⟨a20, l22, c21⟩, (Q12 x0).2.2.1⟩, ⟨(.int .i64), ⟨a24, l26, c25⟩, (Q16 x0).1⟩] (fun _ : Option Addr × Nat × Option Addr × Nat × Option Addr × Nat × Option Addr × Nat × Option Addr × Nat × Option Addr × Nat => True) (fun q => .tuple #[.agg (cl46 r.1 q.1 q.2.1 q.2.2.1 q.2.2.2.1 (Q4 q).1 (Q4 q).2.1 (Q4 q).2.2.1 (Q4 q).2.2.2.1 (Q8 q).1 (Q8 q).2.1 (Q8 q).2.2.1 (Q8 q).2.2.2).toArray, .int .i64 r.2]) (fun q => (fl32 r.1 q.1 q.2.1 q.2.2.1 q.2.2.2.1 (Q4 q).1 (Q4 q).2.1 (Q4 q).2.2.1 (Q4 q).2.2.2.1 (Q8 q).1 (Q8 q).2.1 (Q8 q).2.2.1 (Q8 q).2.2.2 [])) :=
 by
  subst hl7
  subst hl11
  subst hl15
  subst hl19
  subst hl23
  subst hl27
  refine FC.of (T := TTx) Tryz.call168 Tryz.func168 E E fun w0 => ?_
  unfold M_i_cut at h
  refine JS.rgB ttOk 3 [] [7, 8] [(3, .bp 7 0), (6, .bp 8 0)] (.new 7 46 (cl46 x0 a4 c5 a8 c9 a12 c13 a16 c17 a20 c21 a24 c25) (.new 8 46 cz46 .nil)) ⟨(Es E), (Bs E E)⟩ E E (JS.seq (JS.region (JO.reg ttOk 4 [] [] [(13, .v (.agg #[.slice a4 x0.2.2.1.1.length c5, .int .i64 x0.2.2.1.2])), (14, .v (I x1)), (15, .v (I x2))] _ E ⟨(Es E), E⟩ ?_)))
  obtain ⟨⟨y28, y29, y30⟩, hy31, h⟩ := bindO_some h
  refine JO.call E E E E (ok_i_LineCut x0.2.2.1 x1 x2 a4 c5 x0.2.2.1.1.length E _ hy31) E [0] E E ?_
  rintro ⟨a32, c33, a34, c35⟩ -
  refine JO.regB ttOk 8 [] [19] [(8, .bp 19 0), (9, .v (.slice a34 y29.length c35)), (10, .v (.bool y30))] (.new 7 46 (cl46 x0 a4 c5 a8 c9 a12 c13 a16 c17 a20 c21 a24 c25) (.new 8 46 cz46 (.new 19 38 [.slice a32 y28.1.length c33, .int .i64 y28.2] .nil))) E ⟨(Es E), (Bs E E)⟩ (JO.done E (JS.seq (JS.rg0 ttOk 7 [(26, .v (.bool (bif (!y30) then true else (decide ((y29.length : Int) = 0)))))] ⟨⟨E, V⟩, E⟩ E E ?_)))
  refine JS.cond E (fun ht67 => ?_) (fun ht67 => ?_)
  ·
   have h := condT h ht67
   refine JS.seq (JS.region (JO.reg ttOk 1 [] [] [(27, .v (.agg (cl46 x0 a4 c5 a8 c9 a12 c13 a16 c17 a20 c21 a24 c25).toArray))] _ E ⟨⟨E, V⟩, E⟩ ?_))
   obtain ⟨⟨y36, y37⟩, hy38, h⟩ := bindO_some h
   refine JO.call E E E E (ok_i_bell x0 a4 c5 x0.2.2.1.1.length E a8 c9 (Q8 x0).2.2.1.length E a12 c13 (Q8 x0).2.2.2.1.length E a16 c17 (Q12 x0).2.1.1.length E a20 c21 (Q12 x0).2.2.1.length E a24 c25 (Q16 x0).1.length E _ hy38) E [0, 1, 2, 3, 4, 5] E E ?_
   rintro ⟨a39, c40, a41, c42, a43, c44, a45, c46, a47, c48, a49, c50⟩ -
   refine JO.regB ttOk 4 [] [] [(7, .v (I y37))] (.new 8 46 (cl46 y36 a39 c40 a41 c42 a43 c44 a45 c46 a47 c48 a49 c50) .nil) E ⟨⟨E, V⟩, (Bs E E)⟩ (JO.done E ?_)
   cases h
   exact JS.ret ttOk (a39, c40, a41, c42, a43, c44, a45, c46, a47, c48, a49, c50) V E E [0, 0, 0, 0, 0, 0] E
  have h := condF h ht67
  refine JS.skip (JS.seq (JS.region (JO.reg ttOk 2 [] [] [(31, .v (.agg (cl46 x0 a4 c5 a8 c9 a12 c13 a16 c17 a20 c21 a24 c25).toArray)), (32, .v (.agg #[.slice a32 y28.1.length c33, .int .i64 y28.2]))] _ E ⟨(Es E), E⟩ ?_)))
  obtain ⟨⟨y51, y52⟩, hy53, h⟩ := bindO_some h
  refine JO.call E E E E (ok_i_put x0 y28 a4 c5 x0.2.2.1.1.length E a8 c9 (Q8 x0).2.2.1.length E a12 c13 (Q8 x0).2.2.2.1.length E a16 c17 (Q12 x0).2.1.1.length E a20 c21 (Q12 x0).2.2.1.length E a24 c25 (Q16 x0).1.length E a32 c33 y28.1.length E _ hy53) E [0, 1, 2, 3, 4, 5, 6] E E ?_
  rintro ⟨a54, c55, a56, c57, a58, c59, a60, c61, a62, c63, a64, c65⟩ -
  refine JO.regB ttOk 4 [] [] [(7, .v (I y52))] (.new 8 46 (cl46 y51 a54 c55 a56 c57 a58 c59 a60 c61 a62 c63 a64 c65) .nil) E ⟨⟨E, V⟩, (Bs E E)⟩ (JO.done E ?_)
  cases h
  exact JS.ret ttOk (a54, c55, a56, c57, a58, c59, a60, c61, a62, c63, a64, c65) V E E [0, 0, 0, 0, 0, 0] E

def M_i_within (x0 : Int) (x1 : Int) : Option Int :=
  some (max (0 : Int) (min x0 x1))

theorem ok_i_within (x0 : Int) (x1 : Int) (r : Int) (h : M_i_within x0 x1 = some r) :
  FC Tryz.prog 200 [.int .i64 x0, .int .i64 x1] [] (fun _ : Unit => True) (fun _ => .int .i64 r) (fun _ => []) :=
 by
  refine FC.of (T := TTx) Tryz.call200 Tryz.func200 E E fun w0 => ?_
  unfold M_i_within at h
  refine JS.rg0 ttOk 1 [] ⟨V, E⟩ E E (JS.rg0 ttOk 5 [(4, .v (I (max (0 : Int) (min x0 x1))))] ⟨⟨E, V⟩, E⟩ E E ?_)
  cases h
  exact JS.ret ttOk () V E E [] E

def M_i_isUpper (x0 : Int) : Option Bool :=
  (bindO (M_i_in x0 65 90) fun (y2 : Bool) =>
  some y2)

theorem ok_i_isUpper (x0 : Int) (r : Bool) (h : M_i_isUpper x0 = some r) :
  FC Tryz.prog 261 [.int .i64 x0] [] (fun _ : Unit => True) (fun _ => .bool r) (fun _ => []) :=
 by
  refine FC.of (T := TTx) Tryz.call261 Tryz.func261 E E fun w0 => ?_
  unfold M_i_isUpper at h
  refine JS.rg0 ttOk 1 [] ⟨V, E⟩ E E (JS.seq (JS.region (JO.reg ttOk 1 [] [] [(3, .v (I x0))] _ E ⟨⟨E, V⟩, E⟩ ?_)))
  obtain ⟨y2, hy3, h⟩ := bindO_some h
  refine JO.call E E E E (ok_i_in x0 65 90 _ hy3) E [] E E fun _ _ => JO.reg ttOk 1 [] [] [(2, .v (.bool y2))] _ E ⟨⟨E, V⟩, E⟩ (JO.done E ?_)
  cases h
  exact JS.ret ttOk () V E E [] E

def M_i_isDigit (x0 : Int) : Option Bool :=
  (bindO (M_i_in x0 48 57) fun (y2 : Bool) =>
  some y2)

theorem ok_i_isDigit (x0 : Int) (r : Bool) (h : M_i_isDigit x0 = some r) :
  FC Tryz.prog 197 [.int .i64 x0] [] (fun _ : Unit => True) (fun _ => .bool r) (fun _ => []) :=
 by
  refine FC.of (T := TTx) Tryz.call197 Tryz.func197 E E fun w0 => ?_
  unfold M_i_isDigit at h
  refine JS.rg0 ttOk 1 [] ⟨V, E⟩ E E (JS.seq (JS.region (JO.reg ttOk 1 [] [] [(3, .v (I x0))] _ E ⟨⟨E, V⟩, E⟩ ?_)))
  obtain ⟨y2, hy3, h⟩ := bindO_some h
  refine JO.call E E E E (ok_i_in x0 48 57 _ hy3) E [] E E fun _ _ => JO.reg ttOk 1 [] [] [(2, .v (.bool y2))] _ E ⟨⟨E, V⟩, E⟩ (JO.done E ?_)
  cases h
  exact JS.ret ttOk () V E E [] E

def M_i_ClassOf (x0 : Int) : Option Int :=
  (bif (bif (bif (decide (x0 = 9)) then true else (decide (x0 = 10))) then true else (decide (x0 = 32))) then
  some 0
  else
  (bindO (M_i_isLower x0) fun (y2 : Bool) =>
  (callO (y2 = false) (M_i_isUpper x0) false fun (y4 : Bool) =>
  (callO ((bif y2 then true else y4) = false) (M_i_isDigit x0) false fun (y7 : Bool) =>
  (callO ((decide (159 < x0)) = true ∧ (bif (bif (bif y2 then true else y4) then true else y7) then true else (decide (x0 = 95))) = false) (M_i_Printable x0) false fun (y10 : Bool) =>
  (bif (bif (bif (bif (bif y2 then true else y4) then true else y7) then true else (decide (x0 = 95))) then true else (bif (decide (159 < x0)) then y10 else false)) then
  some 1
  else
  some 2))))))

theorem ok_i_ClassOf (x0 : Int) (r : Int) (h : M_i_ClassOf x0 = some r) :
  FC Tryz.prog 201 [.int .i64 x0] [] (fun _ : Unit => True) (fun _ => .int .i64 r) (fun _ => []) :=
 by
  refine FC.of (T := TTx) Tryz.call201 Tryz.func201 E E fun w0 => ?_
  unfold M_i_ClassOf at h
  refine JS.rg0 ttOk 1 [] ⟨V, E⟩ E E (JS.seq (JS.block (JS.rg0 ttOk 11 [(3, .v (.bool (bif (bif (decide (x0 = 9)) then true else (decide (x0 = 10))) then true else (decide (x0 = 32)))))] ⟨⟨E, V⟩, E⟩ E E ?_)))
  refine JS.cond E (fun ht21 => ?_) (fun ht21 => ?_)
  ·
   have h := condT h ht21
   refine JS.rg0 ttOk 1 [(2, .v (I 0))] ⟨⟨E, V⟩, E⟩ E E ?_
   cases h
   exact JS.ret ttOk () V E E [] E
  have h := condF h ht21
  refine JS.seq (JS.region (JO.reg ttOk 1 [] [] [(15, .v (I x0))] _ E ⟨⟨E, V⟩, E⟩ ?_))
  obtain ⟨y2, hy3, h⟩ := bindO_some h
  refine JO.call E E E E (ok_i_isLower x0 _ hy3) E [] E E fun _ _ => JO.reg ttOk 2 [] [] [(17, .v (.bool y2)), (18, .cd [(17, false)] (.v (I x0)))] _ E ⟨(Es E), E⟩ ?_
  obtain ⟨y4, hy5, -, h⟩ := callO_some h
  refine JO.callg E E E E (fun q16 => ok_i_isUpper x0 _ (hy5 q16)) E [] E E (JO.reg ttOk 3 [] [] [(21, .v (.bool (bif y2 then true else y4))), (22, .cd [(21, false)] (.v (I x0)))] _ E ⟨(Es E), E⟩ ?_)
  obtain ⟨y7, hy8, -, h⟩ := callO_some h
  refine JO.callg E E E E (fun q17 => ok_i_isDigit x0 _ (hy8 q17)) E [] E E (JO.reg ttOk 10 [] [] [(29, .v (.bool (bif (bif (bif y2 then true else y4) then true else y7) then true else (decide (x0 = 95))))), (32, .cd [(29, false)] (.v (.bool (decide (159 < x0))))), (33, .cd [(32, true), (29, false)] (.v (I x0)))] _ E ⟨(Es E), E⟩ ?_)
  obtain ⟨y10, hy11, -, h⟩ := callO_some h
  refine JO.callg E E E E (fun q18 q19 => ok_i_Printable x0 _ (hy11 ⟨q18, q19⟩)) E [] E E (JO.reg ttOk 3 [] [] [(14, .v (.bool (bif (bif (bif (bif y2 then true else y4) then true else y7) then true else (decide (x0 = 95))) then true else (bif (decide (159 < x0)) then y10 else false))))] _ E ⟨⟨E, V⟩, E⟩ (JO.done E ?_))
  refine JS.cond E (fun ht20 => ?_) (fun ht20 => ?_)
  ·
   have h := condT h ht20
   refine JS.rg0 ttOk 1 [(2, .v (I 1))] ⟨⟨E, V⟩, E⟩ E E ?_
   cases h
   exact JS.ret ttOk () V E E [] E
  have h := condF h ht20
  refine JS.skip (JS.endB (JS.rg0 ttOk 1 [(2, .v (I 2))] ⟨⟨E, V⟩, E⟩ E E ?_))
  cases h
  exact JS.ret ttOk () V E E [] E

def M_i_classAt (x0 : List Int) (x1 : Int) (x2 : Bool) : Option Int :=
  (guardO (0 ≤ x1 ∧ x1 < (x0.length : Int)) <|
  (bindO (M_i_ClassOf (at' x0 x1)) fun (y10 : Int) =>
  (bif (bif x2 then (decide (y10 = 2)) else false) then
  some 1
  else
  some y10)))

theorem ok_i_classAt (x0 : List Int) (x1 : Int) (x2 : Bool) (a4 : Option Addr) (c5 : Nat) (l6 : Nat) (hl7 : x0.length = l6) (r : Int) (h : M_i_classAt x0 x1 x2 = some r) :
  FC Tryz.prog 288 [.slice a4 l6 c5, .int .i64 x1, .bool x2] [⟨(.int .i64), ⟨a4, l6, c5⟩, x0⟩] (fun _ : Unit => True) (fun _ => .int .i64 r) (fun _ => []) :=
 by
  subst hl7
  refine FC.of (T := TTx) Tryz.call288 Tryz.func288 E E fun w0 => ?_
  unfold M_i_classAt at h
  refine JS.rg0 ttOk 1 [] ⟨V, E⟩ E E (JS.seq (JS.region (JO.know 0 E fun hs13 => ?_)))
  obtain ⟨g9, h⟩ := guardO_some h
  refine JO.reg ttOk 3 [] [] [(10, .ep ⟨a4, x0.length, c5⟩ (Int.toNat x1 * 1))] _ E ⟨hs13.ix g9, ⟨E, V⟩, E⟩ (JO.load ttOk E E E E E E E 0 E E (Int.toNat x1) 0 (at' x0 x1) ⟨at_some g9, E⟩ E E ?_)
  obtain ⟨y10, hy11, h⟩ := bindO_some h
  refine JO.call E E E E (ok_i_ClassOf (at' x0 x1) _ hy11) E [] E E fun _ _ => JO.reg ttOk 1 [] [] [(7, .v (I y10))] _ E ⟨⟨E, V⟩, E⟩ (JO.done E (JS.seq (JS.rg0 ttOk 5 [(17, .v (.bool (bif x2 then (decide (y10 = 2)) else false)))] ⟨⟨E, V⟩, E⟩ E E ?_)))
  refine JS.cond E (fun ht14 => ?_) (fun ht14 => ?_)
  ·
   have h := condT h ht14
   refine JS.rg0 ttOk 1 [(6, .v (I 1))] ⟨⟨E, V⟩, E⟩ E E ?_
   cases h
   exact JS.ret ttOk () V E E [] E
  have h := condF h ht14
  refine JS.skip (JS.rg0 ttOk 2 [(6, .v (I y10))] ⟨⟨E, V⟩, E⟩ E E ?_)
  cases h
  exact JS.ret ttOk () V E E [] E

def M_i_ViWordBack_L1 (x0 : List Int) (x2 : Bool) (j22 : Int → Option Int) (k16 : Int → Option Int) : Int → Option Int := fun x10 =>
  (callO ((decide (0 < x10)) = true) (M_i_classAt x0 (W (x10 - 1)) x2) (0 : Int) fun (y12 : Int) =>
  (bif (bif (decide (0 < x10)) then (decide (y12 = 0)) else false) then
  k16 (W (x10 - 1))
  else
  j22 x10))

def M_i_ViWordBack_L2 (x0 : List Int) (x2 : Bool) (y26 : Int) (j40 : Int → Option Int) (k34 : Int → Option Int) : Int → Option Int := fun x28 =>
  (callO ((decide (0 < x28)) = true) (M_i_classAt x0 (W (x28 - 1)) x2) (0 : Int) fun (y30 : Int) =>
  (bif (bif (decide (0 < x28)) then (decide (y30 = y26)) else false) then
  k34 (W (x28 - 1))
  else
  j40 x28))

def M_i_ViWordBack (x0 : List Int) (x1 : Int) (x2 : Bool) : Option Int :=
  (bindO (M_i_within x1 (x0.length : Int)) fun (y8 : Int) =>
  (joinO (fun (x21 : Int) =>
  (bif (decide (x21 = 0)) then
  some 0
  else
  (bindO (M_i_classAt x0 (W (x21 - 1)) x2) fun (y26 : Int) =>
  (joinO (fun (x39 : Int) =>
  some x39) fun j40 =>
  (fixF (M_i_ViWordBack_L2 x0 x2 y26 j40) FUEL x21))))) fun j22 =>
  (fixF (M_i_ViWordBack_L1 x0 x2 j22) FUEL y8)))

theorem ok_i_ViWordBack (x0 : List Int) (x1 : Int) (x2 : Bool) (a4 : Option Addr) (c5 : Nat) (l6 : Nat) (hl7 : x0.length = l6) (r : Int) (h : M_i_ViWordBack x0 x1 x2 = some r) :
  FC Tryz.prog 246 [.slice a4 l6 c5, .int .i64 x1, .bool x2] [⟨(.int .i64), ⟨a4, l6, c5⟩, x0⟩] (fun _ : Unit => True) (fun _ => .int .i64 r) (fun _ => []) :=
 by
  subst hl7
  refine FC.of (T := TTx) Tryz.call246 Tryz.func246 E E fun w0 => ?_
  unfold M_i_ViWordBack at h
  refine JS.rg0 ttOk 1 [] ⟨V, E⟩ E E (JS.seq (JS.region (JO.reg ttOk 3 [] [] [(8, .v (I x1)), (10, .v (I (x0.length : Int)))] _ E ⟨(Es E), E⟩ ?_)))
  obtain ⟨y8, hy9, h⟩ := bindO_some h
  refine JO.call E E E E (ok_i_within x1 (x0.length : Int) _ hy9) E [] E E fun _ _ => JO.reg ttOk 1 [] [] [(1, .v (I y8))] _ E ⟨⟨E, V⟩, E⟩ (JO.done E (JS.seq ?_))
  obtain ⟨j22, hj55, h⟩ := joinO_some h
  refine JS.blockJ (ι := Int) ⟨fun z => j22 z = some r, fun z => [(0, .v (.slice a4 x0.length c5)), (1, .v (I z)), (2, .v (.bool x2))], fun z => .nil, fun z => [⟨(.int .i64), ⟨a4, x0.length, c5⟩, x0⟩], fun z => [], fun z => 0⟩ ?_ ?_
  ·
   refine JS.loop (ι := Nat × Int) ⟨fun z => fixF (M_i_ViWordBack_L1 x0 x2 j22) z.1 z.2 = some r, fun z => [(0, .v (.slice a4 x0.length c5)), (1, .v (I z.2)), (2, .v (.bool x2))], fun z => .nil, fun z => [⟨(.int .i64), ⟨a4, x0.length, c5⟩, x0⟩], fun z => [], fun z => z.1⟩ (FUEL, y8) h (Es E) V [0] E [] E ?_
   rintro ⟨n17, x10⟩ h
   obtain ⟨n17, rfl, h⟩ := fixF_some h
   rw [M_i_ViWordBack_L1] at h
   refine JS.seq (JS.seq (JS.region (JO.reg ttOk 7 [(W (x10 - 1))] [] [(14, .v (.bool (decide (0 < x10)))), (15, .cd [(14, true)] (.v (.slice a4 x0.length c5))), (17, .cd [(14, true)] (.v (I (W (x10 - 1))))), (18, .cd [(14, true)] (.v (.bool x2)))] _ E ⟨(fun q47 => ⟨V, E⟩), (Es E), E⟩ ?_)))
   obtain ⟨y12, hy13, -, h⟩ := callO_some h
   refine JO.callg E E E E (fun q48 => ok_i_classAt x0 (W (x10 - 1)) x2 a4 c5 x0.length E _ (hy13 q48)) E [0] E E (JO.reg ttOk 2 [] [] [(21, .v (.bool (bif (decide (0 < x10)) then (decide (y12 = 0)) else false)))] _ E ⟨⟨E, V⟩, E⟩ (JO.done E ?_))
   refine JS.cond E (fun ht49 => ?_) (fun ht49 => ?_)
   ·
    have h := condT h ht49
    refine JS.skip (JS.block (JS.re ttOk 3 [(W (x10 - 1))] [] [(1, .v (I (W (x10 - 1))))] _ ⟨⟨V, E⟩, ⟨E, V⟩, E⟩ E E (JS.endB (JS.endL (n17, (W (x10 - 1))) h (Nat.lt_succ_self _) (Es E) V [0] E [] E))))
   have h := condF h ht49
   refine JS.exit E (JS.endJ x10 h (Es E) V [0] E [] E)
  rintro x21 h
  subst hj55
  refine JS.seq (JS.rg0 ttOk 2 [(25, .v (.bool (decide (x21 = 0))))] ⟨⟨E, V⟩, E⟩ E E ?_)
  refine JS.cond E (fun ht54 => ?_) (fun ht54 => ?_)
  ·
   have h := condT h ht54
   refine JS.rg0 ttOk 1 [(6, .v (I 0))] ⟨⟨E, V⟩, E⟩ E E ?_
   cases h
   exact JS.ret ttOk () V E E [] E
  have h := condF h ht54
  refine JS.skip (JS.seq (JS.region (JO.reg ttOk 4 [(W (x21 - 1))] [] [(26, .v (.slice a4 x0.length c5)), (28, .v (I (W (x21 - 1)))), (29, .v (.bool x2))] _ E ⟨⟨V, E⟩, (Es E), E⟩ ?_)))
  obtain ⟨y26, hy27, h⟩ := bindO_some h
  refine JO.call E E E E (ok_i_classAt x0 (W (x21 - 1)) x2 a4 c5 x0.length E _ hy27) E [0] E E fun _ _ => JO.reg ttOk 1 [] [] [(7, .v (I y26))] _ E ⟨⟨E, V⟩, E⟩ (JO.done E (JS.seq ?_))
  obtain ⟨j40, hj53, h⟩ := joinO_some h
  refine JS.blockJ (ι := Int) ⟨fun z => j40 z = some r, fun z => [(1, .v (I z))], fun z => .nil, fun z => [], fun z => [], fun z => 0⟩ ?_ ?_
  ·
   refine JS.loop (ι := Nat × Int) ⟨fun z => fixF (M_i_ViWordBack_L2 x0 x2 y26 j40) z.1 z.2 = some r, fun z => [(0, .v (.slice a4 x0.length c5)), (1, .v (I z.2)), (2, .v (.bool x2)), (7, .v (I y26))], fun z => .nil, fun z => [⟨(.int .i64), ⟨a4, x0.length, c5⟩, x0⟩], fun z => [], fun z => z.1⟩ (FUEL, x21) h (Es E) V [0] E [] E ?_
   rintro ⟨n35, x28⟩ h
   obtain ⟨n35, rfl, h⟩ := fixF_some h
   rw [M_i_ViWordBack_L2] at h
   refine JS.seq (JS.seq (JS.region (JO.reg ttOk 7 [(W (x28 - 1))] [] [(33, .v (.bool (decide (0 < x28)))), (34, .cd [(33, true)] (.v (.slice a4 x0.length c5))), (36, .cd [(33, true)] (.v (I (W (x28 - 1))))), (37, .cd [(33, true)] (.v (.bool x2)))] _ E ⟨(fun q50 => ⟨V, E⟩), (Es E), E⟩ ?_)))
   obtain ⟨y30, hy31, -, h⟩ := callO_some h
   refine JO.callg E E E E (fun q51 => ok_i_classAt x0 (W (x28 - 1)) x2 a4 c5 x0.length E _ (hy31 q51)) E [0] E E (JO.reg ttOk 3 [] [] [(41, .v (.bool (bif (decide (0 < x28)) then (decide (y30 = y26)) else false)))] _ E ⟨⟨E, V⟩, E⟩ (JO.done E ?_))
   refine JS.cond E (fun ht52 => ?_) (fun ht52 => ?_)
   ·
    have h := condT h ht52
    refine JS.skip (JS.block (JS.re ttOk 3 [(W (x28 - 1))] [] [(1, .v (I (W (x28 - 1))))] _ ⟨⟨V, E⟩, ⟨E, V⟩, E⟩ E E (JS.endB (JS.endL (n35, (W (x28 - 1))) h (Nat.lt_succ_self _) (Es E) V [0] E [] E))))
   have h := condF h ht52
   refine JS.exit E (JS.endJ x28 h ⟨E, V⟩ V [] E [] E)
  rintro x39 h
  subst hj53
  refine JS.rg0 ttOk 2 [(6, .v (I x39))] ⟨⟨E, V⟩, E⟩ E E ?_
  cases h
  exact JS.ret ttOk () V E E [] E

def M_i_RingPut (x0 : List (List Int)) (x1 : List Int) (x2 : Int) : Option (List (List Int) × Bool) :=
  (bindO (M_i_RingOk x0) fun (y12 : Bool) =>
  (callO ((!y12) = false) (M_i_in x2 0 2) false fun (y14 : Bool) =>
  (callO ((bif (!y12) then true else (!y14)) = false) (M_i_areAdmissible x1) false fun (y17 : Bool) =>
  (bif (bif (bif (!y12) then true else (!y14)) then true else (!y17)) then
  some ([], false)
  else
  (bindO (M_i_copyRing x0) fun (y20 : List (List Int)) =>
  (joinO (fun (x73 : List (List Int)) =>
  some (x73, true)) fun j76 =>
  (bif (decide ((x1.length : Int) = 0)) then
  j76 y20
  else
  (guardO (((bif (decide (x2 = 0)) then true else (decide ((y20.length : Int) = 0))) = false) → 0 ≤ (0 : Int) ∧ 0 < (y20.length : Int)) <|
  (bif (bif (bif (decide (x2 = 0)) then true else (decide ((y20.length : Int) = 0))) then true else (decide (400 < (W (((at' y20 0).length : Int) + (x1.length : Int)))))) then
  (bindO (M_i_copyInts x1) fun (y34 : List Int) =>
  (guardO (([y34] : List (List Int)).length + y20.length ≤ 536870912) <|
  (guardO (0 ≤ (0 : Int) ∧ (0 : Int) ≤ (min ((([y34] : List (List Int)) ++ y20).length : Int) 6) ∧ (min ((([y34] : List (List Int)) ++ y20).length : Int) 6) ≤ ((([y34] : List (List Int)) ++ y20).length : Int)) <|
  j76 (sub' (([y34] : List (List Int)) ++ y20) 0 (min ((([y34] : List (List Int)) ++ y20).length : Int) 6)))))
  else
  (bif (decide (x2 = 1)) then
  (guardO (0 ≤ (0 : Int) ∧ 0 < (y20.length : Int)) <|
  (guardO ((at' y20 0).length + x1.length ≤ 536870912) <|
  (guardO (0 ≤ (0 : Int) ∧ 0 < (y20.length : Int)) <|
  j76 (List.set y20 (Int.toNat 0) ((at' y20 0) ++ x1)))))
  else
  (bindO (M_i_copyInts x1) fun (y56 : List Int) =>
  (guardO (0 ≤ (0 : Int) ∧ 0 < (y20.length : Int)) <|
  (guardO (y56.length + (at' y20 0).length ≤ 536870912) <|
  (guardO (0 ≤ (0 : Int) ∧ 0 < (y20.length : Int)) <|
  j76 (List.set y20 (Int.toNat 0) (y56 ++ (at' y20 0)))))))))))))))))

theorem ok_i_RingPut (x0 : List (List Int)) (x1 : List Int) (x2 : Int) (a4 : Option Addr) (c5 : Nat) (l6 : Nat) (hl7 : x0.length = l6) (a8 : Option Addr) (c9 : Nat) (l10 : Nat) (hl11 : x1.length = l10) (r : List (List Int) × Bool) (h : M_i_RingPut x0 x1 x2 = some r) :
  FC Tryz.prog 204 [.agg #[.slice a4 l6 c5], .slice a8 l10 c9, .int .i64 x2] [⟨(.sl (.int .i64)), ⟨a4, l6, c5⟩, x0⟩, ⟨(.int .i64), ⟨a8, l10, c9⟩, x1⟩] (fun _ : Option Addr × Nat => True) (fun q => .tuple #[.agg #[.slice q.1 r.1.length q.2], .bool r.2]) (fun q => [⟨(.sl (.int .i64)), ⟨q.1, r.1.length, q.2⟩, r.1⟩]) :=
 by
  subst hl7
  subst hl11
  refine FC.of (T := TTx) Tryz.call204 Tryz.func204 E E fun w0 => ?_
  unfold M_i_RingPut at h
  refine JS.rgB ttOk 3 [] [3, 4] [(3, .bp 3 0), (6, .bp 4 0)] (.new 3 41 [.slice a4 x0.length c5] (.new 4 41 [.slice none 0 0] .nil)) ⟨(Es E), (Bs E E)⟩ E E (JS.seq (JS.seq (JS.region (JO.reg ttOk 1 [] [] [(9, .v (.agg #[.slice a4 x0.length c5]))] _ E ⟨⟨E, V⟩, E⟩ ?_))))
  obtain ⟨y12, hy13, h⟩ := bindO_some h
  refine JO.call E E E E (ok_i_RingOk x0 a4 c5 x0.length E _ hy13) E [0] E E fun _ _ => JO.reg ttOk 3 [] [] [(12, .v (.bool (!y12))), (13, .cd [(12, false)] (.v (I x2)))] _ E ⟨(Es E), E⟩ ?_
  obtain ⟨y14, hy15, -, h⟩ := callO_some h
  refine JO.callg E E E E (fun q87 => ok_i_in x2 0 2 _ (hy15 q87)) E [] E E (JO.reg ttOk 4 [] [] [(17, .v (.bool (bif (!y12) then true else (!y14)))), (18, .cd [(17, false)] (.v (.slice a8 x1.length c9)))] _ E ⟨(Es E), E⟩ ?_)
  obtain ⟨y17, hy18, -, h⟩ := callO_some h
  refine JO.callg E E E E (fun q88 => ok_i_areAdmissible x1 a8 c9 x1.length E _ (hy18 q88)) E [1] E E (JO.reg ttOk 2 [] [] [(21, .v (.bool (bif (bif (!y12) then true else (!y14)) then true else (!y17))))] _ E ⟨⟨E, V⟩, E⟩ (JO.done E ?_))
  refine JS.cond E (fun ht98 => ?_) (fun ht98 => ?_)
  ·
   have h := condT h ht98
   refine JS.rgB ttOk 3 [] [] [(7, .v (.bool false))] (.new 4 41 [.slice none 0 0] .nil) ⟨⟨E, V⟩, (Bs E E)⟩ E E ?_
   cases h
   refine JS.nilO (.sl (.int .i64)) Sl.nil E E (JS.ret ttOk (none, 0) V E E [0] E)
  have h := condF h ht98
  refine JS.skip (JS.seq (JS.region (JO.reg ttOk 1 [] [] [(23, .v (.agg #[.slice a4 x0.length c5]))] _ E ⟨⟨E, V⟩, E⟩ ?_)))
  obtain ⟨y20, hy21, h⟩ := bindO_some h
  refine JO.call E E E E (ok_i_copyRing x0 a4 c5 x0.length E _ hy21) E [0] E E ?_
  rintro ⟨a22, c23⟩ -
  refine JO.regB ttOk 2 [] [16] [(8, .bp 16 0)] (.new 4 41 [.slice none 0 0] (.new 16 41 [.slice a22 y20.length c23] .nil)) E ⟨⟨E, V⟩, (Bs E E)⟩ (JO.done E (JS.seq ?_))
  obtain ⟨j76, hj97, h⟩ := joinO_some h
  refine JS.blockJ (ι := List (List Int) × Option Addr × Nat) ⟨fun z => j76 z.1 = some r, fun z => [(6, .bp 4 0), (8, .bp 16 0)], fun z => (.new 4 41 [.slice none 0 0] (.new 16 41 [.slice z.2.1 z.1.length z.2.2] .nil)), fun z => [], fun z => [⟨(.sl (.int .i64)), ⟨z.2.1, z.1.length, z.2.2⟩, z.1⟩], fun z => 0⟩ ?_ ?_
  ·
   refine JS.rg0 ttOk 4 [(37, .v (.bool (decide ((x1.length : Int) = 0))))] ⟨⟨E, V⟩, E⟩ E E ?_
   refine JS.cond E (fun ht96 => ?_) (fun ht96 => ?_)
   ·
    have h := condT h ht96
    refine JS.skip (JS.endB (JS.endJ (y20, a22, c23) h (Es E) (Bs E E) [] E [0] E))
   have h := condF h ht96
   refine JS.seq (JS.region (JO.know 2 E fun hs89 => ?_))
   obtain ⟨g25, h⟩ := guardO_some h
   refine JO.reg ttOk 13 [] [] [(50, .v (.bool (bif (decide (x2 = 0)) then true else (decide ((y20.length : Int) = 0))))), (54, .cd [(50, false)] (.ep ⟨a22, y20.length, c23⟩ (Int.toNat 0 * 1)))] _ E ⟨(fun q90 => hs89.ix (g25 q90)), (fun q91 => hs89.fa (g25 q91)), (Es E), E⟩ (JO.lend [0] E (Int.toNat 0) (at' y20 0) E fun a28 c29 l30 hl31 => ?_)
   obtain rfl : ([.slice a28 (at' y20 0).length c29] : List Value) = l30 := Option.some.inj hl31
   refine JO.loadV ttOk E E E E E E 2 E E (Int.toNat 0) 0 (Sum.inr [.slice a28 (at' y20 0).length c29]) (fun q92 => ⟨lentL_at (at_some (g25 q92)), E⟩) E E E (JO.reg ttOk 7 [(W (((at' y20 0).length : Int) + (x1.length : Int)))] [] [(41, .v (.bool (bif (bif (decide (x2 = 0)) then true else (decide ((y20.length : Int) = 0))) then true else (decide (400 < (W (((at' y20 0).length : Int) + (x1.length : Int))))))))] _ E ⟨(fun q93 => ⟨V, E⟩), ⟨E, V⟩, E⟩ (JO.unlend0 [0, 0] E (at' y20 0) E ⟨E, E, E⟩ (JO.done E ?_)))
   refine JS.cond E (fun ht95 => ?_) (fun ht95 => ?_)
   ·
    have h := condT h ht95
    refine JS.seq ?_
    obtain ⟨y34, hy35, h⟩ := bindO_some h
    obtain ⟨g39, h⟩ := guardO_some h
    refine JS.regionA E (.new 16 41 [.slice a22 y20.length c23] .nil) [] [6, 7, 8] ⟨E, E, E, E, V⟩ E (fun be42 => ?_)
    refine JA.reg ttOk panic_cx true 6 [0, 4, 5] E (by kernel_rfl) [] [(62, .v (.slice a8 x1.length c9)), (67, .v (.slice a22 y20.length c23))] ⟨E, E, E, E, V⟩ [] E E (Es E) (JA.one 1 (by kernel_rfl) (JK.call E E E E (ok_i_copyInts x1 a8 c9 x1.length E _ hy35) E [1] E E ?_))
    rintro ⟨a36, c37⟩ -
    refine JA.next ⟨E, E, E, E, V⟩ [] E (JA.reg ttOk panic_cx true 4 [2] E (by kernel_rfl) [] [(64, .v (.agg #[.slice a36 y34.length c37]))] ⟨E, E, E, E, V⟩ [] E E ⟨E, V⟩ (JA.one 3 (by kernel_rfl) (JK.buildSlice ttOk E E E E E E E E E E E [0] E (.sl (.int .i64)) [y34] ⟨E, E, E⟩ E E fun a38 => JA.next ⟨E, E, E, E, V⟩ [] E (JA.one 6 (by kernel_rfl) (JK.appendO' ttOk E E E E ⟨E, E, E, E, V, E, E, E, E⟩ E E [0, 0] E g39 E fun a40 c41 => JA.nextL E (JA.regL ttOk panic_cx 1 [7] E (by kernel_rfl) [] [(69, .bp 16 0)] E ⟨E, V⟩ (JA.one 8 (by kernel_rfl) (JK.stBox ttOk E E E E E E E E (JA.nextL E (JA.done (by kernel_rfl) (JS.boxes (B' := (.new 4 41 [.slice none 0 0] (.new 16 41 [.slice a40 (([y34] : List (List Int)) ++ y20).length c41] .nil))) (Bs E E) (JS.region (JO.reg ttOk 6 [] [] [(71, .v (.slice a40 (([y34] : List (List Int)) ++ y20).length c41)), (75, .v (I (min ((([y34] : List (List Int)) ++ y20).length : Int) 6)))] _ E ⟨(Es E), E⟩ ?_)))))))))))))
    obtain ⟨g43, h⟩ := guardO_some h
    refine JO.sliceO' ttOk E E E E E E E E [0] E (0 : Int) (min ((([y34] : List (List Int)) ++ y20).length : Int) 6) E E g43 E fun a44 c45 => JO.regB ttOk 2 [] [] [] (.new 4 41 [.slice none 0 0] (.new 16 41 [.slice a44 (sub' (([y34] : List (List Int)) ++ y20) 0 (min ((([y34] : List (List Int)) ++ y20).length : Int) 6)).length c45] .nil)) E ⟨V, (Bs E E)⟩ (JO.done E (JS.endB (JS.endJ ((sub' (([y34] : List (List Int)) ++ y20) 0 (min ((([y34] : List (List Int)) ++ y20).length : Int) 6)), a44, c45) h (Es E) (Bs E E) [] E [0] E)))
   have h := condF h ht95
   refine JS.rg0 ttOk 3 [(78, .v (.bool (decide (x2 = 1))))] ⟨⟨E, V⟩, E⟩ E E ?_
   refine JS.cond E (fun ht94 => ?_) (fun ht94 => ?_)
   ·
    have h := condT h ht94
    obtain ⟨g46, h⟩ := guardO_some h
    obtain ⟨g51, h⟩ := guardO_some h
    obtain ⟨g54, h⟩ := guardO_some h
    refine JS.ofO (id := 0) (JO.lend [0] E (Int.toNat 0) (at' y20 0) E ?_)
    intro a47 c48 l49 hl50
    obtain rfl : ([.slice a47 (at' y20 0).length c48] : List Value) = l49 := Option.some.inj hl50
    refine JO.ofS ?_
    refine JS.regionA E (.new 16 41 [.slice a22 y20.length c23] .nil) [2] [9, 10, 11] ⟨E, E, E, E, V⟩ E (fun be55 => ?_)
    refine JA.reg ttOk panic_cx true 5 [0, 1, 2, 3, 4, 5, 7] E (by kernel_rfl) [] [(82, .v (.slice a22 y20.length c23)), (86, .ep ⟨a22, y20.length, c23⟩ (Int.toNat 0 * 1)), (88, .v (.slice a8 x1.length c9))] ⟨E, E, E, E, V⟩ [2] E E ⟨hs89.ix g46, hs89.fa g46, (Es E)⟩ (JA.loadV ttOk panic_cx 6 E (by kernel_rfl) E E E E E 0 E E (Int.toNat 0) 0 (Sum.inr [.slice a47 (at' y20 0).length c48]) ⟨lentL_at (at_some g46), E⟩ E E E ⟨E, E, E, E, V⟩ [2] E (JA.one 8 (by kernel_rfl) (JK.appendR' ttOk E E E E ⟨E, E, E, E, V, E, E, E, E⟩ E E E [1] E 1 E g51 E fun a52 c53 => JA.next ⟨E, E, E, E, V⟩ [3] E (JA.regL ttOk panic_cx 1 [9, 10] E (by kernel_rfl) [] [(91, .ep ⟨a22, y20.length, c23⟩ (Int.toNat 0 * 1))] E ⟨hs89.ix g54, hs89.fa g54, ⟨E, V⟩⟩ (JA.one 11 (by kernel_rfl) (JK.storeL ttOk E E E E E E E E E [1] E 0 [.slice a52 ((at' y20 0) ++ x1).length c53] (lentL_at (at_some g54)) E ⟨E, E, E⟩ (JA.nextL E (JA.done (by kernel_rfl) (JS.boxes (B' := (.new 4 41 [.slice none 0 0] (.new 16 41 [.slice a22 y20.length c23] .nil))) (Bs E E) ?_)))))))))
    refine JS.ofO (id := 0) (JO.unlend [0, 0] E ((at' y20 0) ++ x1) ⟨E, E, E⟩ (JO.ofS ?_))
    refine JS.endB (JS.endJ ((List.set y20 (Int.toNat 0) ((at' y20 0) ++ x1)), a22, c23) h (Es E) ⟨E, E, E, E, E, (congrArg (fun n => ([.slice a22 n c23] : List Value)) (List.length_set.trans E)), E, E, V⟩ [] E [0] (by simp only [List.length_set, List.length_replicate, pickO, getF, cl32, cl46]; rfl))
   have h := condF h ht94
   obtain ⟨y56, hy57, h⟩ := bindO_some h
   obtain ⟨g60, h⟩ := guardO_some h
   obtain ⟨g65, h⟩ := guardO_some h
   obtain ⟨g68, h⟩ := guardO_some h
   refine JS.ofO (id := 0) (JO.lend [0] E (Int.toNat 0) (at' y20 0) E ?_)
   intro a61 c62 l63 hl64
   obtain rfl : ([.slice a61 (at' y20 0).length c62] : List Value) = l63 := Option.some.inj hl64
   refine JO.ofS ?_
   refine JS.regionA E (.new 16 41 [.slice a22 y20.length c23] .nil) [2] [10, 11, 12] ⟨E, E, E, E, V⟩ E (fun be69 => ?_)
   refine JA.reg ttOk panic_cx true 6 [0, 1, 2, 4, 5, 6, 7] E (by kernel_rfl) [] [(26, .v (.slice a22 y20.length c23)), (27, .v (.slice a8 x1.length c9)), (32, .ep ⟨a22, y20.length, c23⟩ (Int.toNat 0 * 1))] ⟨E, E, E, E, V⟩ [2] E E ⟨hs89.ix g60, hs89.fa g60, (Es E)⟩ (JA.loadV ttOk panic_cx 8 E (by kernel_rfl) E E E E E 0 E E (Int.toNat 0) 0 (Sum.inr [.slice a61 (at' y20 0).length c62]) ⟨lentL_at (at_some g60), E⟩ E E E ⟨E, E, E, E, V⟩ [2] E (JA.one 3 (by kernel_rfl) (JK.call E E E E (ok_i_copyInts x1 a8 c9 x1.length E _ hy57) E [1] E E ?_)))
   rintro ⟨a58, c59⟩ -
   refine JA.next ⟨E, E, E, E, V⟩ [3] E (JA.one 9 (by kernel_rfl) (JK.appendR' ttOk E E E E ⟨E, E, E, E, V, E, E, E, E⟩ E E E [0] E 4 E g65 E fun a66 c67 => JA.next ⟨E, E, E, E, V⟩ [3] E (JA.regL ttOk panic_cx 1 [10, 11] E (by kernel_rfl) [] [(36, .ep ⟨a22, y20.length, c23⟩ (Int.toNat 0 * 1))] E ⟨hs89.ix g68, hs89.fa g68, ⟨E, V⟩⟩ (JA.one 12 (by kernel_rfl) (JK.storeL ttOk E E E E E E E E E [1] E 0 [.slice a66 (y56 ++ (at' y20 0)).length c67] (lentL_at (at_some g68)) E ⟨E, E, E⟩ (JA.nextL E (JA.done (by kernel_rfl) (JS.boxes (B' := (.new 4 41 [.slice none 0 0] (.new 16 41 [.slice a22 y20.length c23] .nil))) (Bs E E) ?_))))))))
   refine JS.ofO (id := 0) (JO.unlend [0, 0] E (y56 ++ (at' y20 0)) ⟨E, E, E⟩ (JO.ofS ?_))
   refine JS.endB (JS.endJ ((List.set y20 (Int.toNat 0) (y56 ++ (at' y20 0))), a22, c23) h (Es E) ⟨E, E, E, E, E, (congrArg (fun n => ([.slice a22 n c23] : List Value)) (List.length_set.trans E)), E, E, V⟩ [] E [0] (by simp only [List.length_set, List.length_replicate, pickO, getF, cl32, cl46]; rfl))
  rintro ⟨x73, a74, c75⟩ h
  subst hj97
  refine JS.rgB ttOk 3 [] [] [(7, .v (.bool true))] (.new 4 41 [.slice a74 x73.length c75] .nil) ⟨⟨E, V⟩, (Bs E E)⟩ E E ?_
  cases h
  exact JS.ret ttOk (a74, c75) V E E [0] E

def M_i_kill (x0 : EdQ) (x1 : Int) (x2 : Int) (x3 : Int) : Option (EdQ × Int) :=
  (bindO (M_i_LineCut x0.2.2.1 x1 x2) fun (y29, y30, y31) =>
  (bif (bif (!y31) then true else (decide ((y30.length : Int) = 0))) then
  (bindO (M_i_bell x0) fun (y37, y38) =>
  some (y37, y38))
  else
  (joinO (fun (x53 : Int) =>
  (bindO (M_i_set x0 y29 2) fun (y56 : EdQ) =>
  (bindO (M_i_RingPut x0.2.2.2.2.2.2.2.2.2.2.1 y30 x53) fun (y70, y71) =>
  some ((y56.1, y56.2.1, y56.2.2.1, y56.2.2.2.1, y56.2.2.2.2.1, y56.2.2.2.2.2.1, y56.2.2.2.2.2.2.1, y56.2.2.2.2.2.2.2.1, y56.2.2.2.2.2.2.2.2.1, y56.2.2.2.2.2.2.2.2.2.1, y70, y56.2.2.2.2.2.2.2.2.2.2.2.1, y56.2.2.2.2.2.2.2.2.2.2.2.2.1, y56.2.2.2.2.2.2.2.2.2.2.2.2.2.1, y56.2.2.2.2.2.2.2.2.2.2.2.2.2.2.1, y56.2.2.2.2.2.2.2.2.2.2.2.2.2.2.2.1, y56.2.2.2.2.2.2.2.2.2.2.2.2.2.2.2.2), 0)))) fun j54 =>
  (bif (!(decide (x0.2.2.2.2.2.2.2.2.2.1 = 2))) then
  j54 0
  else
  j54 x3))))

theorem ok_i_kill (x0 : EdQ) (x1 : Int) (x2 : Int) (x3 : Int) (a5 : Option Addr) (c6 : Nat) (l7 : Nat) (hl8 : x0.2.2.1.1.length = l7) (a9 : Option Addr) (c10 : Nat) (l11 : Nat) (hl12 : (Q8 x0).2.2.1.length = l11) (a13 : Option Addr) (c14 : Nat) (l15 : Nat) (hl16 : (Q8 x0).2.2.2.1.length = l15) (a17 : Option Addr) (c18 : Nat) (l19 : Nat) (hl20 : (Q12 x0).2.1.1.length = l19) (a21 : Option Addr) (c22 : Nat) (l23 : Nat) (hl24 : (Q12 x0).2.2.1.length = l23) (a25 : Option Addr) (c26 : Nat) (l27 : Nat) (hl28 : (Q16 x0).1.length = l27) (r : EdQ × Int) (h : M_i_kill x0 x1 x2 x3 = some r) :
  FC Tryz.prog 117 [.agg #[.bool x0.1, .int .i64 x0.2.1, .slice a5 l7 c6, .int .i64 x0.2.2.1.2, .int .i64 x0.2.2.2.1, .int .i64 (Q4 x0).1, .int .i64 (Q4 x0).2.1, .int .i64 (Q4 x0).2.2.1, .int .i64 (Q4 x0).2.2.2.1, .int .i64 (Q8 x0).1, .int .i64 (Q8 x0).2.1, .slice a9 l11 c10, .slice a13 l15 c14, .int .i64 (Q12 x0).1, .slice a17 l19 c18, .int .i64 (Q12 x0).2.1.2, .slice a21 l23 c22, .int .i64 (Q12 x0).2.2.2.1, .slice a25 l27 c26, .int .i64 (Q16 x0).2], .int .i64 x1, .int .i64 x2, .int .i64 x3] [⟨(.int .i64), ⟨a5, l7, c6⟩, x0.2.2.1.1⟩, ⟨(.sl (.int .i64)), ⟨a9, l11, c10⟩, (Q8 x0).2.2.1⟩, ⟨(.pair (.sl (.int .i64)) (.int .i64)), ⟨a13, l15, c14⟩, (Q8 x0).2.2.2.1⟩, ⟨(.int .i64), ⟨a17, l19, c18⟩, (Q12 x0).2.1.1⟩, ⟨(.int .i64), ⟨a21, l23, c22⟩, (Q12 x0).2.2.1⟩, ⟨(.int .i64), ⟨a25, l27, c26⟩, (Q16 x0).1⟩] (fun _ : Option Addr × Nat × Option Addr × Nat × Option Addr × Nat × Option Addr × Nat × Option Addr × Nat × Option Addr × Nat => True) (fun q => .tuple #[.agg (cl46 r.1 q.1 q.2.1 q.2.2.1 q.2.2.2.1 (Q4 q).1 (Q4 q).2.1 (Q4 q).2.2.1 (Q4 q).2.2.2.1 (Q8 q).1 (Q8 q).2.1 (Q8 q).2.2.1 (Q8 q).2.2.2).toArray, .int .i64 r.2]) (fun q => (fl32 r.1 q.1 q.2.1 q.2.2.1 q.2.2.2.1 (Q4 q).1 (Q4 q).2.1 (Q4 q).2.2.1 (Q4 q).2.2.2.1 (Q8 q).1 (Q8 q).2.1 (Q8 q).2.2.1 (Q8 q).2.2.2 [])) :=
 by
  subst hl8
  subst hl12
  subst hl16
  subst hl20
  subst hl24
  subst hl28
  refine FC.of (T := TTx) Tryz.call117 Tryz.func117 E E fun w0 => ?_
  unfold M_i_kill at h
  refine JS.rgB ttOk 3 [] [7, 8] [(4, .bp 7 0), (8, .bp 8 0)] (.new 7 46 (cl46 x0 a5 c6 a9 c10 a13 c14 a17 c18 a21 c22 a25 c26) (.new 8 46 cz46 .nil)) ⟨(Es E), (Bs E E)⟩ E E (JS.seq (JS.region (JO.reg ttOk 4 [] [] [(16, .v (.agg #[.slice a5 x0.2.2.1.1.length c6, .int .i64 x0.2.2.1.2])), (17, .v (I x1)), (18, .v (I x2))] _ E ⟨(Es E), E⟩ ?_)))
  obtain ⟨⟨y29, y30, y31⟩, hy32, h⟩ := bindO_some h
  refine JO.call E E E E (ok_i_LineCut x0.2.2.1 x1 x2 a5 c6 x0.2.2.1.1.length E _ hy32) E [0] E E ?_
  rintro ⟨a33, c34, a35, c36⟩ -
  refine JO.regB ttOk 8 [] [19] [(10, .bp 19 0), (11, .v (.slice a35 y30.length c36)), (12, .v (.bool y31))] (.new 7 46 (cl46 x0 a5 c6 a9 c10 a13 c14 a17 c18 a21 c22 a25 c26) (.new 8 46 cz46 (.new 19 38 [.slice a33 y29.1.length c34, .int .i64 y29.2] .nil))) E ⟨(Es E), (Bs E E)⟩ (JO.done E (JS.seq (JS.rg0 ttOk 7 [(29, .v (.bool (bif (!y31) then true else (decide ((y30.length : Int) = 0)))))] ⟨⟨E, V⟩, E⟩ E E ?_)))
  refine JS.cond E (fun ht79 => ?_) (fun ht79 => ?_)
  ·
   have h := condT h ht79
   refine JS.seq (JS.region (JO.reg ttOk 1 [] [] [(30, .v (.agg (cl46 x0 a5 c6 a9 c10 a13 c14 a17 c18 a21 c22 a25 c26).toArray))] _ E ⟨⟨E, V⟩, E⟩ ?_))
   obtain ⟨⟨y37, y38⟩, hy39, h⟩ := bindO_some h
   refine JO.call E E E E (ok_i_bell x0 a5 c6 x0.2.2.1.1.length E a9 c10 (Q8 x0).2.2.1.length E a13 c14 (Q8 x0).2.2.2.1.length E a17 c18 (Q12 x0).2.1.1.length E a21 c22 (Q12 x0).2.2.1.length E a25 c26 (Q16 x0).1.length E _ hy39) E [0, 1, 2, 3, 4, 5] E E ?_
   rintro ⟨a40, c41, a42, c43, a44, c45, a46, c47, a48, c49, a50, c51⟩ -
   refine JO.regB ttOk 4 [] [] [(9, .v (I y38))] (.new 8 46 (cl46 y37 a40 c41 a42 c43 a44 c45 a46 c47 a48 c49 a50 c51) .nil) E ⟨⟨E, V⟩, (Bs E E)⟩ (JO.done E ?_)
   cases h
   exact JS.ret ttOk (a40, c41, a42, c43, a44, c45, a46, c47, a48, c49, a50, c51) V E E [0, 0, 0, 0, 0, 0] E
  have h := condF h ht79
  refine JS.skip ?_
  obtain ⟨j54, hj78, h⟩ := joinO_some h
  refine JS.seqJ (ι := Int) ⟨fun z => j54 z = some r, fun z => [(3, .v (I z)), (4, .bp 7 0), (8, .bp 8 0), (10, .bp 19 0), (11, .v (.slice a35 y30.length c36))], fun z => (.new 7 46 (cl46 x0 a5 c6 a9 c10 a13 c14 a17 c18 a21 c22 a25 c26) (.new 8 46 cz46 (.new 19 38 [.slice a33 y29.1.length c34, .int .i64 y29.2] .nil))), fun z => (fl32 x0 a5 c6 a9 c10 a13 c14 a17 c18 a21 c22 a25 c26 []), fun z => [⟨(.int .i64), ⟨a35, y30.length, c36⟩, y30⟩, ⟨(.int .i64), ⟨a33, y29.1.length, c34⟩, y29.1⟩], fun z => 0⟩ ?_ ?_
  ·
   refine JS.rg0 ttOk 3 [(36, .v (.bool (!(decide ((Q8 x0).2.1 = 2)))))] ⟨⟨E, V⟩, E⟩ E E ?_
   refine JS.cond E (fun ht77 => ?_) (fun ht77 => ?_)
   ·
    have h := condT h ht77
    refine JS.re0 ttOk 1 [(3, .v (I 0))] ⟨⟨E, V⟩, E⟩ E E (JS.endJ 0 h (Es E) (Bs E E) [0, 1, 2, 3, 4, 5] E [1, 0] E)
   have h := condF h ht77
   refine JS.skip (JS.endJ x3 h (Es E) (Bs E E) [0, 1, 2, 3, 4, 5] E [1, 0] E)
  rintro x53 h
  subst hj78
  refine JS.seq (JS.region (JO.reg ttOk 2 [] [] [(37, .v (.agg (cl46 x0 a5 c6 a9 c10 a13 c14 a17 c18 a21 c22 a25 c26).toArray)), (38, .v (.agg #[.slice a33 y29.1.length c34, .int .i64 y29.2]))] _ E ⟨(Es E), E⟩ ?_))
  obtain ⟨y56, hy57, h⟩ := bindO_some h
  refine JO.call E E E E (ok_i_set x0 y29 2 a5 c6 x0.2.2.1.1.length E a9 c10 (Q8 x0).2.2.1.length E a13 c14 (Q8 x0).2.2.2.1.length E a17 c18 (Q12 x0).2.1.1.length E a21 c22 (Q12 x0).2.2.1.length E a25 c26 (Q16 x0).1.length E a33 c34 y29.1.length E _ hy57) E [0, 1, 2, 3, 4, 5, 7] E E ?_
  rintro ⟨a58, c59, a60, c61, a62, c63, a64, c65, a66, c67, a68, c69⟩ -
  refine JO.regB ttOk 2 [] [63] [(13, .bp 63 0)] (.new 7 46 (cl46 x0 a5 c6 a9 c10 a13 c14 a17 c18 a21 c22 a25 c26) (.new 8 46 cz46 (.new 63 46 (cl46 y56 a58 c59 a60 c61 a62 c63 a64 c65 a66 c67 a68 c69) .nil))) E ⟨⟨E, V⟩, (Bs E E)⟩ (JO.done E (JS.seq (JS.region (JO.reg ttOk 4 [] [] [(42, .v (.agg #[.slice a9 (Q8 x0).2.2.1.length c10])), (43, .v (.slice a35 y30.length c36)), (44, .v (I x53))] _ E ⟨(Es E), E⟩ ?_))))
  obtain ⟨⟨y70, y71⟩, hy72, h⟩ := bindO_some h
  refine JO.call E E E E (ok_i_RingPut (Q8 x0).2.2.1 y30 x53 a9 c10 (Q8 x0).2.2.1.length E a35 c36 y30.length E _ hy72) E [1, 12] E E ?_
  rintro ⟨a73, c74⟩ -
  refine JO.regB ttOk 5 [] [] [] (.new 8 46 cz46 (.new 63 46 (cl46 (y56.1, y56.2.1, y56.2.2.1, y56.2.2.2.1, (Q4 y56).1, (Q4 y56).2.1, (Q4 y56).2.2.1, (Q4 y56).2.2.2.1, (Q8 y56).1, (Q8 y56).2.1, y70, (Q8 y56).2.2.2.1, (Q12 y56).1, (Q12 y56).2.1, (Q12 y56).2.2.1, (Q12 y56).2.2.2.1, (Q16 y56)) a58 c59 a73 c74 a62 c63 a64 c65 a66 c67 a68 c69) .nil)) E ⟨V, (Bs E E)⟩ (JO.done E (JS.rgB ttOk 3 [] [] [(9, .v (I 0))] (.new 8 46 (cl46 (y56.1, y56.2.1, y56.2.2.1, y56.2.2.2.1, (Q4 y56).1, (Q4 y56).2.1, (Q4 y56).2.2.1, (Q4 y56).2.2.2.1, (Q8 y56).1, (Q8 y56).2.1, y70, (Q8 y56).2.2.2.1, (Q12 y56).1, (Q12 y56).2.1, (Q12 y56).2.2.1, (Q12 y56).2.2.2.1, (Q16 y56)) a58 c59 a73 c74 a62 c63 a64 c65 a66 c67 a68 c69) .nil) ⟨⟨E, V⟩, (Bs E E)⟩ E E ?_))
  cases h
  exact JS.ret ttOk (a58, c59, a73, c74, a62, c63, a64, c65, a66, c67, a68, c69) V E E [1, 0, 1, 1, 1, 1] E

def M_i_plainCtrl (x0 : EdQ) (x1 : Int) : Option (EdQ × Int × Bool) :=
  (bindO (M_i_copyEd x0) fun (y27 : EdQ) =>
  (joinO (fun ((x95, x96) : Int × EdQ) =>
  some (x96, x95, true)) fun j109 =>
  (bif (decide (x1 = 99)) then
  j109 (3, y27)
  else
  (bif (decide (x1 = 108)) then
  j109 (5, y27)
  else
  (bif (decide (x1 = 100)) then
  (bif (decide (0 < (x0.2.2.1.1.length : Int))) then
  (bindO (M_i_cut x0 x0.2.2.1.2 (min (W (x0.2.2.1.2 + (max x0.2.2.2.1 1))) (x0.2.2.1.1.length : Int))) fun (y41, y42) =>
  j109 (y42, y41))
  else
  j109 (4, y27))
  else
  (bif (decide (x1 = 117)) then
  (bindO (M_i_kill x0 0 x0.2.2.1.2 2) fun (y57, y58) =>
  j109 (y58, y57))
  else
  (bif (decide (x1 = 119)) then
  (bindO (M_i_ViWordBack x0.2.2.1.1 x0.2.2.1.2 true) fun (y72 : Int) =>
  (bindO (M_i_kill x0 y72 x0.2.2.1.2 2) fun (y74, y75) =>
  j109 (y75, y74)))
  else
  some ((false, 0, ([], 0), 0, 0, 0, 0, 0, 0, 0, [], [], 0, ([], 0), [], 0, ([], 0)), 0, false))))))))

theorem ok_i_plainCtrl (x0 : EdQ) (x1 : Int) (a3 : Option Addr) (c4 : Nat) (l5 : Nat) (hl6 : x0.2.2.1.1.length = l5) (a7 : Option Addr) (c8 : Nat) (l9 : Nat) (hl10 : (Q8 x0).2.2.1.length = l9) (a11 : Option Addr) (c12 : Nat) (l13 : Nat) (hl14 : (Q8 x0).2.2.2.1.length = l13) (a15 : Option Addr) (c16 : Nat) (l17 : Nat) (hl18 : (Q12 x0).2.1.1.length = l17) (a19 : Option Addr) (c20 : Nat) (l21 : Nat) (hl22 : (Q12 x0).2.2.1.length = l21) (a23 : Option Addr) (c24 : Nat) (l25 : Nat) (hl26 : (Q16 x0).1.length = l25) (r : EdQ × Int × Bool) (h : M_i_plainCtrl x0 x1 = some r) :
  FC Tryz.prog 167 [.agg #[.bool x0.1, .int .i64 x0.2.1, .slice a3 l5 c4, .int .i64 x0.2.2.1.2, .int .i64 x0.2.2.2.1, .int .i64 (Q4 x0).1, .int .i64 (Q4 x0).2.1, .int .i64 (Q4 x0).2.2.1, .int .i64 (Q4 x0).2.2.2.1, .int .i64 (Q8 x0).1, .int .i64 (Q8 x0).2.1, .slice a7 l9 c8, .slice a11 l13 c12, .int .i64 (Q12 x0).1, .slice a15 l17 c16, .int .i64 (Q12 x0).2.1.2, .slice a19 l21 c20, .int .i64 (Q12 x0).2.2.2.1, .slice a23 l25 c24, .int .i64 (Q16 x0).2], .int .i64 x1] [⟨(.int .i64), ⟨a3, l5, c4⟩, x0.2.2.1.1⟩, ⟨(.sl (.int .i64)), ⟨a7, l9, c8⟩, (Q8 x0).2.2.1⟩, ⟨(.pair (.sl (.int .i64)) (.int .i64)), ⟨a11, l13, c12⟩, (Q8 x0).2.2.2.1⟩, ⟨(.int .i64), ⟨a15, l17, c16⟩, (Q12 x0).2.1.1⟩, ⟨(.int .i64), ⟨a19, l21, c20⟩, (Q12 x0).2.2.1⟩, ⟨(.int .i64), ⟨a23, l25, c24⟩, (Q16 x0).1⟩] (fun _ : Option Addr × Nat × Option Addr × Nat × Option Addr × Nat × Option Addr × Nat × Option Addr × Nat × Option Addr × Nat => True) (fun q => .tuple #[.agg (cl46 r.1 q.1 q.2.1 q.2.2.1 q.2.2.2.1 (Q4 q).1 (Q4 q).2.1 (Q4 q).2.2.1 (Q4 q).2.2.2.1 (Q8 q).1 (Q8 q).2.1 (Q8 q).2.2.1 (Q8 q).2.2.2).toArray, .int .i64 r.2.1, .bool r.2.2]) (fun q => (fl32 r.1 q.1 q.2.1 q.2.2.1 q.2.2.2.1 (Q4 q).1 (Q4 q).2.1 (Q4 q).2.2.1 (Q4 q).2.2.2.1 (Q8 q).1 (Q8 q).2.1 (Q8 q).2.2.1 (Q8 q).2.2.2 [])) :=
 by
  subst hl6
  subst hl10
  subst hl14
  subst hl18
  subst hl22
  subst hl26
  refine FC.of (T := TTx) Tryz.call167 Tryz.func167 E E fun w0 => ?_
  unfold M_i_plainCtrl at h
  refine JS.rgB ttOk 4 [] [7, 8] [(2, .bp 7 0), (4, .bp 8 0)] (.new 7 46 (cl46 x0 a3 c4 a7 c8 a11 c12 a15 c16 a19 c20 a23 c24) (.new 8 46 cz46 .nil)) ⟨(Es E), (Bs E E)⟩ E E (JS.seq (JS.regionQ E (by kernel_rfl) (JQ.reg ttOk 8 [] [(7, .v (I x0.2.2.1.2)), (8, .v (I (max x0.2.2.2.1 1)))] E (Es E) (JQ.done E (JS.seq (JS.region (JO.reg ttOk 1 [] [] [(17, .v (.agg (cl46 x0 a3 c4 a7 c8 a11 c12 a15 c16 a19 c20 a23 c24).toArray))] _ E ⟨⟨E, V⟩, E⟩ ?_)))))))
  obtain ⟨y27, hy28, h⟩ := bindO_some h
  refine JO.call E E E E (ok_i_copyEd x0 a3 c4 x0.2.2.1.1.length E a7 c8 (Q8 x0).2.2.1.length E a11 c12 (Q8 x0).2.2.2.1.length E a15 c16 (Q12 x0).2.1.1.length E a19 c20 (Q12 x0).2.2.1.length E a23 c24 (Q16 x0).1.length E _ hy28) E [0, 1, 2, 3, 4, 5] E E ?_
  rintro ⟨a29, c30, a31, c32, a33, c34, a35, c36, a37, c38, a39, c40⟩ -
  refine JO.regB ttOk 3 [] [29] [(9, .bp 29 0)] (.new 7 46 (cl46 x0 a3 c4 a7 c8 a11 c12 a15 c16 a19 c20 a23 c24) (.new 8 46 cz46 (.new 29 46 (cl46 y27 a29 c30 a31 c32 a33 c34 a35 c36 a37 c38 a39 c40) .nil))) E ⟨⟨E, V⟩, (Bs E E)⟩ (JO.done E (JS.seq (JS.rg0 ttOk 1 [(19, .v (I x1))] ⟨⟨E, V⟩, E⟩ E E ?_)))
  obtain ⟨j109, hj123, h⟩ := joinO_some h
  refine JS.blockJ (ι := Int × EdQ × Option Addr × Nat × Option Addr × Nat × Option Addr × Nat × Option Addr × Nat × Option Addr × Nat × Option Addr × Nat) ⟨fun z => j109 (z.1, z.2.1) = some r, fun z => [(4, .bp 8 0), (9, .bp 29 0), (10, .v (I z.1))], fun z => (.new 8 46 cz46 (.new 29 46 (cl46 z.2.1 z.2.2.1 z.2.2.2.1 (Q4 z).1 (Q4 z).2.1 (Q4 z).2.2.1 (Q4 z).2.2.2.1 (Q8 z).1 (Q8 z).2.1 (Q8 z).2.2.1 (Q8 z).2.2.2.1 (Q12 z).1 (Q12 z).2) .nil)), fun z => [], fun z => (fl32 z.2.1 z.2.2.1 z.2.2.2.1 (Q4 z).1 (Q4 z).2.1 (Q4 z).2.2.1 (Q4 z).2.2.2.1 (Q8 z).1 (Q8 z).2.1 (Q8 z).2.2.1 (Q8 z).2.2.2.1 (Q12 z).1 (Q12 z).2 []), fun z => 0⟩ ?_ ?_
  ·
   refine JS.rg0 ttOk 2 [(21, .v (.bool (decide (x1 = 99))))] ⟨⟨E, V⟩, E⟩ E E ?_
   refine JS.cond E (fun ht122 => ?_) (fun ht122 => ?_)
   ·
    have h := condT h ht122
    refine JS.re0 ttOk 1 [(10, .v (I 3))] ⟨⟨E, V⟩, E⟩ E E (JS.endB (JS.endJA (3, y27, a29, c30, a31, c32, a33, c34, a35, c36, a37, c38, a39, c40) h (Es E) (Bs E E) [] E [0, 1, 2, 3, 4, 5] E E))
   have h := condF h ht122
   refine JS.rg0 ttOk 2 [(23, .v (.bool (decide (x1 = 108))))] ⟨⟨E, V⟩, E⟩ E E ?_
   refine JS.cond E (fun ht121 => ?_) (fun ht121 => ?_)
   ·
    have h := condT h ht121
    refine JS.re0 ttOk 1 [(10, .v (I 5))] ⟨⟨E, V⟩, E⟩ E E (JS.endB (JS.endJA (5, y27, a29, c30, a31, c32, a33, c34, a35, c36, a37, c38, a39, c40) h (Es E) (Bs E E) [] E [0, 1, 2, 3, 4, 5] E E))
   have h := condF h ht121
   refine JS.rg0 ttOk 2 [(25, .v (.bool (decide (x1 = 100))))] ⟨⟨E, V⟩, E⟩ E E ?_
   refine JS.cond E (fun ht120 => ?_) (fun ht120 => ?_)
   ·
    have h := condT h ht120
    refine JS.rg0 ttOk 1 [(10, .v (I 4))] ⟨⟨E, V⟩, E⟩ E E (JS.rg0 ttOk 5 [(31, .v (.bool (decide (0 < (x0.2.2.1.1.length : Int)))))] ⟨⟨E, V⟩, E⟩ E E ?_)
    refine JS.cond E (fun ht117 => ?_) (fun ht117 => ?_)
    ·
     have h := condT h ht117
     refine JS.region (JO.reg ttOk 10 [(W (x0.2.2.1.2 + (max x0.2.2.2.1 1)))] [] [(33, .v (.agg (cl46 x0 a3 c4 a7 c8 a11 c12 a15 c16 a19 c20 a23 c24).toArray)), (34, .v (I x0.2.2.1.2)), (42, .v (I (min (W (x0.2.2.1.2 + (max x0.2.2.2.1 1))) (x0.2.2.1.1.length : Int))))] _ E ⟨⟨V, E⟩, (Es E), E⟩ ?_)
     obtain ⟨⟨y41, y42⟩, hy43, h⟩ := bindO_some h
     refine JO.call E E E E (ok_i_cut x0 x0.2.2.1.2 (min (W (x0.2.2.1.2 + (max x0.2.2.2.1 1))) (x0.2.2.1.1.length : Int)) a3 c4 x0.2.2.1.1.length E a7 c8 (Q8 x0).2.2.1.length E a11 c12 (Q8 x0).2.2.2.1.length E a15 c16 (Q12 x0).2.1.1.length E a19 c20 (Q12 x0).2.2.1.length E a23 c24 (Q16 x0).1.length E _ hy43) E [0, 1, 2, 3, 4, 5] E E ?_
     rintro ⟨a44, c45, a46, c47, a48, c49, a50, c51, a52, c53, a54, c55⟩ -
     refine JO.regB ttOk 5 [] [] [(10, .v (I y42))] (.new 8 46 cz46 (.new 29 46 (cl46 y41 a44 c45 a46 c47 a48 c49 a50 c51 a52 c53 a54 c55) .nil)) E ⟨⟨E, V⟩, (Bs E E)⟩ (JO.done E (JS.endB (JS.endJA (y42, y41, a44, c45, a46, c47, a48, c49, a50, c51, a52, c53, a54, c55) h (Es E) (Bs E E) [] E [0, 1, 2, 3, 4, 5] E E)))
    have h := condF h ht117
    refine JS.skip (JS.endB (JS.endJA (4, y27, a29, c30, a31, c32, a33, c34, a35, c36, a37, c38, a39, c40) h (Es E) (Bs E E) [] E [0, 1, 2, 3, 4, 5] E E))
   have h := condF h ht120
   refine JS.rg0 ttOk 2 [(46, .v (.bool (decide (x1 = 117))))] ⟨⟨E, V⟩, E⟩ E E ?_
   refine JS.cond E (fun ht119 => ?_) (fun ht119 => ?_)
   ·
    have h := condT h ht119
    refine JS.region (JO.reg ttOk 2 [] [] [(49, .v (.agg (cl46 x0 a3 c4 a7 c8 a11 c12 a15 c16 a19 c20 a23 c24).toArray)), (50, .v (I x0.2.2.1.2))] _ E ⟨(Es E), E⟩ ?_)
    obtain ⟨⟨y57, y58⟩, hy59, h⟩ := bindO_some h
    refine JO.call E E E E (ok_i_kill x0 0 x0.2.2.1.2 2 a3 c4 x0.2.2.1.1.length E a7 c8 (Q8 x0).2.2.1.length E a11 c12 (Q8 x0).2.2.2.1.length E a15 c16 (Q12 x0).2.1.1.length E a19 c20 (Q12 x0).2.2.1.length E a23 c24 (Q16 x0).1.length E _ hy59) E [0, 1, 2, 3, 4, 5] E E ?_
    rintro ⟨a60, c61, a62, c63, a64, c65, a66, c67, a68, c69, a70, c71⟩ -
    refine JO.regB ttOk 5 [] [] [(10, .v (I y58))] (.new 8 46 cz46 (.new 29 46 (cl46 y57 a60 c61 a62 c63 a64 c65 a66 c67 a68 c69 a70 c71) .nil)) E ⟨⟨E, V⟩, (Bs E E)⟩ (JO.done E (JS.endB (JS.endJA (y58, y57, a60, c61, a62, c63, a64, c65, a66, c67, a68, c69, a70, c71) h (Es E) (Bs E E) [] E [0, 1, 2, 3, 4, 5] E E)))
   have h := condF h ht119
   refine JS.rg0 ttOk 2 [(54, .v (.bool (decide (x1 = 119))))] ⟨⟨E, V⟩, E⟩ E E ?_
   refine JS.cond E (fun ht118 => ?_) (fun ht118 => ?_)
   ·
    have h := condT h ht118
    obtain ⟨y72, hy73, h⟩ := bindO_some h
    obtain ⟨⟨y74, y75⟩, hy76, h⟩ := bindO_some h
    refine JS.regionA E (.new 7 46 (cl46 x0 a3 c4 a7 c8 a11 c12 a15 c16 a19 c20 a23 c24) .nil) [] [7, 8, 9, 10, 11, 12] ⟨E, E, E, E, V⟩ E (fun be89 => ?_)
    refine JA.reg ttOk panic_cx true 10 [0, 4, 6] E (by kernel_rfl) [] [(57, .v (.agg (cl46 x0 a3 c4 a7 c8 a11 c12 a15 c16 a19 c20 a23 c24).toArray)), (61, .v (I x0.2.2.1.2)), (63, .v (I x0.2.2.1.2))] ⟨E, E, E, E, V⟩ [] E E (Es E) (JA.regL ttOk panic_cx 9 [1] E (by kernel_rfl) [] [(58, .bp 7 2)] E ⟨E, V⟩ (JA.reg ttOk panic_cx true 7 [2, 3] E (by kernel_rfl) [] [(60, .v (.slice a3 x0.2.2.1.1.length c4))] ⟨E, E, E, E, V⟩ [] E E ⟨E, V⟩ (JA.one 5 (by kernel_rfl) (JK.call E E E E (ok_i_ViWordBack x0.2.2.1.1 x0.2.2.1.2 true a3 c4 x0.2.2.1.1.length E _ hy73) E [0] E E fun _ _ => JA.next ⟨E, E, E, E, V⟩ [] E (JA.one 7 (by kernel_rfl) (JK.call E E E E (ok_i_kill x0 y72 x0.2.2.1.2 2 a3 c4 x0.2.2.1.1.length E a7 c8 (Q8 x0).2.2.1.length E a11 c12 (Q8 x0).2.2.2.1.length E a15 c16 (Q12 x0).2.1.1.length E a19 c20 (Q12 x0).2.2.1.length E a23 c24 (Q16 x0).1.length E _ hy76) E [0, 1, 2, 3, 4, 5] E E ?_))))))
    rintro ⟨a77, c78, a79, c80, a81, c82, a83, c84, a85, c86, a87, c88⟩ -
    refine JA.nextL E (JA.regL ttOk panic_cx 2 [8, 9, 10] E (by kernel_rfl) [] [(65, .v (.agg (cl46 y74 a77 c78 a79 c80 a81 c82 a83 c84 a85 c86 a87 c88).toArray)), (66, .v (I y75))] E (Es E) (JA.one 11 (by kernel_rfl) (JK.stBox ttOk E E E E E E E E (JA.nextL E (JA.regL ttOk panic_cx 0 [12] E (by kernel_rfl) [] [(10, .v (I y75))] E ⟨E, V⟩ (JA.done (by kernel_rfl) (JS.boxes (B' := (.new 8 46 cz46 (.new 29 46 (cl46 y74 a77 c78 a79 c80 a81 c82 a83 c84 a85 c86 a87 c88) .nil))) (Bs E E) (JS.endB (JS.endJA (y75, y74, a77, c78, a79, c80, a81, c82, a83, c84, a85, c86, a87, c88) h (Es E) (Bs E E) [] E [0, 1, 2, 3, 4, 5] E E)))))))))
   have h := condF h ht118
   refine JS.rgB ttOk 4 [] [] [(5, .v (I 0)), (6, .v (.bool false))] (.new 8 46 cz46 .nil) ⟨(Es E), (Bs E E)⟩ E E ?_
   cases h
   refine JS.nilO (.int .i64) Sl.nil E E (JS.nilO (.sl (.int .i64)) Sl.nil E E (JS.nilO (.pair (.sl (.int .i64)) (.int .i64)) Sl.nil E E (JS.nilO (.int .i64) Sl.nil E E (JS.nilO (.int .i64) Sl.nil E E (JS.nilO (.int .i64) Sl.nil E E (JS.ret ttOk (none, 0, none, 0, none, 0, none, 0, none, 0, none, 0) V E E [5, 4, 3, 2, 1, 0] E))))))
  rintro ⟨x95, x96, a97, c98, a99, c100, a101, c102, a103, c104, a105, c106, a107, c108⟩ h
  subst hj123
  refine JS.rgB ttOk 5 [] [] [(5, .v (I x95)), (6, .v (.bool true))] (.new 8 46 (cl46 x96 a97 c98 a99 c100 a101 c102 a103 c104 a105 c106 a107 c108) .nil) ⟨(Es E), (Bs E E)⟩ E E ?_
  cases h
  exact JS.ret ttOk (a97, c98, a99, c100, a101, c102, a103, c104, a105, c106, a107, c108) V E E [0, 0, 0, 0, 0, 0] E

def M_i_times_L1 (x0 : List Int) (x1 : Int) (j21 : (List Int) → Option (List Int)) (k15 : (List Int × Int) → Option (List Int)) : (List Int × Int) → Option (List Int) := fun (x7, x10) =>
  (bif (bif (decide (x10 < x1)) then (decide ((x7.length : Int) ≤ 400)) else false) then
  (guardO (x7.length + x0.length ≤ 536870912) <|
  k15 ((x7 ++ x0), (W (x10 + 1))))
  else
  j21 x7)

def M_i_times (x0 : List Int) (x1 : Int) : Option (List Int) :=
  (joinO (fun (x18 : List Int) =>
  some x18) fun j21 =>
  (fixF (M_i_times_L1 x0 x1 j21) FUEL (([] : List Int), 0)))

theorem ok_i_times (x0 : List Int) (x1 : Int) (a3 : Option Addr) (c4 : Nat) (l5 : Nat) (hl6 : x0.length = l5) (r : List Int) (h : M_i_times x0 x1 = some r) :
  FC Tryz.prog 166 [.slice a3 l5 c4, .int .i64 x1] [⟨(.int .i64), ⟨a3, l5, c4⟩, x0⟩] (fun _ : Option Addr × Nat => True) (fun q => .slice q.1 r.length q.2) (fun q => [⟨(.int .i64), ⟨q.1, r.length, q.2⟩, r⟩]) :=
 by
  subst hl6
  refine FC.of (T := TTx) Tryz.call166 Tryz.func166 E E fun w0 => ?_
  unfold M_i_times at h
  refine JS.rg0 ttOk 1 [] ⟨V, E⟩ E E (JS.rg0 ttOk 1 [(5, .v (.slice none 0 0))] ⟨⟨E, V⟩, E⟩ E E (JS.seq (JS.rg0 ttOk 1 [(6, .v (I 0))] ⟨⟨E, V⟩, E⟩ E E ?_)))
  obtain ⟨j21, hj25, h⟩ := joinO_some h
  refine JS.blockJ (ι := List Int × Option Addr × Nat) ⟨fun z => j21 z.1 = some r, fun z => [(5, .v (.slice z.2.1 z.1.length z.2.2))], fun z => .nil, fun z => [], fun z => [⟨(.int .i64), ⟨z.2.1, z.1.length, z.2.2⟩, z.1⟩], fun z => 0⟩ ?_ ?_
  ·
   refine JS.nilO (.int .i64) Sl.nil E E (JS.loop (ι := Nat × List Int × Int × Option Addr × Nat) ⟨fun z => fixF (M_i_times_L1 x0 x1 j21) z.1 (z.2.1, z.2.2.1) = some r, fun z => [(0, .v (.slice a3 x0.length c4)), (1, .v (I x1)), (5, .v (.slice z.2.2.2.1 z.2.1.length (Q4 z))), (6, .v (I z.2.2.1))], fun z => .nil, fun z => [⟨(.int .i64), ⟨a3, x0.length, c4⟩, x0⟩], fun z => [⟨(.int .i64), ⟨z.2.2.2.1, z.2.1.length, (Q4 z)⟩, z.2.1⟩], fun z => z.1⟩ (FUEL, ([] : List Int), 0, none, 0) h (Es E) V [0] E [0] E ?_)
   rintro ⟨n16, x7, x10, a8, c9⟩ h
   obtain ⟨n16, rfl, h⟩ := fixF_some h
   rw [M_i_times_L1] at h
   refine JS.seq (JS.rg0 ttOk 8 [(14, .v (.bool (bif (decide (x10 < x1)) then (decide ((x7.length : Int) ≤ 400)) else false)))] ⟨⟨E, V⟩, E⟩ E E ?_)
   refine JS.cond E (fun ht24 => ?_) (fun ht24 => ?_)
   ·
    have h := condT h ht24
    refine JS.skip (JS.seq (JS.block (JS.region (JO.reg ttOk 2 [] [] [(17, .v (.slice a8 x7.length c9)), (18, .v (.slice a3 x0.length c4))] _ E ⟨(Es E), E⟩ ?_))))
    obtain ⟨g11, h⟩ := guardO_some h
    refine JO.appendR' ttOk E E E E ⟨E, E, E, E, V, E, E, E, E⟩ E E E [0] E 0 E g11 E fun a12 c13 => JO.reg ttOk 1 [] [] [(5, .v (.slice a12 (x7 ++ x0).length c13))] _ E ⟨⟨E, V⟩, E⟩ (JO.done E (JS.endB (JS.re ttOk 3 [(W (x10 + 1))] [] [(6, .v (I (W (x10 + 1))))] _ ⟨⟨V, E⟩, ⟨E, V⟩, E⟩ E E (JS.endL (n16, (x7 ++ x0), (W (x10 + 1)), a12, c13) h (Nat.lt_succ_self _) (Es E) V [0] E [0] E))))
   have h := condF h ht24
   refine JS.exit E (JS.endJ (x7, a8, c9) h ⟨E, V⟩ V [] E [0] E)
  rintro ⟨x18, a19, c20⟩ h
  subst hj25
  refine JS.rg0 ttOk 2 [(4, .v (.slice a19 x18.length c20))] ⟨⟨E, V⟩, E⟩ E E ?_
  cases h
  exact JS.ret ttOk (a19, c20) V E E [0] E

def M_i_LinePut (x0 : List Int × Int) (x1 : List Int) : Option ((List Int × Int) × Bool) :=
  (bindO (M_i_LineOk x0) fun (y11 : Bool) =>
  (bif (bif (!y11) then true else (decide (400 < (x1.length : Int)))) then
  some (([], 0), false)
  else
  (joinO (fun (x38 : List Int) =>
  (bindO (M_i_LineOk (x38, (W (x0.2 + (x1.length : Int))))) fun (y45 : Bool) =>
  (bif (!y45) then
  some (([], 0), false)
  else
  some ((x38, (W (x0.2 + (x1.length : Int)))), true)))) fun j41 =>
  (guardO (0 ≤ (0 : Int) ∧ (0 : Int) ≤ x0.2 ∧ x0.2 ≤ (x0.1.length : Int)) <|
  (bindO (M_i_copyInts (sub' x0.1 (0 : Int) x0.2)) fun (y18 : List Int) =>
  (guardO (y18.length + x1.length ≤ 536870912) <|
  (guardO (0 ≤ x0.2 ∧ x0.2 ≤ (x0.1.length : Int) ∧ (x0.1.length : Int) ≤ (x0.1.length : Int)) <|
  (guardO ((y18 ++ x1).length + (sub' x0.1 x0.2 (x0.1.length : Int)).length ≤ 536870912) <|
  j41 ((y18 ++ x1) ++ (sub' x0.1 x0.2 (x0.1.length : Int)))))))))))

theorem ok_i_LinePut (x0 : List Int × Int) (x1 : List Int) (a3 : Option Addr) (c4 : Nat) (l5 : Nat) (hl6 : x0.1.length = l5) (a7 : Option Addr) (c8 : Nat) (l9 : Nat) (hl10 : x1.length = l9) (r : (List Int × Int) × Bool) (h : M_i_LinePut x0 x1 = some r) :
  FC Tryz.prog 245 [.agg #[.slice a3 l5 c4, .int .i64 x0.2], .slice a7 l9 c8] [⟨(.int .i64), ⟨a3, l5, c4⟩, x0.1⟩, ⟨(.int .i64), ⟨a7, l9, c8⟩, x1⟩] (fun _ : Option Addr × Nat => True) (fun q => .tuple #[.agg #[.slice q.1 r.1.1.length q.2, .int .i64 r.1.2], .bool r.2]) (fun q => [⟨(.int .i64), ⟨q.1, r.1.1.length, q.2⟩, r.1.1⟩]) :=
 by
  subst hl6
  subst hl10
  refine FC.of (T := TTx) Tryz.call245 Tryz.func245 E E fun w0 => ?_
  unfold M_i_LinePut at h
  refine JS.rgB ttOk 3 [] [3, 4] [(2, .bp 3 0), (4, .bp 4 0)] (.new 3 38 [.slice a3 x0.1.length c4, .int .i64 x0.2] (.new 4 38 [.slice none 0 0, .int .i64 0] .nil)) ⟨(Es E), (Bs E E)⟩ E E (JS.seq (JS.seq (JS.region (JO.reg ttOk 1 [] [] [(7, .v (.agg #[.slice a3 x0.1.length c4, .int .i64 x0.2]))] _ E ⟨⟨E, V⟩, E⟩ ?_))))
  obtain ⟨y11, hy12, h⟩ := bindO_some h
  refine JO.call E E E E (ok_i_LineOk x0 a3 c4 x0.1.length E _ hy12) E [0] E E fun _ _ => JO.reg ttOk 6 [] [] [(14, .v (.bool (bif (!y11) then true else (decide (400 < (x1.length : Int))))))] _ E ⟨⟨E, V⟩, E⟩ (JO.done E ?_)
  refine JS.cond E (fun ht58 => ?_) (fun ht58 => ?_)
  ·
   have h := condT h ht58
   refine JS.rgB ttOk 3 [] [] [(5, .v (.bool false))] (.new 4 38 [.slice none 0 0, .int .i64 0] .nil) ⟨⟨E, V⟩, (Bs E E)⟩ E E ?_
   cases h
   refine JS.nilO (.int .i64) Sl.nil E E (JS.ret ttOk (none, 0) V E E [0] E)
  have h := condF h ht58
  refine JS.skip (JS.seq ?_)
  obtain ⟨j41, hj57, h⟩ := joinO_some h
  refine JS.cutJ (ι := List Int × Option Addr × Nat) ⟨fun z => j41 z.1 = some r, fun z => [(4, .bp 4 0), (6, .bp 30 0)], fun z => (.new 4 38 [.slice none 0 0, .int .i64 0] (.new 30 38 [.slice z.2.1 z.1.length z.2.2, .int .i64 (W (x0.2 + (x1.length : Int)))] .nil)), fun z => [], fun z => [⟨(.int .i64), ⟨z.2.1, z.1.length, z.2.2⟩, z.1⟩], fun z => 0⟩ ?_ ?_
  ·
   obtain ⟨g13, h⟩ := guardO_some h
   obtain ⟨y18, hy19, h⟩ := bindO_some h
   obtain ⟨g22, h⟩ := guardO_some h
   obtain ⟨g25, h⟩ := guardO_some h
   obtain ⟨g29, h⟩ := guardO_some h
   refine JS.subR 0 E (0 : Int) x0.2 fun a14 c15 hu16 => JS.subR 1 E x0.2 (x0.1.length : Int) fun a26 c27 hu28 => JS.know 2 E fun hs55 => ?_
   refine JS.regionA E (.new 3 38 [.slice a3 x0.1.length c4, .int .i64 x0.2] .nil) [] [19, 21] ⟨E, E, E, E, V⟩ E (fun be34 => ?_)
   refine JA.regL ttOk panic_cx 20 [0, 2] E (by kernel_rfl) [] [(16, .bp 3 0), (18, .bp 3 1)] E (Es E) (JA.reg ttOk panic_cx true 8 [1, 3, 6, 8, 9, 10, 11, 14, 15, 16, 17, 18] E (by kernel_rfl) [(W (x0.2 + (x1.length : Int)))] [(17, .v (.slice a3 x0.1.length c4)), (19, .v (I x0.2)), (22, .v (.slice a7 x1.length c8)), (25, .v (.slice a3 x0.1.length c4)), (27, .v (I x0.2)), (34, .v (I (W (x0.2 + (x1.length : Int)))))] ⟨E, E, E, E, V⟩ [] E E ⟨⟨V, E⟩, (Es E)⟩ (JA.sliceP ttOk panic_cx 4 E (by kernel_rfl) E E E E E E (0 : Int) x0.2 E E ⟨g13.1, g13.2.1, g13.2.2, hs55.cap, hu16 g13⟩ E (JA.sliceP ttOk panic_cx 12 E (by kernel_rfl) E E E E E E x0.2 (x0.1.length : Int) E E ⟨g25.1, g25.2.1, g25.2.2, hs55.cap, hu28 g25⟩ E ?_)))
   refine JA.all (rs := [5, 20]) (by kernel_rfl) E (List.forall_mem_cons.2 ⟨?_, List.forall_mem_cons.2 ⟨?_, (fun _ hx => absurd hx List.not_mem_nil)⟩⟩)
   ·
    refine JK.call E E E E (ok_i_copyInts (sub' x0.1 (0 : Int) x0.2) a14 c15 ((sub' x0.1 (0 : Int) x0.2).length) E _ hy19) E [1] E E ?_
    rintro ⟨a20, c21⟩ -
    refine JA.next ⟨E, E, E, E, V⟩ [] E ?_
    refine JA.all (rs := [7, 20]) (by kernel_rfl) E (List.forall_mem_cons.2 ⟨?_, List.forall_mem_cons.2 ⟨?_, (fun _ hx => absurd hx List.not_mem_nil)⟩⟩)
    ·
     refine JK.appendR' ttOk E E E E ⟨E, E, E, E, V, E, E, E, E⟩ E E E [0] E 3 E g22 E fun a23 c24 => JA.next ⟨E, E, E, E, V⟩ [] E ?_
     refine JA.all (rs := [13, 20]) (by kernel_rfl) E (List.forall_mem_cons.2 ⟨?_, List.forall_mem_cons.2 ⟨?_, (fun _ hx => absurd hx List.not_mem_nil)⟩⟩)
     ·
      refine JK.appendR' ttOk E E E E ⟨E, E, E, E, V, E, E, E, E⟩ E E E [0] E 0 E g29 E fun a30 c31 => JA.next ⟨E, E, E, E, V⟩ [] E (JA.regL ttOk panic_cx 2 [19] E (by kernel_rfl) [] [(35, .v (.agg #[.slice a30 ((y18 ++ x1) ++ (sub' x0.1 x0.2 (x0.1.length : Int))).length c31, .int .i64 (W (x0.2 + (x1.length : Int)))]))] E ⟨E, V⟩ (JA.one 20 (by kernel_rfl) (JK.alloc ttOk E E E E E 30 E (sd_upd _ E) (JA.next ⟨E, E, E, E, V⟩ [] E (JA.one 21 (by kernel_rfl) (JK.stBox ttOk E E E E E E E E (JA.nextL E (JA.done (by kernel_rfl) (JS.boxes (B' := (.new 4 38 [.slice none 0 0, .int .i64 0] (.new 30 38 [.slice a30 ((y18 ++ x1) ++ (sub' x0.1 x0.2 (x0.1.length : Int))).length c31, .int .i64 (W (x0.2 + (x1.length : Int)))] .nil))) (Bs E E) (JS.endJ (((y18 ++ x1) ++ (sub' x0.1 x0.2 (x0.1.length : Int))), a30, c31) h (Es E) (Bs E E) [] E [0] E))))))))))
     refine JK.alloc ttOk E E E E E 30 E (sd_upd _ E) (JA.next ⟨E, E, E, E, V⟩ [] E (JA.one 13 (by kernel_rfl) (JK.appendR' ttOk E E E E ⟨E, E, E, E, V, E, E, E, E⟩ E E E [0] E 0 E g29 E fun a30 c31 => JA.next ⟨E, E, E, E, V⟩ [] E (JA.regL ttOk panic_cx 1 [19] E (by kernel_rfl) [] [(35, .v (.agg #[.slice a30 ((y18 ++ x1) ++ (sub' x0.1 x0.2 (x0.1.length : Int))).length c31, .int .i64 (W (x0.2 + (x1.length : Int)))]))] E ⟨E, V⟩ (JA.one 21 (by kernel_rfl) (JK.stBox ttOk E E E E E E E E (JA.nextL E (JA.done (by kernel_rfl) (JS.boxes (B' := (.new 4 38 [.slice none 0 0, .int .i64 0] (.new 30 38 [.slice a30 ((y18 ++ x1) ++ (sub' x0.1 x0.2 (x0.1.length : Int))).length c31, .int .i64 (W (x0.2 + (x1.length : Int)))] .nil))) (Bs E E) (JS.endJ (((y18 ++ x1) ++ (sub' x0.1 x0.2 (x0.1.length : Int))), a30, c31) h (Es E) (Bs E E) [] E [0] E))))))))))
    refine JK.alloc ttOk E E E E E 30 E (sd_upd _ E) (JA.next ⟨E, E, E, E, V⟩ [] E (JA.one 7 (by kernel_rfl) (JK.appendR' ttOk E E E E ⟨E, E, E, E, V, E, E, E, E⟩ E E E [0] E 3 E g22 E fun a23 c24 => JA.next ⟨E, E, E, E, V⟩ [] E (JA.one 13 (by kernel_rfl) (JK.appendR' ttOk E E E E ⟨E, E, E, E, V, E, E, E, E⟩ E E E [0] E 0 E g29 E fun a30 c31 => JA.next ⟨E, E, E, E, V⟩ [] E (JA.regL ttOk panic_cx 1 [19] E (by kernel_rfl) [] [(35, .v (.agg #[.slice a30 ((y18 ++ x1) ++ (sub' x0.1 x0.2 (x0.1.length : Int))).length c31, .int .i64 (W (x0.2 + (x1.length : Int)))]))] E ⟨E, V⟩ (JA.one 21 (by kernel_rfl) (JK.stBox ttOk E E E E E E E E (JA.nextL E (JA.done (by kernel_rfl) (JS.boxes (B' := (.new 4 38 [.slice none 0 0, .int .i64 0] (.new 30 38 [.slice a30 ((y18 ++ x1) ++ (sub' x0.1 x0.2 (x0.1.length : Int))).length c31, .int .i64 (W (x0.2 + (x1.length : Int)))] .nil))) (Bs E E) (JS.endJ (((y18 ++ x1) ++ (sub' x0.1 x0.2 (x0.1.length : Int))), a30, c31) h (Es E) (Bs E E) [] E [0] E))))))))))))
   refine JK.alloc ttOk E E E E E 30 E (sd_upd _ E) (JA.next ⟨E, E, E, E, V⟩ [] E (JA.one 5 (by kernel_rfl) (JK.call E E E E (ok_i_copyInts (sub' x0.1 (0 : Int) x0.2) a14 c15 ((sub' x0.1 (0 : Int) x0.2).length) E _ hy19) E [1] E E ?_)))
   rintro ⟨a20, c21⟩ -
   refine JA.next ⟨E, E, E, E, V⟩ [] E (JA.one 7 (by kernel_rfl) (JK.appendR' ttOk E E E E ⟨E, E, E, E, V, E, E, E, E⟩ E E E [0] E 3 E g22 E fun a23 c24 => JA.next ⟨E, E, E, E, V⟩ [] E (JA.one 13 (by kernel_rfl) (JK.appendR' ttOk E E E E ⟨E, E, E, E, V, E, E, E, E⟩ E E E [0] E 0 E g29 E fun a30 c31 => JA.next ⟨E, E, E, E, V⟩ [] E (JA.regL ttOk panic_cx 1 [19] E (by kernel_rfl) [] [(35, .v (.agg #[.slice a30 ((y18 ++ x1) ++ (sub' x0.1 x0.2 (x0.1.length : Int))).length c31, .int .i64 (W (x0.2 + (x1.length : Int)))]))] E ⟨E, V⟩ (JA.one 21 (by kernel_rfl) (JK.stBox ttOk E E E E E E E E (JA.nextL E (JA.done (by kernel_rfl) (JS.boxes (B' := (.new 4 38 [.slice none 0 0, .int .i64 0] (.new 30 38 [.slice a30 ((y18 ++ x1) ++ (sub' x0.1 x0.2 (x0.1.length : Int))).length c31, .int .i64 (W (x0.2 + (x1.length : Int)))] .nil))) (Bs E E) (JS.endJ (((y18 ++ x1) ++ (sub' x0.1 x0.2 (x0.1.length : Int))), a30, c31) h (Es E) (Bs E E) [] E [0] E)))))))))))
  rintro ⟨x38, a39, c40⟩ h
  subst hj57
  refine JS.seq (JS.seq (JS.region (JO.reg ttOk 1 [] [] [(36, .v (.agg #[.slice a39 x38.length c40, .int .i64 (W (x0.2 + (x1.length : Int)))]))] _ E ⟨⟨E, V⟩, E⟩ ?_)))
  obtain ⟨y45, hy46, h⟩ := bindO_some h
  refine JO.call E E E E (ok_i_LineOk (x38, (W (x0.2 + (x1.length : Int)))) a39 c40 x38.length E _ hy46) E [0] E E fun _ _ => JO.reg ttOk 1 [] [] [(38, .v (.bool (!y45)))] _ E ⟨⟨E, V⟩, E⟩ (JO.done E ?_)
  refine JS.cond E (fun ht56 => ?_) (fun ht56 => ?_)
  ·
   have h := condT h ht56
   refine JS.rgB ttOk 3 [] [] [(5, .v (.bool false))] (.new 4 38 [.slice none 0 0, .int .i64 0] .nil) ⟨⟨E, V⟩, (Bs E E)⟩ E E ?_
   cases h
   refine JS.nilO (.int .i64) Sl.nil E E (JS.ret ttOk (none, 0) V E E [0] E)
  have h := condF h ht56
  refine JS.skip (JS.rgB ttOk 3 [] [] [(5, .v (.bool true))] (.new 4 38 [.slice a39 x38.length c40, .int .i64 (W (x0.2 + (x1.length : Int)))] .nil) ⟨⟨E, V⟩, (Bs E E)⟩ E E ?_)
  cases h
  exact JS.ret ttOk (a39, c40) V E E [0] E

def M_i_insert (x0 : EdQ) (x1 : List Int) (x2 : Int) : Option (EdQ × Int) :=
  (bindO (M_i_LinePut x0.2.2.1 x1) fun (y32, y33) =>
  (bif (!y33) then
  (bindO (M_i_bell x0) fun (y37, y38) =>
  some (y37, y38))
  else
  (bindO (M_i_set x0 y32 x2) fun (y52 : EdQ) =>
  some (y52, 0))))

theorem ok_i_insert (x0 : EdQ) (x1 : List Int) (x2 : Int) (a4 : Option Addr) (c5 : Nat) (l6 : Nat) (hl7 : x0.2.2.1.1.length = l6) (a8 : Option Addr) (c9 : Nat) (l10 : Nat) (hl11 : (Q8 x0).2.2.1.length = l10) (a12 : Option Addr) (c13 : Nat) (l14 : Nat) (hl15 : (Q8 x0).2.2.2.1.length = l14) (a16 : Option Addr) (c17 : Nat) (l18 : Nat) (hl19 : (Q12 x0).2.1.1.length = l18) (a20 : Option Addr) (c21 : Nat) (l22 : Nat) (hl23 : (Q12 x0).2.2.1.length = l22) (a24 : Option Addr) (c25 : Nat) (l26 : Nat) (hl27 : (Q16 x0).1.length = l26) (a28 : Option Addr) (c29 : Nat) (l30 : Nat) (hl31 : x1.length = l30) (r : EdQ × Int) (h : M_i_insert x0 x1 x2 = some r) :
  FC Tryz.prog 165 [.agg #[.bool x0.1, .int .i64 x0.2.1, .slice a4 l6 c5, .int .i64 x0.2.2.1.2, .int .i64 x0.2.2.2.1, .int .i64 (Q4 x0).1, .int .i64 (Q4 x0).2.1, .int .i64 (Q4 x0).2.2.1, .int .i64 (Q4 x0).2.2.2.1, .int .i64 (Q8 x0).1, .int .i64 (Q8 x0).2.1, .slice a8 l10 c9, .slice a12 l14 c13, .int .i64 (Q12 x0).1, .slice a16 l18 c17, .int .i64 (Q12 x0).2.1.2, .slice a20 l22 c21, .int .i64 (Q12 x0).2.2.2.1, .slice a24 l26 c25, .int .i64 (Q16 x0).2], .slice a28 l30 c29, .int .i64 x2] [⟨(.int .i64), ⟨a4, l6, c5⟩, x0.2.2.1.1⟩, ⟨(.sl (.int .i64)), ⟨a8, l10, c9⟩, (Q8 x0).2.2.1⟩, ⟨(.pair (.sl (.int .i64)) (.int .i64)), ⟨a12, l14, c13⟩, (Q8 x0).2.2.2.1⟩, ⟨(.int .i64), ⟨a16, l18, c17⟩, (Q12 x0).2.1.1⟩, ⟨(.int .i64), ⟨a20, l22, c21⟩, (Q12 x0).2.2.1⟩, ⟨(.int .i64), ⟨a24, l26, c25⟩, (Q16 x0).1⟩, ⟨(.int .i64), ⟨a28, l30, c29⟩, x1⟩] (fun _ : Option Addr × Nat × Option Addr × Nat × Option Addr × Nat × Option Addr × Nat × Option Addr × Nat × Option Addr × Nat => True) (fun q => .tuple #[.agg (cl46 r.1 q.1 q.2.1 q.2.2.1 q.2.2.2.1 (Q4 q).1 (Q4 q).2.1 (Q4 q).2.2.1 (Q4 q).2.2.2.1 (Q8 q).1 (Q8 q).2.1 (Q8 q).2.2.1 (Q8 q).2.2.2).toArray, .int .i64 r.2]) (fun q => (fl32 r.1 q.1 q.2.1 q.2.2.1 q.2.2.2.1 (Q4 q).1 (Q4 q).2.1 (Q4 q).2.2.1 (Q4 q).2.2.2.1 (Q8 q).1 (Q8 q).2.1 (Q8 q).2.2.1 (Q8 q).2.2.2 [])) :=
 by
  subst hl7
  subst hl11
  subst hl15
  subst hl19
  subst hl23
  subst hl27
  subst hl31
  refine FC.of (T := TTx) Tryz.call165 Tryz.func165 E E fun w0 => ?_
  unfold M_i_insert at h
  refine JS.rgB ttOk 3 [] [8, 9] [(3, .bp 8 0), (6, .bp 9 0)] (.new 8 46 (cl46 x0 a4 c5 a8 c9 a12 c13 a16 c17 a20 c21 a24 c25) (.new 9 46 cz46 .nil)) ⟨(Es E), (Bs E E)⟩ E E (JS.seq (JS.region (JO.reg ttOk 3 [] [] [(12, .v (.agg #[.slice a4 x0.2.2.1.1.length c5, .int .i64 x0.2.2.1.2])), (13, .v (.slice a28 x1.length c29))] _ E ⟨(Es E), E⟩ ?_)))
  obtain ⟨⟨y32, y33⟩, hy34, h⟩ := bindO_some h
  refine JO.call E E E E (ok_i_LinePut x0.2.2.1 x1 a4 c5 x0.2.2.1.1.length E a28 c29 x1.length E _ hy34) E [0, 6] E E ?_
  rintro ⟨a35, c36⟩ -
  refine JO.regB ttOk 6 [] [16] [(8, .bp 16 0), (9, .v (.bool y33))] (.new 8 46 (cl46 x0 a4 c5 a8 c9 a12 c13 a16 c17 a20 c21 a24 c25) (.new 9 46 cz46 (.new 16 38 [.slice a35 y32.1.length c36, .int .i64 y32.2] .nil))) E ⟨(Es E), (Bs E E)⟩ (JO.done E (JS.seq (JS.rg0 ttOk 2 [(18, .v (.bool (!y33)))] ⟨⟨E, V⟩, E⟩ E E ?_)))
  refine JS.cond E (fun ht67 => ?_) (fun ht67 => ?_)
  ·
   have h := condT h ht67
   refine JS.seq (JS.region (JO.reg ttOk 1 [] [] [(19, .v (.agg (cl46 x0 a4 c5 a8 c9 a12 c13 a16 c17 a20 c21 a24 c25).toArray))] _ E ⟨⟨E, V⟩, E⟩ ?_))
   obtain ⟨⟨y37, y38⟩, hy39, h⟩ := bindO_some h
   refine JO.call E E E E (ok_i_bell x0 a4 c5 x0.2.2.1.1.length E a8 c9 (Q8 x0).2.2.1.length E a12 c13 (Q8 x0).2.2.2.1.length E a16 c17 (Q12 x0).2.1.1.length E a20 c21 (Q12 x0).2.2.1.length E a24 c25 (Q16 x0).1.length E _ hy39) E [0, 1, 2, 3, 4, 5] E E ?_
   rintro ⟨a40, c41, a42, c43, a44, c45, a46, c47, a48, c49, a50, c51⟩ -
   refine JO.regB ttOk 4 [] [] [(7, .v (I y38))] (.new 9 46 (cl46 y37 a40 c41 a42 c43 a44 c45 a46 c47 a48 c49 a50 c51) .nil) E ⟨⟨E, V⟩, (Bs E E)⟩ (JO.done E ?_)
   cases h
   exact JS.ret ttOk (a40, c41, a42, c43, a44, c45, a46, c47, a48, c49, a50, c51) V E E [0, 0, 0, 0, 0, 0] E
  have h := condF h ht67
  refine JS.skip (JS.seq (JS.region (JO.reg ttOk 3 [] [] [(23, .v (.agg (cl46 x0 a4 c5 a8 c9 a12 c13 a16 c17 a20 c21 a24 c25).toArray)), (24, .v (.agg #[.slice a35 y32.1.length c36, .int .i64 y32.2])), (25, .v (I x2))] _ E ⟨(Es E), E⟩ ?_)))
  obtain ⟨y52, hy53, h⟩ := bindO_some h
  refine JO.call E E E E (ok_i_set x0 y32 x2 a4 c5 x0.2.2.1.1.length E a8 c9 (Q8 x0).2.2.1.length E a12 c13 (Q8 x0).2.2.2.1.length E a16 c17 (Q12 x0).2.1.1.length E a20 c21 (Q12 x0).2.2.1.length E a24 c25 (Q16 x0).1.length E a35 c36 y32.1.length E _ hy53) E [0, 1, 2, 3, 4, 5, 7] E E ?_
  rintro ⟨a54, c55, a56, c57, a58, c59, a60, c61, a62, c63, a64, c65⟩ -
  refine JO.regB ttOk 2 [] [] [(7, .v (I 0))] (.new 9 46 (cl46 y52 a54 c55 a56 c57 a58 c59 a60 c61 a62 c63 a64 c65) .nil) E ⟨⟨E, V⟩, (Bs E E)⟩ (JO.done E ?_)
  cases h
  exact JS.ret ttOk (a54, c55, a56, c57, a58, c59, a60, c61, a62, c63, a64, c65) V E E [0, 0, 0, 0, 0, 0] E

def M_i_plain (x0 : EdQ) (x1 : Int × List (List UInt8)) (x2 : Int × Int) : Option (EdQ × Int × Bool) :=
  (joinO (fun ((x256, x257) : Int × EdQ) =>
  some (x257, x256, true)) fun j270 =>
  (bif (decide (x2.1 = 1)) then
  (bindO (M_i_times ([x2.2] : List Int) (max x0.2.2.2.1 1)) fun (y33 : List Int) =>
  (bindO (M_i_insert x0 y33 1) fun (y37, y38) =>
  j270 (y38, y37)))
  else
  (bif (decide (x2.1 = 6)) then
  (bindO (M_i_times ([9] : List Int) (max x0.2.2.2.1 1)) fun (y54 : List Int) =>
  (bindO (M_i_insert x0 y54 1) fun (y58, y59) =>
  j270 (y59, y58)))
  else
  (bif (decide (x2.1 = 4)) then
  (bindO (M_i_copyEd x0) fun (y74 : EdQ) =>
  j270 (2, y74))
  else
  (bif (decide (x2.1 = 2)) then
  (bindO (M_i_plainCtrl x0 x2.2) fun (y88, y89, y90) =>
  some (y88, y89, y90))
  else
  (bif (decide (x2.1 = 5)) then
  (bindO (M_i_cut x0 (max (W (x0.2.2.1.2 - (max x0.2.2.2.1 1))) 0) x0.2.2.1.2) fun (y104, y105) =>
  j270 (y105, y104))
  else
  (bif (decide (x2.1 = 14)) then
  (bindO (M_i_cut x0 x0.2.2.1.2 (min (W (x0.2.2.1.2 + (max x0.2.2.2.1 1))) (x0.2.2.1.1.length : Int))) fun (y119, y120) =>
  j270 (y120, y119))
  else
  (bif (decide (x2.1 = 11)) then
  (bindO (M_i_goTo x0.2.2.1 (W (x0.2.2.1.2 - (max x0.2.2.2.1 1)))) fun (y134 : List Int × Int) =>
  (bindO (M_i_put x0 y134) fun (y138, y139) =>
  j270 (y139, y138)))
  else
  (bif (decide (x2.1 = 10)) then
  (bindO (M_i_goTo x0.2.2.1 (W (x0.2.2.1.2 + (max x0.2.2.2.1 1)))) fun (y154 : List Int × Int) =>
  (bindO (M_i_put x0 y154) fun (y158, y159) =>
  j270 (y159, y158)))
  else
  (bif (decide (x2.1 = 12)) then
  (bindO (M_i_goTo x0.2.2.1 0) fun (y174 : List Int × Int) =>
  (bindO (M_i_put x0 y174) fun (y178, y179) =>
  j270 (y179, y178)))
  else
  (bif (decide (x2.1 = 13)) then
  (bindO (M_i_goTo x0.2.2.1 (x0.2.2.1.1.length : Int)) fun (y194 : List Int × Int) =>
  (bindO (M_i_put x0 y194) fun (y198, y199) =>
  j270 (y199, y198)))
  else
  (bif (decide (x2.1 = 8)) then
  (bindO (M_i_step x0 x1 (-1)) fun (y214, y215) =>
  j270 (y215, y214))
  else
  (bif (decide (x2.1 = 9)) then
  (bindO (M_i_step x0 x1 1) fun (y229, y230) =>
  j270 (y230, y229))
  else
  some ((false, 0, ([], 0), 0, 0, 0, 0, 0, 0, 0, [], [], 0, ([], 0), [], 0, ([], 0)), 0, false))))))))))))))

theorem ok_i_plain (x0 : EdQ) (x1 : Int × List (List UInt8)) (x2 : Int × Int) (a4 : Option Addr) (c5 : Nat) (l6 : Nat) (hl7 : x0.2.2.1.1.length = l6) (a8 : Option Addr) (c9 : Nat) (l10 : Nat) (hl11 : (Q8 x0).2.2.1.length = l10) (a12 : Option Addr) (c13 : Nat) (l14 : Nat) (hl15 : (Q8 x0).2.2.2.1.length = l14) (a16 : Option Addr) (c17 : Nat) (l18 : Nat) (hl19 : (Q12 x0).2.1.1.length = l18) (a20 : Option Addr) (c21 : Nat) (l22 : Nat) (hl23 : (Q12 x0).2.2.1.length = l22) (a24 : Option Addr) (c25 : Nat) (l26 : Nat) (hl27 : (Q16 x0).1.length = l26) (a28 : Option Addr) (c29 : Nat) (l30 : Nat) (hl31 : x1.2.length = l30) (r : EdQ × Int × Bool) (h : M_i_plain x0 x1 x2 = some r) :
  FC Tryz.prog 88 [.agg #[.bool x0.1, .int .i64 x0.2.1, .slice a4 l6 c5, .int .i64 x0.2.2.1.2, .int .i64 x0.2.2.2.1, .int .i64 (Q4 x0).1, .int .i64 (Q4 x0).2.1, .int .i64 (Q4 x0).2.2.1, .int .i64 (Q4 x0).2.2.2.1, .int .i64 (Q8 x0).1, .int .i64 (Q8 x0).2.1, .slice a8 l10 c9, .slice a12 l14 c13, .int .i64 (Q12 x0).1, .slice a16 l18 c17, .int .i64 (Q12 x0).2.1.2, .slice a20 l22 c21, .int .i64 (Q12 x0).2.2.2.1, .slice a24 l26 c25, .int .i64 (Q16 x0).2], .agg #[.int .i64 x1.1, .slice a28 l30 c29], .agg #[.int .i64 x2.1, .int .i64 x2.2]] [⟨(.int .i64), ⟨a4, l6, c5⟩, x0.2.2.1.1⟩, ⟨(.sl (.int .i64)), ⟨a8, l10, c9⟩, (Q8 x0).2.2.1⟩, ⟨(.pair (.sl (.int .i64)) (.int .i64)), ⟨a12, l14, c13⟩, (Q8 x0).2.2.2.1⟩, ⟨(.int .i64), ⟨a16, l18, c17⟩, (Q12 x0).2.1.1⟩, ⟨(.int .i64), ⟨a20, l22, c21⟩, (Q12 x0).2.2.1⟩, ⟨(.int .i64), ⟨a24, l26, c25⟩, (Q16 x0).1⟩, ⟨.str, ⟨a28, l30, c29⟩, x1.2⟩] (fun _ : Option Addr × Nat × Option Addr × Nat × Option Addr × Nat × Option Addr × Nat × Option Addr × Nat × Option Addr × Nat => True) (fun q => .tuple #[.agg (cl46 r.1 q.1 q.2.1 q.2.2.1 q.2.2.2.1 (Q4 q).1 (Q4 q).2.1 (Q4 q).2.2.1 (Q4 q).2.2.2.1 (Q8 q).1 (Q8 q).2.1 (Q8 q).2.2.1 (Q8 q).2.2.2).toArray, .int .i64 r.2.1, .bool r.2.2]) (fun q => (fl32 r.1 q.1 q.2.1 q.2.2.1 q.2.2.2.1 (Q4 q).1 (Q4 q).2.1 (Q4 q).2.2.1 (Q4 q).2.2.2.1 (Q8 q).1 (Q8 q).2.1 (Q8 q).2.2.1 (Q8 q).2.2.2 [])) :=
 by
  subst hl7
  subst hl11
  subst hl15
  subst hl19
  subst hl23
  subst hl27
  subst hl31
  refine FC.of (T := TTx) Tryz.call88 Tryz.func88 E E fun w0 => ?_
  unfold M_i_plain at h
  refine JS.rgB ttOk 6 [] [8, 9, 10, 11] [(3, .bp 8 0), (4, .bp 9 0), (5, .bp 10 0), (6, .bp 11 0)] (.new 8 46 (cl46 x0 a4 c5 a8 c9 a12 c13 a16 c17 a20 c21 a24 c25) (.new 9 50 [.int .i64 x1.1, .slice a28 x1.2.length c29] (.new 10 64 [.int .i64 x2.1, .int .i64 x2.2] (.new 11 46 cz46 .nil)))) ⟨(Es E), (Bs E E)⟩ E E (JS.seq (JS.regionQ E (by kernel_rfl) (JQ.reg ttOk 13 [] [(9, .v (I x0.2.2.1.2)), (10, .v (I (max x0.2.2.2.1 1))), (11, .v (I (x0.2.2.1.1.length : Int)))] E (Es E) (JQ.done E (JS.rgB ttOk 1 [] [12] [(12, .bp 12 0)] (.new 8 46 (cl46 x0 a4 c5 a8 c9 a12 c13 a16 c17 a20 c21 a24 c25) (.new 9 50 [.int .i64 x1.1, .slice a28 x1.2.length c29] (.new 10 64 [.int .i64 x2.1, .int .i64 x2.2] (.new 11 46 cz46 (.new 12 46 cz46 .nil))))) ⟨⟨E, V⟩, (Bs E E)⟩ E E (JS.rg0 ttOk 1 [] ⟨V, E⟩ E E (JS.seq (JS.rg0 ttOk 2 [(25, .v (I x2.1))] ⟨⟨E, V⟩, E⟩ E E ?_))))))))
  obtain ⟨j270, hj296, h⟩ := joinO_some h
  refine JS.blockJ (ι := Int × EdQ × Option Addr × Nat × Option Addr × Nat × Option Addr × Nat × Option Addr × Nat × Option Addr × Nat × Option Addr × Nat) ⟨fun z => j270 (z.1, z.2.1) = some r, fun z => [(6, .bp 11 0), (12, .bp 12 0), (13, .v (I z.1))], fun z => (.new 11 46 cz46 (.new 12 46 (cl46 z.2.1 z.2.2.1 z.2.2.2.1 (Q4 z).1 (Q4 z).2.1 (Q4 z).2.2.1 (Q4 z).2.2.2.1 (Q8 z).1 (Q8 z).2.1 (Q8 z).2.2.1 (Q8 z).2.2.2.1 (Q12 z).1 (Q12 z).2) .nil)), fun z => [], fun z => (fl32 z.2.1 z.2.2.1 z.2.2.2.1 (Q4 z).1 (Q4 z).2.1 (Q4 z).2.2.1 (Q4 z).2.2.2.1 (Q8 z).1 (Q8 z).2.1 (Q8 z).2.2.1 (Q8 z).2.2.2.1 (Q12 z).1 (Q12 z).2 []), fun z => 0⟩ ?_ ?_
  ·
   refine JS.rg0 ttOk 2 [(27, .v (.bool (decide (x2.1 = 1))))] ⟨⟨E, V⟩, E⟩ E E ?_
   refine JS.cond E (fun ht295 => ?_) (fun ht295 => ?_)
   ·
    have h := condT h ht295
    obtain ⟨y33, hy34, h⟩ := bindO_some h
    obtain ⟨⟨y37, y38⟩, hy39, h⟩ := bindO_some h
    refine JS.regionA E (.new 8 46 (cl46 x0 a4 c5 a8 c9 a12 c13 a16 c17 a20 c21 a24 c25) (.new 10 64 [.int .i64 x2.1, .int .i64 x2.2] .nil)) [] [6, 7, 8, 9, 10, 11] ⟨E, E, E, E, E, E, E, E, V⟩ E (fun be52 => ?_)
    refine JA.reg ttOk panic_cx true 10 [0, 4] E (by kernel_rfl) [] [(30, .v (.agg (cl46 x0 a4 c5 a8 c9 a12 c13 a16 c17 a20 c21 a24 c25).toArray)), (34, .v (I (max x0.2.2.2.1 1)))] ⟨E, E, E, E, E, E, E, E, V⟩ [] E E (Es E) (JA.regL ttOk panic_cx 9 [1] E (by kernel_rfl) [] [(31, .bp 10 1)] E ⟨E, V⟩ (JA.reg ttOk panic_cx true 8 [2] E (by kernel_rfl) [] [(32, .v (I x2.2))] ⟨E, E, E, E, E, E, E, E, V⟩ [] E E ⟨E, V⟩ (JA.one 3 (by kernel_rfl) (JK.buildSlice ttOk E E E E E E E E E E E [] E (.int .i64) [x2.2] ⟨E, E⟩ E E fun a32 => JA.next ⟨E, E, E, E, E, E, E, E, V⟩ [] E (JA.one 5 (by kernel_rfl) (JK.call E E E E (ok_i_times ([x2.2] : List Int) (max x0.2.2.2.1 1) a32 (([x2.2] : List Int).length) (([x2.2] : List Int).length) E _ hy34) E [7] E E ?_))))))
    rintro ⟨a35, c36⟩ -
    refine JA.next ⟨E, E, E, E, E, E, E, E, V⟩ [] E (JA.one 6 (by kernel_rfl) (JK.call E E E E (ok_i_insert x0 y33 1 a4 c5 x0.2.2.1.1.length E a8 c9 (Q8 x0).2.2.1.length E a12 c13 (Q8 x0).2.2.2.1.length E a16 c17 (Q12 x0).2.1.1.length E a20 c21 (Q12 x0).2.2.1.length E a24 c25 (Q16 x0).1.length E a35 c36 y33.length E _ hy39) E [0, 1, 2, 3, 4, 5, 7] E E ?_))
    rintro ⟨a40, c41, a42, c43, a44, c45, a46, c47, a48, c49, a50, c51⟩ -
    refine JA.nextL E (JA.regL ttOk panic_cx 2 [7, 8, 9] E (by kernel_rfl) [] [(37, .v (.agg (cl46 y37 a40 c41 a42 c43 a44 c45 a46 c47 a48 c49 a50 c51).toArray)), (38, .v (I y38))] E (Es E) (JA.one 10 (by kernel_rfl) (JK.stBox ttOk E E E E E E E E (JA.nextL E (JA.regL ttOk panic_cx 0 [11] E (by kernel_rfl) [] [(13, .v (I y38))] E ⟨E, V⟩ (JA.done (by kernel_rfl) (JS.boxes (B' := (.new 11 46 cz46 (.new 12 46 (cl46 y37 a40 c41 a42 c43 a44 c45 a46 c47 a48 c49 a50 c51) .nil))) (Bs E E) (JS.endB (JS.endJA (y38, y37, a40, c41, a42, c43, a44, c45, a46, c47, a48, c49, a50, c51) h (Es E) (Bs E E) [] E [0, 1, 2, 3, 4, 5] E E)))))))))
   have h := condF h ht295
   refine JS.rg0 ttOk 2 [(39, .v (.bool (decide (x2.1 = 6))))] ⟨⟨E, V⟩, E⟩ E E ?_
   refine JS.cond E (fun ht294 => ?_) (fun ht294 => ?_)
   ·
    have h := condT h ht294
    obtain ⟨y54, hy55, h⟩ := bindO_some h
    obtain ⟨⟨y58, y59⟩, hy60, h⟩ := bindO_some h
    refine JS.regionA E (.new 8 46 (cl46 x0 a4 c5 a8 c9 a12 c13 a16 c17 a20 c21 a24 c25) .nil) [] [4, 5, 6, 7, 8, 9] ⟨E, E, E, E, V⟩ E (fun be73 => ?_)
    refine JA.reg ttOk panic_cx true 8 [0, 2] E (by kernel_rfl) [] [(42, .v (.agg (cl46 x0 a4 c5 a8 c9 a12 c13 a16 c17 a20 c21 a24 c25).toArray)), (44, .v (I (max x0.2.2.2.1 1)))] ⟨E, E, E, E, V⟩ [] E E (Es E) (JA.one 1 (by kernel_rfl) (JK.buildSlice ttOk E E E E E E E E E E E [] E (.int .i64) [9] ⟨E, E⟩ E E fun a53 => JA.next ⟨E, E, E, E, V⟩ [] E (JA.one 3 (by kernel_rfl) (JK.call E E E E (ok_i_times ([9] : List Int) (max x0.2.2.2.1 1) a53 (([9] : List Int).length) (([9] : List Int).length) E _ hy55) E [7] E E ?_))))
    rintro ⟨a56, c57⟩ -
    refine JA.next ⟨E, E, E, E, V⟩ [] E (JA.one 4 (by kernel_rfl) (JK.call E E E E (ok_i_insert x0 y54 1 a4 c5 x0.2.2.1.1.length E a8 c9 (Q8 x0).2.2.1.length E a12 c13 (Q8 x0).2.2.2.1.length E a16 c17 (Q12 x0).2.1.1.length E a20 c21 (Q12 x0).2.2.1.length E a24 c25 (Q16 x0).1.length E a56 c57 y54.length E _ hy60) E [0, 1, 2, 3, 4, 5, 7] E E ?_))
    rintro ⟨a61, c62, a63, c64, a65, c66, a67, c68, a69, c70, a71, c72⟩ -
    refine JA.nextL E (JA.regL ttOk panic_cx 2 [5, 6, 7] E (by kernel_rfl) [] [(47, .v (.agg (cl46 y58 a61 c62 a63 c64 a65 c66 a67 c68 a69 c70 a71 c72).toArray)), (48, .v (I y59))] E (Es E) (JA.one 8 (by kernel_rfl) (JK.stBox ttOk E E E E E E E E (JA.nextL E (JA.regL ttOk panic_cx 0 [9] E (by kernel_rfl) [] [(13, .v (I y59))] E ⟨E, V⟩ (JA.done (by kernel_rfl) (JS.boxes (B' := (.new 11 46 cz46 (.new 12 46 (cl46 y58 a61 c62 a63 c64 a65 c66 a67 c68 a69 c70 a71 c72) .nil))) (Bs E E) (JS.endB (JS.endJA (y59, y58, a61, c62, a63, c64, a65, c66, a67, c68, a69, c70, a71, c72) h (Es E) (Bs E E) [] E [0, 1, 2, 3, 4, 5] E E)))))))))
   have h := condF h ht294
   refine JS.rg0 ttOk 2 [(49, .v (.bool (decide (x2.1 = 4))))] ⟨⟨E, V⟩, E⟩ E E ?_
   refine JS.cond E (fun ht293 => ?_) (fun ht293 => ?_)
   ·
    have h := condT h ht293
    refine JS.region (JO.reg ttOk 1 [] [] [(51, .v (.agg (cl46 x0 a4 c5 a8 c9 a12 c13 a16 c17 a20 c21 a24 c25).toArray))] _ E ⟨⟨E, V⟩, E⟩ ?_)
    obtain ⟨y74, hy75, h⟩ := bindO_some h
    refine JO.call E E E E (ok_i_copyEd x0 a4 c5 x0.2.2.1.1.length E a8 c9 (Q8 x0).2.2.1.length E a12 c13 (Q8 x0).2.2.2.1.length E a16 c17 (Q12 x0).2.1.1.length E a20 c21 (Q12 x0).2.2.1.length E a24 c25 (Q16 x0).1.length E _ hy75) E [0, 1, 2, 3, 4, 5] E E ?_
    rintro ⟨a76, c77, a78, c79, a80, c81, a82, c83, a84, c85, a86, c87⟩ -
    refine JO.regB ttOk 2 [] [] [(13, .v (I 2))] (.new 11 46 cz46 (.new 12 46 (cl46 y74 a76 c77 a78 c79 a80 c81 a82 c83 a84 c85 a86 c87) .nil)) E ⟨⟨E, V⟩, (Bs E E)⟩ (JO.done E (JS.endB (JS.endJA (2, y74, a76, c77, a78, c79, a80, c81, a82, c83, a84, c85, a86, c87) h (Es E) (Bs E E) [] E [0, 1, 2, 3, 4, 5] E E)))
   have h := condF h ht293
   refine JS.rg0 ttOk 2 [(53, .v (.bool (decide (x2.1 = 2))))] ⟨⟨E, V⟩, E⟩ E E ?_
   refine JS.cond E (fun ht292 => ?_) (fun ht292 => ?_)
   ·
    have h := condT h ht292
    refine JS.seq (JS.region (JO.reg ttOk 3 [] [] [(55, .v (.agg (cl46 x0 a4 c5 a8 c9 a12 c13 a16 c17 a20 c21 a24 c25).toArray)), (57, .v (I x2.2))] _ E ⟨(Es E), E⟩ ?_))
    obtain ⟨⟨y88, y89, y90⟩, hy91, h⟩ := bindO_some h
    refine JO.call E E E E (ok_i_plainCtrl x0 x2.2 a4 c5 x0.2.2.1.1.length E a8 c9 (Q8 x0).2.2.1.length E a12 c13 (Q8 x0).2.2.2.1.length E a16 c17 (Q12 x0).2.1.1.length E a20 c21 (Q12 x0).2.2.1.length E a24 c25 (Q16 x0).1.length E _ hy91) E [0, 1, 2, 3, 4, 5] E E ?_
    rintro ⟨a92, c93, a94, c95, a96, c97, a98, c99, a100, c101, a102, c103⟩ -
    refine JO.regB ttOk 6 [] [] [(7, .v (I y89)), (8, .v (.bool y90))] (.new 11 46 (cl46 y88 a92 c93 a94 c95 a96 c97 a98 c99 a100 c101 a102 c103) .nil) E ⟨(Es E), (Bs E E)⟩ (JO.done E ?_)
    cases h
    exact JS.ret ttOk (a92, c93, a94, c95, a96, c97, a98, c99, a100, c101, a102, c103) V E E [0, 0, 0, 0, 0, 0] E
   have h := condF h ht292
   refine JS.rg0 ttOk 2 [(62, .v (.bool (decide (x2.1 = 5))))] ⟨⟨E, V⟩, E⟩ E E ?_
   refine JS.cond E (fun ht291 => ?_) (fun ht291 => ?_)
   ·
    have h := condT h ht291
    refine JS.region (JO.reg ttOk 6 [(W (x0.2.2.1.2 - (max x0.2.2.2.1 1)))] [] [(65, .v (.agg (cl46 x0 a4 c5 a8 c9 a12 c13 a16 c17 a20 c21 a24 c25).toArray)), (69, .v (I (max (W (x0.2.2.1.2 - (max x0.2.2.2.1 1))) 0))), (70, .v (I x0.2.2.1.2))] _ E ⟨⟨V, E⟩, (Es E), E⟩ ?_)
    obtain ⟨⟨y104, y105⟩, hy106, h⟩ := bindO_some h
    refine JO.call E E E E (ok_i_cut x0 (max (W (x0.2.2.1.2 - (max x0.2.2.2.1 1))) 0) x0.2.2.1.2 a4 c5 x0.2.2.1.1.length E a8 c9 (Q8 x0).2.2.1.length E a12 c13 (Q8 x0).2.2.2.1.length E a16 c17 (Q12 x0).2.1.1.length E a20 c21 (Q12 x0).2.2.1.length E a24 c25 (Q16 x0).1.length E _ hy106) E [0, 1, 2, 3, 4, 5] E E ?_
    rintro ⟨a107, c108, a109, c110, a111, c112, a113, c114, a115, c116, a117, c118⟩ -
    refine JO.regB ttOk 5 [] [] [(13, .v (I y105))] (.new 11 46 cz46 (.new 12 46 (cl46 y104 a107 c108 a109 c110 a111 c112 a113 c114 a115 c116 a117 c118) .nil)) E ⟨⟨E, V⟩, (Bs E E)⟩ (JO.done E (JS.endB (JS.endJA (y105, y104, a107, c108, a109, c110, a111, c112, a113, c114, a115, c116, a117, c118) h (Es E) (Bs E E) [] E [0, 1, 2, 3, 4, 5] E E)))
   have h := condF h ht291
   refine JS.rg0 ttOk 2 [(74, .v (.bool (decide (x2.1 = 14))))] ⟨⟨E, V⟩, E⟩ E E ?_
   refine JS.cond E (fun ht290 => ?_) (fun ht290 => ?_)
   ·
    have h := condT h ht290
    refine JS.region (JO.reg ttOk 7 [(W (x0.2.2.1.2 + (max x0.2.2.2.1 1)))] [] [(77, .v (.agg (cl46 x0 a4 c5 a8 c9 a12 c13 a16 c17 a20 c21 a24 c25).toArray)), (78, .v (I x0.2.2.1.2)), (83, .v (I (min (W (x0.2.2.1.2 + (max x0.2.2.2.1 1))) (x0.2.2.1.1.length : Int))))] _ E ⟨⟨V, E⟩, (Es E), E⟩ ?_)
    obtain ⟨⟨y119, y120⟩, hy121, h⟩ := bindO_some h
    refine JO.call E E E E (ok_i_cut x0 x0.2.2.1.2 (min (W (x0.2.2.1.2 + (max x0.2.2.2.1 1))) (x0.2.2.1.1.length : Int)) a4 c5 x0.2.2.1.1.length E a8 c9 (Q8 x0).2.2.1.length E a12 c13 (Q8 x0).2.2.2.1.length E a16 c17 (Q12 x0).2.1.1.length E a20 c21 (Q12 x0).2.2.1.length E a24 c25 (Q16 x0).1.length E _ hy121) E [0, 1, 2, 3, 4, 5] E E ?_
    rintro ⟨a122, c123, a124, c125, a126, c127, a128, c129, a130, c131, a132, c133⟩ -
    refine JO.regB ttOk 5 [] [] [(13, .v (I y120))] (.new 11 46 cz46 (.new 12 46 (cl46 y119 a122 c123 a124 c125 a126 c127 a128 c129 a130 c131 a132 c133) .nil)) E ⟨⟨E, V⟩, (Bs E E)⟩ (JO.done E (JS.endB (JS.endJA (y120, y119, a122, c123, a124, c125, a126, c127, a128, c129, a130, c131, a132, c133) h (Es E) (Bs E E) [] E [0, 1, 2, 3, 4, 5] E E)))
   have h := condF h ht290
   refine JS.rg0 ttOk 2 [(87, .v (.bool (decide (x2.1 = 11))))] ⟨⟨E, V⟩, E⟩ E E ?_
   refine JS.cond E (fun ht289 => ?_) (fun ht289 => ?_)
   ·
    have h := condT h ht289
    obtain ⟨y134, hy135, h⟩ := bindO_some h
    obtain ⟨⟨y138, y139⟩, hy140, h⟩ := bindO_some h
    refine JS.regionA E (.new 8 46 (cl46 x0 a4 c5 a8 c9 a12 c13 a16 c17 a20 c21 a24 c25) .nil) [] [7, 8, 9, 10, 11, 12] ⟨E, E, E, E, V⟩ E (fun be153 => ?_)
    refine JA.reg ttOk panic_cx true 7 [0, 1, 2, 3, 4, 5] E (by kernel_rfl) [(W (x0.2.2.1.2 - (max x0.2.2.2.1 1)))] [(90, .v (.agg (cl46 x0 a4 c5 a8 c9 a12 c13 a16 c17 a20 c21 a24 c25).toArray)), (92, .v (.agg #[.slice a4 x0.2.2.1.1.length c5, .int .i64 x0.2.2.1.2])), (95, .v (I (W (x0.2.2.1.2 - (max x0.2.2.2.1 1)))))] ⟨E, E, E, E, V⟩ [] E E ⟨⟨V, E⟩, (Es E)⟩ (JA.one 6 (by kernel_rfl) (JK.call E E E E (ok_i_goTo x0.2.2.1 (W (x0.2.2.1.2 - (max x0.2.2.2.1 1))) a4 c5 x0.2.2.1.1.length E _ hy135) E [0] E E ?_))
    rintro ⟨a136, c137⟩ -
    refine JA.next ⟨E, E, E, E, V⟩ [] E (JA.one 7 (by kernel_rfl) (JK.call E E E E (ok_i_put x0 y134 a4 c5 x0.2.2.1.1.length E a8 c9 (Q8 x0).2.2.1.length E a12 c13 (Q8 x0).2.2.2.1.length E a16 c17 (Q12 x0).2.1.1.length E a20 c21 (Q12 x0).2.2.1.length E a24 c25 (Q16 x0).1.length E a136 c137 y134.1.length E _ hy140) E [0, 1, 2, 3, 4, 5, 7] E E ?_))
    rintro ⟨a141, c142, a143, c144, a145, c146, a147, c148, a149, c150, a151, c152⟩ -
    refine JA.nextL E (JA.regL ttOk panic_cx 2 [8, 9, 10] E (by kernel_rfl) [] [(98, .v (.agg (cl46 y138 a141 c142 a143 c144 a145 c146 a147 c148 a149 c150 a151 c152).toArray)), (99, .v (I y139))] E (Es E) (JA.one 11 (by kernel_rfl) (JK.stBox ttOk E E E E E E E E (JA.nextL E (JA.regL ttOk panic_cx 0 [12] E (by kernel_rfl) [] [(13, .v (I y139))] E ⟨E, V⟩ (JA.done (by kernel_rfl) (JS.boxes (B' := (.new 11 46 cz46 (.new 12 46 (cl46 y138 a141 c142 a143 c144 a145 c146 a147 c148 a149 c150 a151 c152) .nil))) (Bs E E) (JS.endB (JS.endJA (y139, y138, a141, c142, a143, c144, a145, c146, a147, c148, a149, c150, a151, c152) h (Es E) (Bs E E) [] E [0, 1, 2, 3, 4, 5] E E)))))))))
   have h := condF h ht289
   refine JS.rg0 ttOk 2 [(100, .v (.bool (decide (x2.1 = 10))))] ⟨⟨E, V⟩, E⟩ E E ?_
   refine JS.cond E (fun ht288 => ?_) (fun ht288 => ?_)
   ·
    have h := condT h ht288
    obtain ⟨y154, hy155, h⟩ := bindO_some h
    obtain ⟨⟨y158, y159⟩, hy160, h⟩ := bindO_some h
    refine JS.regionA E (.new 8 46 (cl46 x0 a4 c5 a8 c9 a12 c13 a16 c17 a20 c21 a24 c25) .nil) [] [7, 8, 9, 10, 11, 12] ⟨E, E, E, E, V⟩ E (fun be173 => ?_)
    refine JA.reg ttOk panic_cx true 7 [0, 1, 2, 3, 4, 5] E (by kernel_rfl) [(W (x0.2.2.1.2 + (max x0.2.2.2.1 1)))] [(103, .v (.agg (cl46 x0 a4 c5 a8 c9 a12 c13 a16 c17 a20 c21 a24 c25).toArray)), (105, .v (.agg #[.slice a4 x0.2.2.1.1.length c5, .int .i64 x0.2.2.1.2])), (108, .v (I (W (x0.2.2.1.2 + (max x0.2.2.2.1 1)))))] ⟨E, E, E, E, V⟩ [] E E ⟨⟨V, E⟩, (Es E)⟩ (JA.one 6 (by kernel_rfl) (JK.call E E E E (ok_i_goTo x0.2.2.1 (W (x0.2.2.1.2 + (max x0.2.2.2.1 1))) a4 c5 x0.2.2.1.1.length E _ hy155) E [0] E E ?_))
    rintro ⟨a156, c157⟩ -
    refine JA.next ⟨E, E, E, E, V⟩ [] E (JA.one 7 (by kernel_rfl) (JK.call E E E E (ok_i_put x0 y154 a4 c5 x0.2.2.1.1.length E a8 c9 (Q8 x0).2.2.1.length E a12 c13 (Q8 x0).2.2.2.1.length E a16 c17 (Q12 x0).2.1.1.length E a20 c21 (Q12 x0).2.2.1.length E a24 c25 (Q16 x0).1.length E a156 c157 y154.1.length E _ hy160) E [0, 1, 2, 3, 4, 5, 7] E E ?_))
    rintro ⟨a161, c162, a163, c164, a165, c166, a167, c168, a169, c170, a171, c172⟩ -
    refine JA.nextL E (JA.regL ttOk panic_cx 2 [8, 9, 10] E (by kernel_rfl) [] [(111, .v (.agg (cl46 y158 a161 c162 a163 c164 a165 c166 a167 c168 a169 c170 a171 c172).toArray)), (112, .v (I y159))] E (Es E) (JA.one 11 (by kernel_rfl) (JK.stBox ttOk E E E E E E E E (JA.nextL E (JA.regL ttOk panic_cx 0 [12] E (by kernel_rfl) [] [(13, .v (I y159))] E ⟨E, V⟩ (JA.done (by kernel_rfl) (JS.boxes (B' := (.new 11 46 cz46 (.new 12 46 (cl46 y158 a161 c162 a163 c164 a165 c166 a167 c168 a169 c170 a171 c172) .nil))) (Bs E E) (JS.endB (JS.endJA (y159, y158, a161, c162, a163, c164, a165, c166, a167, c168, a169, c170, a171, c172) h (Es E) (Bs E E) [] E [0, 1, 2, 3, 4, 5] E E)))))))))
   have h := condF h ht288
   refine JS.rg0 ttOk 2 [(113, .v (.bool (decide (x2.1 = 12))))] ⟨⟨E, V⟩, E⟩ E E ?_
   refine JS.cond E (fun ht287 => ?_) (fun ht287 => ?_)
   ·
    have h := condT h ht287
    obtain ⟨y174, hy175, h⟩ := bindO_some h
    obtain ⟨⟨y178, y179⟩, hy180, h⟩ := bindO_some h
    refine JS.regionA E (.new 8 46 (cl46 x0 a4 c5 a8 c9 a12 c13 a16 c17 a20 c21 a24 c25) .nil) [] [4, 5, 6, 7, 8, 9] ⟨E, E, E, E, V⟩ E (fun be193 => ?_)
    refine JA.reg ttOk panic_cx true 7 [0, 1, 2] E (by kernel_rfl) [] [(116, .v (.agg (cl46 x0 a4 c5 a8 c9 a12 c13 a16 c17 a20 c21 a24 c25).toArray)), (118, .v (.agg #[.slice a4 x0.2.2.1.1.length c5, .int .i64 x0.2.2.1.2]))] ⟨E, E, E, E, V⟩ [] E E (Es E) (JA.one 3 (by kernel_rfl) (JK.call E E E E (ok_i_goTo x0.2.2.1 0 a4 c5 x0.2.2.1.1.length E _ hy175) E [0] E E ?_))
    rintro ⟨a176, c177⟩ -
    refine JA.next ⟨E, E, E, E, V⟩ [] E (JA.one 4 (by kernel_rfl) (JK.call E E E E (ok_i_put x0 y174 a4 c5 x0.2.2.1.1.length E a8 c9 (Q8 x0).2.2.1.length E a12 c13 (Q8 x0).2.2.2.1.length E a16 c17 (Q12 x0).2.1.1.length E a20 c21 (Q12 x0).2.2.1.length E a24 c25 (Q16 x0).1.length E a176 c177 y174.1.length E _ hy180) E [0, 1, 2, 3, 4, 5, 7] E E ?_))
    rintro ⟨a181, c182, a183, c184, a185, c186, a187, c188, a189, c190, a191, c192⟩ -
    refine JA.nextL E (JA.regL ttOk panic_cx 2 [5, 6, 7] E (by kernel_rfl) [] [(121, .v (.agg (cl46 y178 a181 c182 a183 c184 a185 c186 a187 c188 a189 c190 a191 c192).toArray)), (122, .v (I y179))] E (Es E) (JA.one 8 (by kernel_rfl) (JK.stBox ttOk E E E E E E E E (JA.nextL E (JA.regL ttOk panic_cx 0 [9] E (by kernel_rfl) [] [(13, .v (I y179))] E ⟨E, V⟩ (JA.done (by kernel_rfl) (JS.boxes (B' := (.new 11 46 cz46 (.new 12 46 (cl46 y178 a181 c182 a183 c184 a185 c186 a187 c188 a189 c190 a191 c192) .nil))) (Bs E E) (JS.endB (JS.endJA (y179, y178, a181, c182, a183, c184, a185, c186, a187, c188, a189, c190, a191, c192) h (Es E) (Bs E E) [] E [0, 1, 2, 3, 4, 5] E E)))))))))
   have h := condF h ht287
   refine JS.rg0 ttOk 2 [(123, .v (.bool (decide (x2.1 = 13))))] ⟨⟨E, V⟩, E⟩ E E ?_
   refine JS.cond E (fun ht286 => ?_) (fun ht286 => ?_)
   ·
    have h := condT h ht286
    obtain ⟨y194, hy195, h⟩ := bindO_some h
    obtain ⟨⟨y198, y199⟩, hy200, h⟩ := bindO_some h
    refine JS.regionA E (.new 8 46 (cl46 x0 a4 c5 a8 c9 a12 c13 a16 c17 a20 c21 a24 c25) .nil) [] [5, 6, 7, 8, 9, 10] ⟨E, E, E, E, V⟩ E (fun be213 => ?_)
    refine JA.reg ttOk panic_cx true 7 [0, 1, 2, 3] E (by kernel_rfl) [] [(126, .v (.agg (cl46 x0 a4 c5 a8 c9 a12 c13 a16 c17 a20 c21 a24 c25).toArray)), (128, .v (.agg #[.slice a4 x0.2.2.1.1.length c5, .int .i64 x0.2.2.1.2])), (129, .v (I (x0.2.2.1.1.length : Int)))] ⟨E, E, E, E, V⟩ [] E E (Es E) (JA.one 4 (by kernel_rfl) (JK.call E E E E (ok_i_goTo x0.2.2.1 (x0.2.2.1.1.length : Int) a4 c5 x0.2.2.1.1.length E _ hy195) E [0] E E ?_))
    rintro ⟨a196, c197⟩ -
    refine JA.next ⟨E, E, E, E, V⟩ [] E (JA.one 5 (by kernel_rfl) (JK.call E E E E (ok_i_put x0 y194 a4 c5 x0.2.2.1.1.length E a8 c9 (Q8 x0).2.2.1.length E a12 c13 (Q8 x0).2.2.2.1.length E a16 c17 (Q12 x0).2.1.1.length E a20 c21 (Q12 x0).2.2.1.length E a24 c25 (Q16 x0).1.length E a196 c197 y194.1.length E _ hy200) E [0, 1, 2, 3, 4, 5, 7] E E ?_))
    rintro ⟨a201, c202, a203, c204, a205, c206, a207, c208, a209, c210, a211, c212⟩ -
    refine JA.nextL E (JA.regL ttOk panic_cx 2 [6, 7, 8] E (by kernel_rfl) [] [(132, .v (.agg (cl46 y198 a201 c202 a203 c204 a205 c206 a207 c208 a209 c210 a211 c212).toArray)), (133, .v (I y199))] E (Es E) (JA.one 9 (by kernel_rfl) (JK.stBox ttOk E E E E E E E E (JA.nextL E (JA.regL ttOk panic_cx 0 [10] E (by kernel_rfl) [] [(13, .v (I y199))] E ⟨E, V⟩ (JA.done (by kernel_rfl) (JS.boxes (B' := (.new 11 46 cz46 (.new 12 46 (cl46 y198 a201 c202 a203 c204 a205 c206 a207 c208 a209 c210 a211 c212) .nil))) (Bs E E) (JS.endB (JS.endJA (y199, y198, a201, c202, a203, c204, a205, c206, a207, c208, a209, c210, a211, c212) h (Es E) (Bs E E) [] E [0, 1, 2, 3, 4, 5] E E)))))))))
   have h := condF h ht286
   refine JS.rg0 ttOk 2 [(134, .v (.bool (decide (x2.1 = 8))))] ⟨⟨E, V⟩, E⟩ E E ?_
   refine JS.cond E (fun ht285 => ?_) (fun ht285 => ?_)
   ·
    have h := condT h ht285
    refine JS.region (JO.reg ttOk 2 [] [] [(137, .v (.agg (cl46 x0 a4 c5 a8 c9 a12 c13 a16 c17 a20 c21 a24 c25).toArray)), (138, .v (.agg #[.int .i64 x1.1, .slice a28 x1.2.length c29]))] _ E ⟨(Es E), E⟩ ?_)
    obtain ⟨⟨y214, y215⟩, hy216, h⟩ := bindO_some h
    refine JO.call E E E E (ok_i_step x0 x1 (-1) a4 c5 x0.2.2.1.1.length E a8 c9 (Q8 x0).2.2.1.length E a12 c13 (Q8 x0).2.2.2.1.length E a16 c17 (Q12 x0).2.1.1.length E a20 c21 (Q12 x0).2.2.1.length E a24 c25 (Q16 x0).1.length E a28 c29 x1.2.length E _ hy216) E [0, 1, 2, 3, 4, 5, 6] E E ?_
    rintro ⟨a217, c218, a219, c220, a221, c222, a223, c224, a225, c226, a227, c228⟩ -
    refine JO.regB ttOk 5 [] [] [(13, .v (I y215))] (.new 11 46 cz46 (.new 12 46 (cl46 y214 a217 c218 a219 c220 a221 c222 a223 c224 a225 c226 a227 c228) .nil)) E ⟨⟨E, V⟩, (Bs E E)⟩ (JO.done E (JS.endB (JS.endJA (y215, y214, a217, c218, a219, c220, a221, c222, a223, c224, a225, c226, a227, c228) h (Es E) (Bs E E) [] E [0, 1, 2, 3, 4, 5] E E)))
   have h := condF h ht285
   refine JS.rg0 ttOk 2 [(142, .v (.bool (decide (x2.1 = 9))))] ⟨⟨E, V⟩, E⟩ E E ?_
   refine JS.cond E (fun ht284 => ?_) (fun ht284 => ?_)
   ·
    have h := condT h ht284
    refine JS.region (JO.reg ttOk 2 [] [] [(145, .v (.agg (cl46 x0 a4 c5 a8 c9 a12 c13 a16 c17 a20 c21 a24 c25).toArray)), (146, .v (.agg #[.int .i64 x1.1, .slice a28 x1.2.length c29]))] _ E ⟨(Es E), E⟩ ?_)
    obtain ⟨⟨y229, y230⟩, hy231, h⟩ := bindO_some h
    refine JO.call E E E E (ok_i_step x0 x1 1 a4 c5 x0.2.2.1.1.length E a8 c9 (Q8 x0).2.2.1.length E a12 c13 (Q8 x0).2.2.2.1.length E a16 c17 (Q12 x0).2.1.1.length E a20 c21 (Q12 x0).2.2.1.length E a24 c25 (Q16 x0).1.length E a28 c29 x1.2.length E _ hy231) E [0, 1, 2, 3, 4, 5, 6] E E ?_
    rintro ⟨a232, c233, a234, c235, a236, c237, a238, c239, a240, c241, a242, c243⟩ -
    refine JO.regB ttOk 5 [] [] [(13, .v (I y230))] (.new 11 46 cz46 (.new 12 46 (cl46 y229 a232 c233 a234 c235 a236 c237 a238 c239 a240 c241 a242 c243) .nil)) E ⟨⟨E, V⟩, (Bs E E)⟩ (JO.done E (JS.endB (JS.endJA (y230, y229, a232, c233, a234, c235, a236, c237, a238, c239, a240, c241, a242, c243) h (Es E) (Bs E E) [] E [0, 1, 2, 3, 4, 5] E E)))
   have h := condF h ht284
   refine JS.rgB ttOk 4 [] [] [(7, .v (I 0)), (8, .v (.bool false))] (.new 11 46 cz46 .nil) ⟨(Es E), (Bs E E)⟩ E E ?_
   cases h
   refine JS.nilO (.int .i64) Sl.nil E E (JS.nilO (.sl (.int .i64)) Sl.nil E E (JS.nilO (.pair (.sl (.int .i64)) (.int .i64)) Sl.nil E E (JS.nilO (.int .i64) Sl.nil E E (JS.nilO (.int .i64) Sl.nil E E (JS.nilO (.int .i64) Sl.nil E E (JS.ret ttOk (none, 0, none, 0, none, 0, none, 0, none, 0, none, 0) V E E [5, 4, 3, 2, 1, 0] E))))))
  rintro ⟨x256, x257, a258, c259, a260, c261, a262, c263, a264, c265, a266, c267, a268, c269⟩ h
  subst hj296
  refine JS.rgB ttOk 5 [] [] [(7, .v (I x256)), (8, .v (.bool true))] (.new 11 46 (cl46 x257 a258 c259 a260 c261 a262 c263 a264 c265 a266 c267 a268 c269) .nil) ⟨(Es E), (Bs E E)⟩ E E ?_
  cases h
  exact JS.ret ttOk (a258, c259, a260, c261, a262, c263, a264, c265, a266, c267, a268, c269) V E E [0, 0, 0, 0, 0, 0] E

def M_i_PlainKey (x0 : EdQ) (x1 : Int × List (List UInt8)) (x2 : Int × Int) : Option (EdQ × Int × Bool) :=
  (bindO (M_i_canKey x0 x1 x2) fun (y32 : Bool) =>
  (bif (bif (!y32) then true else (bif (!(decide (x0.2.1 = 0))) then (!(decide (x0.2.1 = 1))) else false)) then
  some ((false, 0, ([], 0), 0, 0, 0, 0, 0, 0, 0, [], [], 0, ([], 0), [], 0, ([], 0)), 0, false)
  else
  (bindO (M_i_plain x0 x1 x2) fun (y34, y35, y36) =>
  some (y34, y35, y36))))

theorem ok_i_PlainKey (x0 : EdQ) (x1 : Int × List (List UInt8)) (x2 : Int × Int) (a4 : Option Addr) (c5 : Nat) (l6 : Nat) (hl7 : x0.2.2.1.1.length = l6) (a8 : Option Addr) (c9 : Nat) (l10 : Nat) (hl11 : (Q8 x0).2.2.1.length = l10) (a12 : Option Addr) (c13 : Nat) (l14 : Nat) (hl15 : (Q8 x0).2.2.2.1.length = l14) (a16 : Option Addr) (c17 : Nat) (l18 : Nat) (hl19 : (Q12 x0).2.1.1.length = l18) (a20 : Option Addr) (c21 : Nat) (l22 : Nat) (hl23 : (Q12 x0).2.2.1.length = l22) (a24 : Option Addr) (c25 : Nat) (l26 : Nat) (hl27 : (Q16 x0).1.length = l26) (a28 : Option Addr) (c29 : Nat) (l30 : Nat) (hl31 : x1.2.length = l30) (r : EdQ × Int × Bool) (h : M_i_PlainKey x0 x1 x2 = some r) :
  FC Tryz.prog 28 [.agg #[.bool x0.1, .int .i64 x0.2.1, .slice a4 l6 c5, .int .i64 x0.2.2.1.2, .int .i64 x0.2.2.2.1, .int .i64 (Q4 x0).1, .int .i64 (Q4 x0).2.1, .int .i64 (Q4 x0).2.2.1, .int .i64 (Q4 x0).2.2.2.1, .int .i64 (Q8 x0).1, .int .i64 (Q8 x0).2.1, .slice a8 l10 c9, .slice a12 l14 c13, .int .i64 (Q12 x0).1, .slice a16 l18 c17, .int .i64 (Q12 x0).2.1.2, .slice a20 l22 c21, .int .i64 (Q12 x0).2.2.2.1, .slice a24 l26 c25, .int .i64 (Q16 x0).2], .agg #[.int .i64 x1.1, .slice a28 l30 c29], .agg #[.int .i64 x2.1, .int .i64 x2.2]] [⟨(.int .i64), ⟨a4, l6, c5⟩, x0.2.2.1.1⟩, ⟨(.sl (.int .i64)), ⟨a8, l10, c9⟩, (Q8 x0).2.2.1⟩, ⟨(.pair (.sl (.int .i64)) (.int .i64)), ⟨a12, l14, c13⟩, (Q8 x0).2.2.2.1⟩, ⟨(.int .i64), ⟨a16, l18, c17⟩, (Q12 x0).2.1.1⟩, ⟨(.int .i64), ⟨a20, l22, c21⟩, (Q12 x0).2.2.1⟩, ⟨(.int .i64), ⟨a24, l26, c25⟩, (Q16 x0).1⟩, ⟨.str, ⟨a28, l30, c29⟩, x1.2⟩] (fun _ : Option Addr × Nat × Option Addr × Nat × Option Addr × Nat × Option Addr × Nat × Option Addr × Nat × Option Addr × Nat => True) (fun q => .tuple #[.agg (cl46 r.1 q.1 q.2.1 q.2.2.1 q.2.2.2.1 (Q4 q).1 (Q4 q).2.1 (Q4 q).2.2.1 (Q4 q).2.2.2.1 (Q8 q).1 (Q8 q).2.1 (Q8 q).2.2.1 (Q8 q).2.2.2).toArray, .int .i64 r.2.1, .bool r.2.2]) (fun q => (fl32 r.1 q.1 q.2.1 q.2.2.1 q.2.2.2.1 (Q4 q).1 (Q4 q).2.1 (Q4 q).2.2.1 (Q4 q).2.2.2.1 (Q8 q).1 (Q8 q).2.1 (Q8 q).2.2.1 (Q8 q).2.2.2 [])) :=
 by
  subst hl7
  subst hl11
  subst hl15
  subst hl19
  subst hl23
  subst hl27
  subst hl31
  refine FC.of (T := TTx) Tryz.call28 Tryz.func28 E E fun w0 => ?_
  unfold M_i_PlainKey at h
  refine JS.rgB ttOk 6 [] [8, 9, 10, 11] [(3, .bp 8 0), (4, .bp 9 0), (5, .bp 10 0), (6, .bp 11 0)] (.new 8 46 (cl46 x0 a4 c5 a8 c9 a12 c13 a16 c17 a20 c21 a24 c25) (.new 9 50 [.int .i64 x1.1, .slice a28 x1.2.length c29] (.new 10 64 [.int .i64 x2.1, .int .i64 x2.2] (.new 11 46 cz46 .nil)))) ⟨(Es E), (Bs E E)⟩ E E (JS.seq (JS.seq (JS.region (JO.reg ttOk 3 [] [] [(9, .v (.agg (cl46 x0 a4 c5 a8 c9 a12 c13 a16 c17 a20 c21 a24 c25).toArray)), (10, .v (.agg #[.int .i64 x1.1, .slice a28 x1.2.length c29])), (11, .v (.agg #[.int .i64 x2.1, .int .i64 x2.2]))] _ E ⟨(Es E), E⟩ ?_))))
  obtain ⟨y32, hy33, h⟩ := bindO_some h
  refine JO.call E E E E (ok_i_canKey x0 x1 x2 a4 c5 x0.2.2.1.1.length E a8 c9 (Q8 x0).2.2.1.length E a12 c13 (Q8 x0).2.2.2.1.length E a16 c17 (Q12 x0).2.1.1.length E a20 c21 (Q12 x0).2.2.1.length E a24 c25 (Q16 x0).1.length E a28 c29 x1.2.length E _ hy33) E [0, 1, 2, 3, 4, 5, 6] E E fun _ _ => JO.reg ttOk 11 [] [] [(23, .v (.bool (bif (!y32) then true else (bif (!(decide (x0.2.1 = 0))) then (!(decide (x0.2.1 = 1))) else false))))] _ E ⟨⟨E, V⟩, E⟩ (JO.done E ?_)
  refine JS.cond E (fun ht51 => ?_) (fun ht51 => ?_)
  ·
   have h := condT h ht51
   refine JS.rgB ttOk 4 [] [] [(7, .v (I 0)), (8, .v (.bool false))] (.new 11 46 cz46 .nil) ⟨(Es E), (Bs E E)⟩ E E ?_
   cases h
   refine JS.nilO (.int .i64) Sl.nil E E (JS.nilO (.sl (.int .i64)) Sl.nil E E (JS.nilO (.pair (.sl (.int .i64)) (.int .i64)) Sl.nil E E (JS.nilO (.int .i64) Sl.nil E E (JS.nilO (.int .i64) Sl.nil E E (JS.nilO (.int .i64) Sl.nil E E (JS.ret ttOk (none, 0, none, 0, none, 0, none, 0, none, 0, none, 0) V E E [5, 4, 3, 2, 1, 0] E))))))
  have h := condF h ht51
  refine JS.skip (JS.seq (JS.region (JO.reg ttOk 3 [] [] [(25, .v (.agg (cl46 x0 a4 c5 a8 c9 a12 c13 a16 c17 a20 c21 a24 c25).toArray)), (26, .v (.agg #[.int .i64 x1.1, .slice a28 x1.2.length c29])), (27, .v (.agg #[.int .i64 x2.1, .int .i64 x2.2]))] _ E ⟨(Es E), E⟩ ?_)))
  obtain ⟨⟨y34, y35, y36⟩, hy37, h⟩ := bindO_some h
  refine JO.call E E E E (ok_i_plain x0 x1 x2 a4 c5 x0.2.2.1.1.length E a8 c9 (Q8 x0).2.2.1.length E a12 c13 (Q8 x0).2.2.2.1.length E a16 c17 (Q12 x0).2.1.1.length E a20 c21 (Q12 x0).2.2.1.length E a24 c25 (Q16 x0).1.length E a28 c29 x1.2.length E _ hy37) E [0, 1, 2, 3, 4, 5, 6] E E ?_
  rintro ⟨a38, c39, a40, c41, a42, c43, a44, c45, a46, c47, a48, c49⟩ -
  refine JO.regB ttOk 6 [] [] [(7, .v (I y35)), (8, .v (.bool y36))] (.new 11 46 (cl46 y34 a38 c39 a40 c41 a42 c43 a44 c45 a46 c47 a48 c49) .nil) E ⟨(Es E), (Bs E E)⟩ (JO.done E ?_)
  cases h
  exact JS.ret ttOk (a38, c39, a40, c41, a42, c43, a44, c45, a46, c47, a48, c49) V E E [0, 0, 0, 0, 0, 0] E

def M_l_eqIntS_L1 (x0 : List Int) (x1 : List Int) (j28 : Unit → Option Bool) (k20 : Int → Option Bool) : Int → Option Bool := fun x11 =>
  (bif (decide (x11 < (x0.length : Int))) then
  (guardO (0 ≤ x11 ∧ x11 < (x0.length : Int)) <|
  (guardO (0 ≤ x11 ∧ x11 < (x1.length : Int)) <|
  (bif (!(decide ((at' x0 x11) = (at' x1 x11)))) then
  some false
  else
  k20 (W (x11 + 1)))))
  else
  j28 ())

def M_l_eqIntS (x0 : List Int) (x1 : List Int) : Option Bool :=
  (bif (!(decide ((x0.length : Int) = (x1.length : Int)))) then
  some false
  else
  (joinO (fun (_ : Unit) =>
  some true) fun j28 =>
  (fixF (M_l_eqIntS_L1 x0 x1 j28) FUEL 0)))

theorem ok_l_eqIntS (x0 : List Int) (x1 : List Int) (a3 : Option Addr) (c4 : Nat) (l5 : Nat) (hl6 : x0.length = l5) (a7 : Option Addr) (c8 : Nat) (l9 : Nat) (hl10 : x1.length = l9) (r : Bool) (h : M_l_eqIntS x0 x1 = some r) :
  FC Tryz.prog 19 [.slice a3 l5 c4, .slice a7 l9 c8] [⟨(.int .i64), ⟨a3, l5, c4⟩, x0⟩, ⟨(.int .i64), ⟨a7, l9, c8⟩, x1⟩] (fun _ : Unit => True) (fun _ => .bool r) (fun _ => []) :=
 by
  subst hl6
  subst hl10
  refine FC.of (T := TTx) Tryz.call19 Tryz.func19 E E fun w0 => ?_
  unfold M_l_eqIntS at h
  refine JS.rg0 ttOk 1 [] ⟨V, E⟩ E E (JS.seq (JS.rg0 ttOk 5 [(10, .v (.bool (!(decide ((x0.length : Int) = (x1.length : Int))))))] ⟨⟨E, V⟩, E⟩ E E ?_))
  refine JS.cond E (fun ht44 => ?_) (fun ht44 => ?_)
  ·
   have h := condT h ht44
   refine JS.rg0 ttOk 1 [(4, .v (.bool false))] ⟨⟨E, V⟩, E⟩ E E ?_
   cases h
   exact JS.ret ttOk () V E E [] E
  have h := condF h ht44
  refine JS.skip (JS.seq (JS.rg0 ttOk 1 [(5, .v (I 0))] ⟨⟨E, V⟩, E⟩ E E ?_))
  obtain ⟨j28, hj43, h⟩ := joinO_some h
  refine JS.blockJ (ι := Unit) ⟨fun _ => j28 () = some r, fun _ => [], fun _ => .nil, fun _ => [], fun _ => [], fun _ => 0⟩ ?_ ?_
  ·
   refine JS.loop (ι := Nat × Int) ⟨fun z => fixF (M_l_eqIntS_L1 x0 x1 j28) z.1 z.2 = some r, fun z => [(0, .v (.slice a3 x0.length c4)), (1, .v (.slice a7 x1.length c8)), (5, .v (I z.2))], fun z => .nil, fun z => [⟨(.int .i64), ⟨a3, x0.length, c4⟩, x0⟩, ⟨(.int .i64), ⟨a7, x1.length, c8⟩, x1⟩], fun z => [], fun z => z.1⟩ (FUEL, 0) h (Es E) V [0, 1] E [] E ?_
   rintro ⟨n21, x11⟩ h
   obtain ⟨n21, rfl, h⟩ := fixF_some h
   rw [M_l_eqIntS_L1] at h
   refine JS.seq (JS.rg0 ttOk 4 [(14, .v (.bool (decide (x11 < (x0.length : Int)))))] ⟨⟨E, V⟩, E⟩ E E ?_)
   refine JS.cond E (fun ht42 => ?_) (fun ht42 => ?_)
   ·
    have h := condT h ht42
    refine JS.skip (JS.seq (JS.block (JS.seq ?_)))
    obtain ⟨g13, h⟩ := guardO_some h
    obtain ⟨g15, h⟩ := guardO_some h
    refine JS.know 0 E fun hs39 => JS.know 1 E fun hs40 => JS.regionQ E (by kernel_rfl) (JQ.reg ttOk 3 [] [(19, .ep ⟨a3, x0.length, c4⟩ (Int.toNat x11 * 1))] E ⟨hs39.ix g13, ⟨E, V⟩⟩ (JQ.load ttOk E E E E E E E 0 E E (Int.toNat x11) 0 (at' x0 x11) ⟨at_some g13, E⟩ E E (JQ.reg ttOk 3 [] [(23, .ep ⟨a7, x1.length, c8⟩ (Int.toNat x11 * 1))] E ⟨hs40.ix g15, ⟨E, V⟩⟩ (JQ.load ttOk E E E E E E E 1 E E (Int.toNat x11) 0 (at' x1 x11) ⟨at_some g15, E⟩ E E (JQ.reg ttOk 1 [] [(25, .v (.bool (!(decide ((at' x0 x11) = (at' x1 x11))))))] E ⟨E, V⟩ (JQ.done E ?_))))))
    refine JS.cond E (fun ht41 => ?_) (fun ht41 => ?_)
    ·
     have h := condT h ht41
     refine JS.rg0 ttOk 1 [(4, .v (.bool false))] ⟨⟨E, V⟩, E⟩ E E ?_
     cases h
     exact JS.ret ttOk () V E E [] E
    have h := condF h ht41
    refine JS.skip (JS.endB (JS.re ttOk 3 [(W (x11 + 1))] [] [(5, .v (I (W (x11 + 1))))] _ ⟨⟨V, E⟩, ⟨E, V⟩, E⟩ E E (JS.endL (n21, (W (x11 + 1))) h (Nat.lt_succ_self _) (Es E) V [0, 1] E [] E)))
   have h := condF h ht42
   refine JS.exit E (JS.endJ () h V V [] E [] E)
  rintro _ h
  subst hj43
  refine JS.rg0 ttOk 1 [(4, .v (.bool true))] ⟨⟨E, V⟩, E⟩ E E ?_
  cases h
  exact JS.ret ttOk () V E E [] E

def M_l_eqLine (x0 : List Int × Int) (x1 : List Int × Int) : Option Bool :=
  (bindO (M_l_eqIntS x0.1 x1.1) fun (y11 : Bool) =>
  (bif (!y11) then
  some false
  else
  (bif (!(decide (x0.2 = x1.2))) then
  some false
  else
  some true)))

theorem ok_l_eqLine (x0 : List Int × Int) (x1 : List Int × Int) (a3 : Option Addr) (c4 : Nat) (l5 : Nat) (hl6 : x0.1.length = l5) (a7 : Option Addr) (c8 : Nat) (l9 : Nat) (hl10 : x1.1.length = l9) (r : Bool) (h : M_l_eqLine x0 x1 = some r) :
  FC Tryz.prog 66 [.agg #[.slice a3 l5 c4, .int .i64 x0.2], .agg #[.slice a7 l9 c8, .int .i64 x1.2]] [⟨(.int .i64), ⟨a3, l5, c4⟩, x0.1⟩, ⟨(.int .i64), ⟨a7, l9, c8⟩, x1.1⟩] (fun _ : Unit => True) (fun _ => .bool r) (fun _ => []) :=
 by
  subst hl6
  subst hl10
  refine FC.of (T := TTx) Tryz.call66 Tryz.func66 E E fun w0 => ?_
  unfold M_l_eqLine at h
  refine JS.rgB ttOk 3 [] [3, 4] [(2, .bp 3 0), (3, .bp 4 0)] (.new 3 38 [.slice a3 x0.1.length c4, .int .i64 x0.2] (.new 4 38 [.slice a7 x1.1.length c8, .int .i64 x1.2] .nil)) ⟨(Es E), (Bs E E)⟩ E E (JS.seq (JS.seq (JS.region (JO.reg ttOk 4 [] [] [(6, .v (.slice a3 x0.1.length c4)), (8, .v (.slice a7 x1.1.length c8))] _ E ⟨(Es E), E⟩ ?_))))
  obtain ⟨y11, hy12, h⟩ := bindO_some h
  refine JO.call E E E E (ok_l_eqIntS x0.1 x1.1 a3 c4 x0.1.length E a7 c8 x1.1.length E _ hy12) E [0, 1] E E fun _ _ => JO.reg ttOk 1 [] [] [(10, .v (.bool (!y11)))] _ E ⟨⟨E, V⟩, E⟩ (JO.done E ?_)
  refine JS.cond E (fun ht16 => ?_) (fun ht16 => ?_)
  ·
   have h := condT h ht16
   refine JS.rg0 ttOk 1 [(4, .v (.bool false))] ⟨⟨E, V⟩, E⟩ E E ?_
   cases h
   exact JS.ret ttOk () V E E [] E
  have h := condF h ht16
  refine JS.skip (JS.seq (JS.rg0 ttOk 5 [(15, .v (.bool (!(decide (x0.2 = x1.2)))))] ⟨⟨E, V⟩, E⟩ E E ?_))
  refine JS.cond E (fun ht15 => ?_) (fun ht15 => ?_)
  ·
   have h := condT h ht15
   refine JS.rg0 ttOk 1 [(4, .v (.bool false))] ⟨⟨E, V⟩, E⟩ E E ?_
   cases h
   exact JS.ret ttOk () V E E [] E
  have h := condF h ht15
  refine JS.skip (JS.rg0 ttOk 1 [(4, .v (.bool true))] ⟨⟨E, V⟩, E⟩ E E ?_)
  cases h
  exact JS.ret ttOk () V E E [] E

def M_l_eqPiece (x0 : List Int) (x1 : List Int) : Option Bool :=
  (bindO (M_l_eqIntS x0 x1) fun (y11 : Bool) =>
  (bif (!y11) then
  some false
  else
  some true))

theorem ok_l_eqPiece (x0 : List Int) (x1 : List Int) (a3 : Option Addr) (c4 : Nat) (l5 : Nat) (hl6 : x0.length = l5) (a7 : Option Addr) (c8 : Nat) (l9 : Nat) (hl10 : x1.length = l9) (r : Bool) (h : M_l_eqPiece x0 x1 = some r) :
  FC Tryz.prog 237 [.agg #[.slice a3 l5 c4], .agg #[.slice a7 l9 c8]] [⟨(.int .i64), ⟨a3, l5, c4⟩, x0⟩, ⟨(.int .i64), ⟨a7, l9, c8⟩, x1⟩] (fun _ : Unit => True) (fun _ => .bool r) (fun _ => []) :=
 by
  subst hl6
  subst hl10
  refine FC.of (T := TTx) Tryz.call237 Tryz.func237 E E fun w0 => ?_
  unfold M_l_eqPiece at h
  refine JS.rgB ttOk 3 [] [3, 4] [(2, .bp 3 0), (3, .bp 4 0)] (.new 3 174 [.slice a3 x0.length c4] (.new 4 174 [.slice a7 x1.length c8] .nil)) ⟨(Es E), (Bs E E)⟩ E E (JS.seq (JS.seq (JS.region (JO.reg ttOk 4 [] [] [(6, .v (.slice a3 x0.length c4)), (8, .v (.slice a7 x1.length c8))] _ E ⟨(Es E), E⟩ ?_))))
  obtain ⟨y11, hy12, h⟩ := bindO_some h
  refine JO.call E E E E (ok_l_eqIntS x0 x1 a3 c4 x0.length E a7 c8 x1.length E _ hy12) E [0, 1] E E fun _ _ => JO.reg ttOk 1 [] [] [(10, .v (.bool (!y11)))] _ E ⟨⟨E, V⟩, E⟩ (JO.done E ?_)
  refine JS.cond E (fun ht14 => ?_) (fun ht14 => ?_)
  ·
   have h := condT h ht14
   refine JS.rg0 ttOk 1 [(4, .v (.bool false))] ⟨⟨E, V⟩, E⟩ E E ?_
   cases h
   exact JS.ret ttOk () V E E [] E
  have h := condF h ht14
  refine JS.skip (JS.rg0 ttOk 1 [(4, .v (.bool true))] ⟨⟨E, V⟩, E⟩ E E ?_)
  cases h
  exact JS.ret ttOk () V E E [] E

def M_l_eqPieceS_L1 (x0 : List (List Int)) (x1 : List (List Int)) (j44 : Unit → Option Bool) (k34 : Int → Option Bool) : Int → Option Bool := fun x11 =>
  (bif (decide (x11 < (x0.length : Int))) then
  (guardO (0 ≤ x11 ∧ x11 < (x0.length : Int)) <|
  (guardO (0 ≤ x11 ∧ x11 < (x1.length : Int)) <|
  (bindO (M_l_eqPiece (at' x0 x11) (at' x1 x11)) fun (y26 : Bool) =>
  (bif (!y26) then
  some false
  else
  k34 (W (x11 + 1))))))
  else
  j44 ())

def M_l_eqPieceS (x0 : List (List Int)) (x1 : List (List Int)) : Option Bool :=
  (bif (!(decide ((x0.length : Int) = (x1.length : Int)))) then
  some false
  else
  (joinO (fun (_ : Unit) =>
  some true) fun j44 =>
  (fixF (M_l_eqPieceS_L1 x0 x1 j44) FUEL 0)))

theorem ok_l_eqPieceS (x0 : List (List Int)) (x1 : List (List Int)) (a3 : Option Addr) (c4 : Nat) (l5 : Nat) (hl6 : x0.length = l5) (a7 : Option Addr) (c8 : Nat) (l9 : Nat) (hl10 : x1.length = l9) (r : Bool) (h : M_l_eqPieceS x0 x1 = some r) :
  FC Tryz.prog 147 [.slice a3 l5 c4, .slice a7 l9 c8] [⟨(.sl (.int .i64)), ⟨a3, l5, c4⟩, x0⟩, ⟨(.sl (.int .i64)), ⟨a7, l9, c8⟩, x1⟩] (fun _ : Unit => True) (fun _ => .bool r) (fun _ => []) :=
 by
  subst hl6
  subst hl10
  refine FC.of (T := TTx) Tryz.call147 Tryz.func147 E E fun w0 => ?_
  unfold M_l_eqPieceS at h
  refine JS.rg0 ttOk 1 [] ⟨V, E⟩ E E (JS.seq (JS.rg0 ttOk 5 [(10, .v (.bool (!(decide ((x0.length : Int) = (x1.length : Int))))))] ⟨⟨E, V⟩, E⟩ E E ?_))
  refine JS.cond E (fun ht64 => ?_) (fun ht64 => ?_)
  ·
   have h := condT h ht64
   refine JS.rg0 ttOk 1 [(4, .v (.bool false))] ⟨⟨E, V⟩, E⟩ E E ?_
   cases h
   exact JS.ret ttOk () V E E [] E
  have h := condF h ht64
  refine JS.skip (JS.seq (JS.rg0 ttOk 1 [(5, .v (I 0))] ⟨⟨E, V⟩, E⟩ E E ?_))
  obtain ⟨j44, hj63, h⟩ := joinO_some h
  refine JS.blockJ (ι := Unit) ⟨fun _ => j44 () = some r, fun _ => [], fun _ => .nil, fun _ => [], fun _ => [], fun _ => 0⟩ ?_ ?_
  ·
   refine JS.loop (ι := Nat × Int) ⟨fun z => fixF (M_l_eqPieceS_L1 x0 x1 j44) z.1 z.2 = some r, fun z => [(0, .v (.slice a3 x0.length c4)), (1, .v (.slice a7 x1.length c8)), (5, .v (I z.2))], fun z => .nil, fun z => [⟨(.sl (.int .i64)), ⟨a3, x0.length, c4⟩, x0⟩, ⟨(.sl (.int .i64)), ⟨a7, x1.length, c8⟩, x1⟩], fun z => [], fun z => z.1⟩ (FUEL, 0) h (Es E) V [0, 1] E [] E ?_
   rintro ⟨n35, x11⟩ h
   obtain ⟨n35, rfl, h⟩ := fixF_some h
   rw [M_l_eqPieceS_L1] at h
   refine JS.seq (JS.rg0 ttOk 4 [(14, .v (.bool (decide (x11 < (x0.length : Int)))))] ⟨⟨E, V⟩, E⟩ E E ?_)
   refine JS.cond E (fun ht62 => ?_) (fun ht62 => ?_)
   ·
    have h := condT h ht62
    refine JS.skip (JS.seq (JS.block (JS.seq ?_)))
    obtain ⟨g13, h⟩ := guardO_some h
    obtain ⟨g20, h⟩ := guardO_some h
    obtain ⟨y26, hy27, h⟩ := bindO_some h
    refine JS.openR 0 E (Int.toNat x11) (at' x0 x11) E fun a14 c15 ys16 hl17 hy18 => JS.openR 3 E (Int.toNat x11) (at' x1 x11) E fun a21 c22 ys23 hl24 hy25 => JS.know 4 E fun hs59 => JS.know 5 E fun hs60 => JS.regionQ E (by kernel_rfl) (JQ.reg ttOk 3 [] [(19, .ep ⟨a3, x0.length, c4⟩ (Int.toNat x11 * 1))] E ⟨hs59.ix g13, ⟨E, V⟩⟩ (JQ.loadV ttOk E E E E E E 2 E E (Int.toNat x11) 0 (Sl.v ⟨a14, (at' x0 x11).length, c15⟩) ⟨hy18 (ltNat g13), E⟩ E E E (JQ.reg ttOk 3 [] [(23, .ep ⟨a7, x1.length, c8⟩ (Int.toNat x11 * 1))] E ⟨hs60.ix g20, ⟨E, V⟩⟩ (JQ.loadV ttOk E E E E E E 0 E E (Int.toNat x11) 0 (Sl.v ⟨a21, (at' x1 x11).length, c22⟩) ⟨hy25 (ltNat g20), E⟩ E E E (JQ.call E E E E (ok_l_eqPiece (at' x0 x11) (at' x1 x11) a14 c15 ((at' x0 x11).length) E a21 c22 ((at' x1 x11).length) E _ hy27) E [3, 1] E E (JQ.reg ttOk 1 [] [(26, .v (.bool (!y26)))] E ⟨E, V⟩ (JQ.done E ?_)))))))
    refine JS.cond E (fun ht61 => ?_) (fun ht61 => ?_)
    ·
     have h := condT h ht61
     refine JS.rg0 ttOk 1 [(4, .v (.bool false))] ⟨⟨E, V⟩, E⟩ E E ?_
     cases h
     exact JS.ret ttOk () V E E [] E
    have h := condF h ht61
    refine JS.skip (JS.endB (JS.re ttOk 3 [(W (x11 + 1))] [] [(5, .v (I (W (x11 + 1))))] _ ⟨⟨V, E⟩, ⟨E, V⟩, E⟩ E E (JS.endL (n35, (W (x11 + 1))) h (Nat.lt_succ_self _) (Es E) V [4, 5] E [] E)))
   have h := condF h ht62
   refine JS.exit E (JS.endJ () h V V [] E [] E)
  rintro _ h
  subst hj63
  refine JS.rg0 ttOk 1 [(4, .v (.bool true))] ⟨⟨E, V⟩, E⟩ E E ?_
  cases h
  exact JS.ret ttOk () V E E [] E

def M_l_eqRing (x0 : List (List Int)) (x1 : List (List Int)) : Option Bool :=
  (bindO (M_l_eqPieceS x0 x1) fun (y11 : Bool) =>
  (bif (!y11) then
  some false
  else
  some true))

theorem ok_l_eqRing (x0 : List (List Int)) (x1 : List (List Int)) (a3 : Option Addr) (c4 : Nat) (l5 : Nat) (hl6 : x0.length = l5) (a7 : Option Addr) (c8 : Nat) (l9 : Nat) (hl10 : x1.length = l9) (r : Bool) (h : M_l_eqRing x0 x1 = some r) :
  FC Tryz.prog 67 [.agg #[.slice a3 l5 c4], .agg #[.slice a7 l9 c8]] [⟨(.sl (.int .i64)), ⟨a3, l5, c4⟩, x0⟩, ⟨(.sl (.int .i64)), ⟨a7, l9, c8⟩, x1⟩] (fun _ : Unit => True) (fun _ => .bool r) (fun _ => []) :=
 by
  subst hl6
  subst hl10
  refine FC.of (T := TTx) Tryz.call67 Tryz.func67 E E fun w0 => ?_
  unfold M_l_eqRing at h
  refine JS.rgB ttOk 3 [] [3, 4] [(2, .bp 3 0), (3, .bp 4 0)] (.new 3 41 [.slice a3 x0.length c4] (.new 4 41 [.slice a7 x1.length c8] .nil)) ⟨(Es E), (Bs E E)⟩ E E (JS.seq (JS.seq (JS.region (JO.reg ttOk 4 [] [] [(6, .v (.slice a3 x0.length c4)), (8, .v (.slice a7 x1.length c8))] _ E ⟨(Es E), E⟩ ?_))))
  obtain ⟨y11, hy12, h⟩ := bindO_some h
  refine JO.call E E E E (ok_l_eqPieceS x0 x1 a3 c4 x0.length E a7 c8 x1.length E _ hy12) E [0, 1] E E fun _ _ => JO.reg ttOk 1 [] [] [(10, .v (.bool (!y11)))] _ E ⟨⟨E, V⟩, E⟩ (JO.done E ?_)
  refine JS.cond E (fun ht14 => ?_) (fun ht14 => ?_)
  ·
   have h := condT h ht14
   refine JS.rg0 ttOk 1 [(4, .v (.bool false))] ⟨⟨E, V⟩, E⟩ E E ?_
   cases h
   exact JS.ret ttOk () V E E [] E
  have h := condF h ht14
  refine JS.skip (JS.rg0 ttOk 1 [(4, .v (.bool true))] ⟨⟨E, V⟩, E⟩ E E ?_)
  cases h
  exact JS.ret ttOk () V E E [] E

def M_l_eqLineS_L1 (x0 : List (List Int × Int)) (x1 : List (List Int × Int)) (j44 : Unit → Option Bool) (k34 : Int → Option Bool) : Int → Option Bool := fun x11 =>
  (bif (decide (x11 < (x0.length : Int))) then
  (guardO (0 ≤ x11 ∧ x11 < (x0.length : Int)) <|
  (guardO (0 ≤ x11 ∧ x11 < (x1.length : Int)) <|
  (bindO (M_l_eqLine ((at' x0 x11).1, (at' x0 x11).2) ((at' x1 x11).1, (at' x1 x11).2)) fun (y26 : Bool) =>
  (bif (!y26) then
  some false
  else
  k34 (W (x11 + 1))))))
  else
  j44 ())

def M_l_eqLineS (x0 : List (List Int × Int)) (x1 : List (List Int × Int)) : Option Bool :=
  (bif (!(decide ((x0.length : Int) = (x1.length : Int)))) then
  some false
  else
  (joinO (fun (_ : Unit) =>
  some true) fun j44 =>
  (fixF (M_l_eqLineS_L1 x0 x1 j44) FUEL 0)))

theorem ok_l_eqLineS (x0 : List (List Int × Int)) (x1 : List (List Int × Int)) (a3 : Option Addr) (c4 : Nat) (l5 : Nat) (hl6 : x0.length = l5) (a7 : Option Addr) (c8 : Nat) (l9 : Nat) (hl10 : x1.length = l9) (r : Bool) (h : M_l_eqLineS x0 x1 = some r) :
  FC Tryz.prog 148 [.slice a3 l5 c4, .slice a7 l9 c8] [⟨(.pair (.sl (.int .i64)) (.int .i64)), ⟨a3, l5, c4⟩, x0⟩, ⟨(.pair (.sl (.int .i64)) (.int .i64)), ⟨a7, l9, c8⟩, x1⟩] (fun _ : Unit => True) (fun _ => .bool r) (fun _ => []) :=
 by
  subst hl6
  subst hl10
  refine FC.of (T := TTx) Tryz.call148 Tryz.func148 E E fun w0 => ?_
  unfold M_l_eqLineS at h
  refine JS.rg0 ttOk 1 [] ⟨V, E⟩ E E (JS.seq (JS.rg0 ttOk 5 [(10, .v (.bool (!(decide ((x0.length : Int) = (x1.length : Int))))))] ⟨⟨E, V⟩, E⟩ E E ?_))
  refine JS.cond E (fun ht64 => ?_) (fun ht64 => ?_)
  ·
   have h := condT h ht64
   refine JS.rg0 ttOk 1 [(4, .v (.bool false))] ⟨⟨E, V⟩, E⟩ E E ?_
   cases h
   exact JS.ret ttOk () V E E [] E
  have h := condF h ht64
  refine JS.skip (JS.seq (JS.rg0 ttOk 1 [(5, .v (I 0))] ⟨⟨E, V⟩, E⟩ E E ?_))
  obtain ⟨j44, hj63, h⟩ := joinO_some h
  refine JS.blockJ (ι := Unit) ⟨fun _ => j44 () = some r, fun _ => [], fun _ => .nil, fun _ => [], fun _ => [], fun _ => 0⟩ ?_ ?_
  ·
   refine JS.loop (ι := Nat × Int) ⟨fun z => fixF (M_l_eqLineS_L1 x0 x1 j44) z.1 z.2 = some r, fun z => [(0, .v (.slice a3 x0.length c4)), (1, .v (.slice a7 x1.length c8)), (5, .v (I z.2))], fun z => .nil, fun z => [⟨(.pair (.sl (.int .i64)) (.int .i64)), ⟨a3, x0.length, c4⟩, x0⟩, ⟨(.pair (.sl (.int .i64)) (.int .i64)), ⟨a7, x1.length, c8⟩, x1⟩], fun z => [], fun z => z.1⟩ (FUEL, 0) h (Es E) V [0, 1] E [] E ?_
   rintro ⟨n35, x11⟩ h
   obtain ⟨n35, rfl, h⟩ := fixF_some h
   rw [M_l_eqLineS_L1] at h
   refine JS.seq (JS.rg0 ttOk 4 [(14, .v (.bool (decide (x11 < (x0.length : Int)))))] ⟨⟨E, V⟩, E⟩ E E ?_)
   refine JS.cond E (fun ht62 => ?_) (fun ht62 => ?_)
   ·
    have h := condT h ht62
    refine JS.skip (JS.seq (JS.block (JS.seq ?_)))
    obtain ⟨g13, h⟩ := guardO_some h
    obtain ⟨g20, h⟩ := guardO_some h
    obtain ⟨y26, hy27, h⟩ := bindO_some h
    refine JS.openR 0 E (Int.toNat x11) (at' x0 x11) E fun a14 c15 ys16 hl17 hy18 => JS.openR 3 E (Int.toNat x11) (at' x1 x11) E fun a21 c22 ys23 hl24 hy25 => JS.know 4 E fun hs59 => JS.know 5 E fun hs60 => JS.regionQ E (by kernel_rfl) (JQ.reg ttOk 3 [] [(19, .ep ⟨a3, x0.length, c4⟩ (Int.toNat x11 * 2))] E ⟨hs59.ix g13, ⟨E, V⟩⟩ (JQ.loadV ttOk E E E E E E 2 E E (Int.toNat x11) 0 ((Sl.v ⟨a14, ((at' x0 x11).1).length, c15⟩), (at' x0 x11).2) ⟨hy18 (ltNat g13), E⟩ E E E (JQ.reg ttOk 3 [] [(23, .ep ⟨a7, x1.length, c8⟩ (Int.toNat x11 * 2))] E ⟨hs60.ix g20, ⟨E, V⟩⟩ (JQ.loadV ttOk E E E E E E 0 E E (Int.toNat x11) 0 ((Sl.v ⟨a21, ((at' x1 x11).1).length, c22⟩), (at' x1 x11).2) ⟨hy25 (ltNat g20), E⟩ E E E (JQ.call E E E E (ok_l_eqLine ((at' x0 x11).1, (at' x0 x11).2) ((at' x1 x11).1, (at' x1 x11).2) a14 c15 (((at' x0 x11).1).length) E a21 c22 (((at' x1 x11).1).length) E _ hy27) E [3, 1] E E (JQ.reg ttOk 1 [] [(26, .v (.bool (!y26)))] E ⟨E, V⟩ (JQ.done E ?_)))))))
    refine JS.cond E (fun ht61 => ?_) (fun ht61 => ?_)
    ·
     have h := condT h ht61
     refine JS.rg0 ttOk 1 [(4, .v (.bool false))] ⟨⟨E, V⟩, E⟩ E E ?_
     cases h
     exact JS.ret ttOk () V E E [] E
    have h := condF h ht61
    refine JS.skip (JS.endB (JS.re ttOk 3 [(W (x11 + 1))] [] [(5, .v (I (W (x11 + 1))))] _ ⟨⟨V, E⟩, ⟨E, V⟩, E⟩ E E (JS.endL (n35, (W (x11 + 1))) h (Nat.lt_succ_self _) (Es E) V [4, 5] E [] E)))
   have h := condF h ht62
   refine JS.exit E (JS.endJ () h V V [] E [] E)
  rintro _ h
  subst hj63
  refine JS.rg0 ttOk 1 [(4, .v (.bool true))] ⟨⟨E, V⟩, E⟩ E E ?_
  cases h
  exact JS.ret ttOk () V E E [] E

def M_l_eqUndo (x0 : List (List Int × Int)) (x1 : List (List Int × Int)) : Option Bool :=
  (bindO (M_l_eqLineS x0 x1) fun (y11 : Bool) =>
  (bif (!y11) then
  some false
  else
  some true))

theorem ok_l_eqUndo (x0 : List (List Int × Int)) (x1 : List (List Int × Int)) (a3 : Option Addr) (c4 : Nat) (l5 : Nat) (hl6 : x0.length = l5) (a7 : Option Addr) (c8 : Nat) (l9 : Nat) (hl10 : x1.length = l9) (r : Bool) (h : M_l_eqUndo x0 x1 = some r) :
  FC Tryz.prog 68 [.agg #[.slice a3 l5 c4], .agg #[.slice a7 l9 c8]] [⟨(.pair (.sl (.int .i64)) (.int .i64)), ⟨a3, l5, c4⟩, x0⟩, ⟨(.pair (.sl (.int .i64)) (.int .i64)), ⟨a7, l9, c8⟩, x1⟩] (fun _ : Unit => True) (fun _ => .bool r) (fun _ => []) :=
 by
  subst hl6
  subst hl10
  refine FC.of (T := TTx) Tryz.call68 Tryz.func68 E E fun w0 => ?_
  unfold M_l_eqUndo at h
  refine JS.rgB ttOk 3 [] [3, 4] [(2, .bp 3 0), (3, .bp 4 0)] (.new 3 44 [.slice a3 x0.length c4] (.new 4 44 [.slice a7 x1.length c8] .nil)) ⟨(Es E), (Bs E E)⟩ E E (JS.seq (JS.seq (JS.region (JO.reg ttOk 4 [] [] [(6, .v (.slice a3 x0.length c4)), (8, .v (.slice a7 x1.length c8))] _ E ⟨(Es E), E⟩ ?_))))
  obtain ⟨y11, hy12, h⟩ := bindO_some h
  refine JO.call E E E E (ok_l_eqLineS x0 x1 a3 c4 x0.length E a7 c8 x1.length E _ hy12) E [0, 1] E E fun _ _ => JO.reg ttOk 1 [] [] [(10, .v (.bool (!y11)))] _ E ⟨⟨E, V⟩, E⟩ (JO.done E ?_)
  refine JS.cond E (fun ht14 => ?_) (fun ht14 => ?_)
  ·
   have h := condT h ht14
   refine JS.rg0 ttOk 1 [(4, .v (.bool false))] ⟨⟨E, V⟩, E⟩ E E ?_
   cases h
   exact JS.ret ttOk () V E E [] E
  have h := condF h ht14
  refine JS.skip (JS.rg0 ttOk 1 [(4, .v (.bool true))] ⟨⟨E, V⟩, E⟩ E E ?_)
  cases h
  exact JS.ret ttOk () V E E [] E

def M_l_eqEd (x0 : EdQ) (x1 : EdQ) : Option Bool :=
  (bif (!(x0.1 == x1.1)) then
  some false
  else
  (bif (!(decide (x0.2.1 = x1.2.1))) then
  some false
  else
  (bindO (M_l_eqLine x0.2.2.1 x1.2.2.1) fun (y51 : Bool) =>
  (bif (!y51) then
  some false
  else
  (bif (!(decide (x0.2.2.2.1 = x1.2.2.2.1))) then
  some false
  else
  (bif (!(decide (x0.2.2.2.2.1 = x1.2.2.2.2.1))) then
  some false
  else
  (bif (!(decide (x0.2.2.2.2.2.1 = x1.2.2.2.2.2.1))) then
  some false
  else
  (bif (!(decide (x0.2.2.2.2.2.2.1 = x1.2.2.2.2.2.2.1))) then
  some false
  else
  (bif (!(decide (x0.2.2.2.2.2.2.2.1 = x1.2.2.2.2.2.2.2.1))) then
  some false
  else
  (bif (!(decide (x0.2.2.2.2.2.2.2.2.1 = x1.2.2.2.2.2.2.2.2.1))) then
  some false
  else
  (bif (!(decide (x0.2.2.2.2.2.2.2.2.2.1 = x1.2.2.2.2.2.2.2.2.2.1))) then
  some false
  else
  (bindO (M_l_eqRing x0.2.2.2.2.2.2.2.2.2.2.1 x1.2.2.2.2.2.2.2.2.2.2.1) fun (y53 : Bool) =>
  (bif (!y53) then
  some false
  else
  (bindO (M_l_eqUndo x0.2.2.2.2.2.2.2.2.2.2.2.1 x1.2.2.2.2.2.2.2.2.2.2.2.1) fun (y55 : Bool) =>
  (bif (!y55) then
  some false
  else
  (bif (!(decide (x0.2.2.2.2.2.2.2.2.2.2.2.2.1 = x1.2.2.2.2.2.2.2.2.2.2.2.2.1))) then
  some false
  else
  (bindO (M_l_eqLine x0.2.2.2.2.2.2.2.2.2.2.2.2.2.1 x1.2.2.2.2.2.2.2.2.2.2.2.2.2.1) fun (y57 : Bool) =>
  (bif (!y57) then
  some false
  else
  (bindO (M_l_eqIntS x0.2.2.2.2.2.2.2.2.2.2.2.2.2.2.1 x1.2.2.2.2.2.2.2.2.2.2.2.2.2.2.1) fun (y59 : Bool) =>
  (bif (!y59) then
  some false
  else
  (bif (!(decide (x0.2.2.2.2.2.2.2.2.2.2.2.2.2.2.2.1 = x1.2.2.2.2.2.2.2.2.2.2.2.2.2.2.2.1))) then
  some false
  else
  (bindO (M_l_eqLine x0.2.2.2.2.2.2.2.2.2.2.2.2.2.2.2.2 x1.2.2.2.2.2.2.2.2.2.2.2.2.2.2.2.2) fun (y61 : Bool) =>
  (bif (!y61) then
  some false
  else
  some true)))))))))))))))))))))))

theorem ok_l_eqEd (x0 : EdQ) (x1 : EdQ) (a3 : Option Addr) (c4 : Nat) (l5 : Nat) (hl6 : x0.2.2.1.1.length = l5) (a7 : Option Addr) (c8 : Nat) (l9 : Nat) (hl10 : (Q8 x0).2.2.1.length = l9) (a11 : Option Addr) (c12 : Nat) (l13 : Nat) (hl14 : (Q8 x0).2.2.2.1.length = l13) (a15 : Option Addr) (c16 : Nat) (l17 : Nat) (hl18 : (Q12 x0).2.1.1.length = l17) (a19 : Option Addr) (c20 : Nat) (l21 : Nat) (hl22 : (Q12 x0).2.2.1.length = l21) (a23 : Option Addr) (c24 : Nat) (l25 : Nat) (hl26 : (Q16 x0).1.length = l25) (a27 : Option Addr) (c28 : Nat) (l29 : Nat) (hl30 : x1.2.2.1.1.length = l29) (a31 : Option Addr) (c32 : Nat) (l33 : Nat) (hl34 : (Q8 x1).2.2.1.length = l33) (a35 : Option Addr) (c36 : Nat) (l37 : Nat) (hl38 : (Q8 x1).2.2.2.1.length = l37) (a39 : Option Addr) (c40 : Nat) (l41 : Nat) (hl42 : (Q12 x1).2.1.1.length = l41) (a43 : Option Addr) (c44 : Nat) (l45 : Nat) (hl46 : (Q12 x1).2.2.1.length = l45) (a47 : Option Addr) (c48 : Nat) (l49 : Nat) (hl50 : (Q16 x1).1.length = l49) (r : Bool) (h : M_l_eqEd x0 x1 = some r) :
  FC Tryz.prog 17 [.agg #[.bool x0.1, .int .i64 x0.2.1, .slice a3 l5 c4, .int .i64 x0.2.2.1.2, .int .i64 x0.2.2.2.1, .int .i64 (Q4 x0).1, .int .i64 (Q4 x0).2.1, .int .i64 (Q4 x0).2.2.1, .int .i64 (Q4 x0).2.2.2.1, .int .i64 (Q8 x0).1, .int .i64 (Q8 x0).2.1, .slice a7 l9 c8, .slice a11 l13 c12, .int .i64 (Q12 x0).1, .slice a15 l17 c16, .int .i64 (Q12 x0).2.1.2, .slice a19 l21 c20, .int .i64 (Q12 x0).2.2.2.1, .slice a23 l25 c24, .int .i64 (Q16 x0).2], .agg #[.bool x1.1, .int .i64 x1.2.1, .slice a27 l29 c28, .int .i64 x1.2.2.1.2, .int .i64 x1.2.2.2.1, .int .i64 (Q4 x1).1, .int .i64 (Q4 x1).2.1, .int .i64 (Q4 x1).2.2.1, .int .i64 (Q4 x1).2.2.2.1, .int .i64 (Q8 x1).1, .int .i64 (Q8 x1).2.1, .slice a31 l33 c32, .slice a35 l37 c36, .int .i64 (Q12 x1).1, .slice a39 l41 c40, .int .i64 (Q12 x1).2.1.2, .slice a43 l45 c44, .int .i64 (Q12 x1).2.2.2.1, .slice a47 l49 c48, .int .i64 (Q16 x1).2]] [⟨(.int .i64), ⟨a3, l5, c4⟩, x0.2.2.1.1⟩, ⟨(.sl (.int .i64)), ⟨a7, l9, c8⟩, (Q8 x0).2.2.1⟩, ⟨(.pair (.sl (.int .i64)) (.int .i64)), ⟨a11, l13, c12⟩, (Q8 x0).2.2.2.1⟩, ⟨(.int .i64), ⟨a15, l17, c16⟩, (Q12 x0).2.1.1⟩, ⟨(.int .i64), ⟨a19, l21, c20⟩, (Q12 x0).2.2.1⟩, ⟨(.int .i64), ⟨a23, l25, c24⟩, (Q16 x0).1⟩, ⟨(.int .i64), ⟨a27, l29, c28⟩, x1.2.2.1.1⟩, ⟨(.sl (.int .i64)), ⟨a31, l33, c32⟩, (Q8 x1).2.2.1⟩, ⟨(.pair (.sl (.int .i64)) (.int .i64)), ⟨a35, l37, c36⟩, (Q8 x1).2.2.2.1⟩, ⟨(.int .i64), ⟨a39, l41, c40⟩, (Q12 x1).2.1.1⟩, ⟨(.int .i64), ⟨a43, l45, c44⟩, (Q12 x1).2.2.1⟩, ⟨(.int .i64), ⟨a47, l49, c48⟩, (Q16 x1).1⟩] (fun _ : Unit => True) (fun _ => .bool r) (fun _ => []) :=
 by
  subst hl6
  subst hl10
  subst hl14
  subst hl18
  subst hl22
  subst hl26
  subst hl30
  subst hl34
  subst hl38
  subst hl42
  subst hl46
  subst hl50
  refine FC.of (T := TTx) Tryz.call17 Tryz.func17 E E fun w0 => ?_
  unfold M_l_eqEd at h
  refine JS.rgB ttOk 3 [] [13, 14] [(2, .bp 13 0), (3, .bp 14 0)] (.new 13 46 (cl46 x0 a3 c4 a7 c8 a11 c12 a15 c16 a19 c20 a23 c24) (.new 14 46 (cl46 x1 a27 c28 a31 c32 a35 c36 a39 c40 a43 c44 a47 c48) .nil)) ⟨(Es E), (Bs E E)⟩ E E (JS.seq (JS.rg0 ttOk 5 [(9, .v (.bool (!(x0.1 == x1.1))))] ⟨⟨E, V⟩, E⟩ E E ?_))
  refine JS.cond E (fun ht96 => ?_) (fun ht96 => ?_)
  ·
   have h := condT h ht96
   refine JS.rg0 ttOk 1 [(4, .v (.bool false))] ⟨⟨E, V⟩, E⟩ E E ?_
   cases h
   exact JS.ret ttOk () V E E [] E
  have h := condF h ht96
  refine JS.skip (JS.seq (JS.rg0 ttOk 5 [(14, .v (.bool (!(decide (x0.2.1 = x1.2.1)))))] ⟨⟨E, V⟩, E⟩ E E ?_))
  refine JS.cond E (fun ht95 => ?_) (fun ht95 => ?_)
  ·
   have h := condT h ht95
   refine JS.rg0 ttOk 1 [(4, .v (.bool false))] ⟨⟨E, V⟩, E⟩ E E ?_
   cases h
   exact JS.ret ttOk () V E E [] E
  have h := condF h ht95
  refine JS.skip (JS.seq (JS.seq (JS.region (JO.reg ttOk 4 [] [] [(16, .v (.agg #[.slice a3 x0.2.2.1.1.length c4, .int .i64 x0.2.2.1.2])), (18, .v (.agg #[.slice a27 x1.2.2.1.1.length c28, .int .i64 x1.2.2.1.2]))] _ E ⟨(Es E), E⟩ ?_))))
  obtain ⟨y51, hy52, h⟩ := bindO_some h
  refine JO.call E E E E (ok_l_eqLine x0.2.2.1 x1.2.2.1 a3 c4 x0.2.2.1.1.length E a27 c28 x1.2.2.1.1.length E _ hy52) E [0, 6] E E fun _ _ => JO.reg ttOk 1 [] [] [(20, .v (.bool (!y51)))] _ E ⟨⟨E, V⟩, E⟩ (JO.done E ?_)
  refine JS.cond E (fun ht94 => ?_) (fun ht94 => ?_)
  ·
   have h := condT h ht94
   refine JS.rg0 ttOk 1 [(4, .v (.bool false))] ⟨⟨E, V⟩, E⟩ E E ?_
   cases h
   exact JS.ret ttOk () V E E [] E
  have h := condF h ht94
  refine JS.skip (JS.seq (JS.rg0 ttOk 5 [(25, .v (.bool (!(decide (x0.2.2.2.1 = x1.2.2.2.1)))))] ⟨⟨E, V⟩, E⟩ E E ?_))
  refine JS.cond E (fun ht93 => ?_) (fun ht93 => ?_)
  ·
   have h := condT h ht93
   refine JS.rg0 ttOk 1 [(4, .v (.bool false))] ⟨⟨E, V⟩, E⟩ E E ?_
   cases h
   exact JS.ret ttOk () V E E [] E
  have h := condF h ht93
  refine JS.skip (JS.seq (JS.rg0 ttOk 5 [(30, .v (.bool (!(decide ((Q4 x0).1 = (Q4 x1).1)))))] ⟨⟨E, V⟩, E⟩ E E ?_))
  refine JS.cond E (fun ht92 => ?_) (fun ht92 => ?_)
  ·
   have h := condT h ht92
   refine JS.rg0 ttOk 1 [(4, .v (.bool false))] ⟨⟨E, V⟩, E⟩ E E ?_
   cases h
   exact JS.ret ttOk () V E E [] E
  have h := condF h ht92
  refine JS.skip (JS.seq (JS.rg0 ttOk 5 [(35, .v (.bool (!(decide ((Q4 x0).2.1 = (Q4 x1).2.1)))))] ⟨⟨E, V⟩, E⟩ E E ?_))
  refine JS.cond E (fun ht91 => ?_) (fun ht91 => ?_)
  ·
   have h := condT h ht91
   refine JS.rg0 ttOk 1 [(4, .v (.bool false))] ⟨⟨E, V⟩, E⟩ E E ?_
   cases h
   exact JS.ret ttOk () V E E [] E
  have h := condF h ht91
  refine JS.skip (JS.seq (JS.rg0 ttOk 5 [(40, .v (.bool (!(decide ((Q4 x0).2.2.1 = (Q4 x1).2.2.1)))))] ⟨⟨E, V⟩, E⟩ E E ?_))
  refine JS.cond E (fun ht90 => ?_) (fun ht90 => ?_)
  ·
   have h := condT h ht90
   refine JS.rg0 ttOk 1 [(4, .v (.bool false))] ⟨⟨E, V⟩, E⟩ E E ?_
   cases h
   exact JS.ret ttOk () V E E [] E
  have h := condF h ht90
  refine JS.skip (JS.seq (JS.rg0 ttOk 5 [(45, .v (.bool (!(decide ((Q4 x0).2.2.2.1 = (Q4 x1).2.2.2.1)))))] ⟨⟨E, V⟩, E⟩ E E ?_))
  refine JS.cond E (fun ht89 => ?_) (fun ht89 => ?_)
  ·
   have h := condT h ht89
   refine JS.rg0 ttOk 1 [(4, .v (.bool false))] ⟨⟨E, V⟩, E⟩ E E ?_
   cases h
   exact JS.ret ttOk () V E E [] E
  have h := condF h ht89
  refine JS.skip (JS.seq (JS.rg0 ttOk 5 [(50, .v (.bool (!(decide ((Q8 x0).1 = (Q8 x1).1)))))] ⟨⟨E, V⟩, E⟩ E E ?_))
  refine JS.cond E (fun ht88 => ?_) (fun ht88 => ?_)
  ·
   have h := condT h ht88
   refine JS.rg0 ttOk 1 [(4, .v (.bool false))] ⟨⟨E, V⟩, E⟩ E E ?_
   cases h
   exact JS.ret ttOk () V E E [] E
  have h := condF h ht88
  refine JS.skip (JS.seq (JS.rg0 ttOk 5 [(55, .v (.bool (!(decide ((Q8 x0).2.1 = (Q8 x1).2.1)))))] ⟨⟨E, V⟩, E⟩ E E ?_))
  refine JS.cond E (fun ht87 => ?_) (fun ht87 => ?_)
  ·
   have h := condT h ht87
   refine JS.rg0 ttOk 1 [(4, .v (.bool false))] ⟨⟨E, V⟩, E⟩ E E ?_
   cases h
   exact JS.ret ttOk () V E E [] E
  have h := condF h ht87
  refine JS.skip (JS.seq (JS.seq (JS.region (JO.reg ttOk 4 [] [] [(57, .v (.agg #[.slice a7 (Q8 x0).2.2.1.length c8])), (59, .v (.agg #[.slice a31 (Q8 x1).2.2.1.length c32]))] _ E ⟨(Es E), E⟩ ?_))))
  obtain ⟨y53, hy54, h⟩ := bindO_some h
  refine JO.call E E E E (ok_l_eqRing (Q8 x0).2.2.1 (Q8 x1).2.2.1 a7 c8 (Q8 x0).2.2.1.length E a31 c32 (Q8 x1).2.2.1.length E _ hy54) E [1, 7] E E fun _ _ => JO.reg ttOk 1 [] [] [(61, .v (.bool (!y53)))] _ E ⟨⟨E, V⟩, E⟩ (JO.done E ?_)
  refine JS.cond E (fun ht86 => ?_) (fun ht86 => ?_)
  ·
   have h := condT h ht86
   refine JS.rg0 ttOk 1 [(4, .v (.bool false))] ⟨⟨E, V⟩, E⟩ E E ?_
   cases h
   exact JS.ret ttOk () V E E [] E
  have h := condF h ht86
  refine JS.skip (JS.seq (JS.seq (JS.region (JO.reg ttOk 4 [] [] [(63, .v (.agg #[.slice a11 (Q8 x0).2.2.2.1.length c12])), (65, .v (.agg #[.slice a35 (Q8 x1).2.2.2.1.length c36]))] _ E ⟨(Es E), E⟩ ?_))))
  obtain ⟨y55, hy56, h⟩ := bindO_some h
  refine JO.call E E E E (ok_l_eqUndo (Q8 x0).2.2.2.1 (Q8 x1).2.2.2.1 a11 c12 (Q8 x0).2.2.2.1.length E a35 c36 (Q8 x1).2.2.2.1.length E _ hy56) E [2, 8] E E fun _ _ => JO.reg ttOk 1 [] [] [(67, .v (.bool (!y55)))] _ E ⟨⟨E, V⟩, E⟩ (JO.done E ?_)
  refine JS.cond E (fun ht85 => ?_) (fun ht85 => ?_)
  ·
   have h := condT h ht85
   refine JS.rg0 ttOk 1 [(4, .v (.bool false))] ⟨⟨E, V⟩, E⟩ E E ?_
   cases h
   exact JS.ret ttOk () V E E [] E
  have h := condF h ht85
  refine JS.skip (JS.seq (JS.rg0 ttOk 5 [(72, .v (.bool (!(decide ((Q12 x0).1 = (Q12 x1).1)))))] ⟨⟨E, V⟩, E⟩ E E ?_))
  refine JS.cond E (fun ht84 => ?_) (fun ht84 => ?_)
  ·
   have h := condT h ht84
   refine JS.rg0 ttOk 1 [(4, .v (.bool false))] ⟨⟨E, V⟩, E⟩ E E ?_
   cases h
   exact JS.ret ttOk () V E E [] E
  have h := condF h ht84
  refine JS.skip (JS.seq (JS.seq (JS.region (JO.reg ttOk 4 [] [] [(74, .v (.agg #[.slice a15 (Q12 x0).2.1.1.length c16, .int .i64 (Q12 x0).2.1.2])), (76, .v (.agg #[.slice a39 (Q12 x1).2.1.1.length c40, .int .i64 (Q12 x1).2.1.2]))] _ E ⟨(Es E), E⟩ ?_))))
  obtain ⟨y57, hy58, h⟩ := bindO_some h
  refine JO.call E E E E (ok_l_eqLine (Q12 x0).2.1 (Q12 x1).2.1 a15 c16 (Q12 x0).2.1.1.length E a39 c40 (Q12 x1).2.1.1.length E _ hy58) E [3, 9] E E fun _ _ => JO.reg ttOk 1 [] [] [(78, .v (.bool (!y57)))] _ E ⟨⟨E, V⟩, E⟩ (JO.done E ?_)
  refine JS.cond E (fun ht83 => ?_) (fun ht83 => ?_)
  ·
   have h := condT h ht83
   refine JS.rg0 ttOk 1 [(4, .v (.bool false))] ⟨⟨E, V⟩, E⟩ E E ?_
   cases h
   exact JS.ret ttOk () V E E [] E
  have h := condF h ht83
  refine JS.skip (JS.seq (JS.seq (JS.region (JO.reg ttOk 4 [] [] [(80, .v (.slice a19 (Q12 x0).2.2.1.length c20)), (82, .v (.slice a43 (Q12 x1).2.2.1.length c44))] _ E ⟨(Es E), E⟩ ?_))))
  obtain ⟨y59, hy60, h⟩ := bindO_some h
  refine JO.call E E E E (ok_l_eqIntS (Q12 x0).2.2.1 (Q12 x1).2.2.1 a19 c20 (Q12 x0).2.2.1.length E a43 c44 (Q12 x1).2.2.1.length E _ hy60) E [4, 10] E E fun _ _ => JO.reg ttOk 1 [] [] [(84, .v (.bool (!y59)))] _ E ⟨⟨E, V⟩, E⟩ (JO.done E ?_)
  refine JS.cond E (fun ht82 => ?_) (fun ht82 => ?_)
  ·
   have h := condT h ht82
   refine JS.rg0 ttOk 1 [(4, .v (.bool false))] ⟨⟨E, V⟩, E⟩ E E ?_
   cases h
   exact JS.ret ttOk () V E E [] E
  have h := condF h ht82
  refine JS.skip (JS.seq (JS.rg0 ttOk 5 [(89, .v (.bool (!(decide ((Q12 x0).2.2.2.1 = (Q12 x1).2.2.2.1)))))] ⟨⟨E, V⟩, E⟩ E E ?_))
  refine JS.cond E (fun ht81 => ?_) (fun ht81 => ?_)
  ·
   have h := condT h ht81
   refine JS.rg0 ttOk 1 [(4, .v (.bool false))] ⟨⟨E, V⟩, E⟩ E E ?_
   cases h
   exact JS.ret ttOk () V E E [] E
  have h := condF h ht81
  refine JS.skip (JS.seq (JS.seq (JS.region (JO.reg ttOk 4 [] [] [(91, .v (.agg #[.slice a23 (Q16 x0).1.length c24, .int .i64 (Q16 x0).2])), (93, .v (.agg #[.slice a47 (Q16 x1).1.length c48, .int .i64 (Q16 x1).2]))] _ E ⟨(Es E), E⟩ ?_))))
  obtain ⟨y61, hy62, h⟩ := bindO_some h
  refine JO.call E E E E (ok_l_eqLine (Q16 x0) (Q16 x1) a23 c24 (Q16 x0).1.length E a47 c48 (Q16 x1).1.length E _ hy62) E [5, 11] E E fun _ _ => JO.reg ttOk 1 [] [] [(95, .v (.bool (!y61)))] _ E ⟨⟨E, V⟩, E⟩ (JO.done E ?_)
  refine JS.cond E (fun ht80 => ?_) (fun ht80 => ?_)
  ·
   have h := condT h ht80
   refine JS.rg0 ttOk 1 [(4, .v (.bool false))] ⟨⟨E, V⟩, E⟩ E E ?_
   cases h
   exact JS.ret ttOk () V E E [] E
  have h := condF h ht80
  refine JS.skip (JS.rg0 ttOk 1 [(4, .v (.bool true))] ⟨⟨E, V⟩, E⟩ E E ?_)
  cases h
  exact JS.ret ttOk () V E E [] E

def M_l_eqStringS_L1 (x0 : List (List UInt8)) (x1 : List (List UInt8)) (j28 : Unit → Option Bool) (k20 : Int → Option Bool) : Int → Option Bool := fun x11 =>
  (bif (decide (x11 < (x0.length : Int))) then
  (guardO (0 ≤ x11 ∧ x11 < (x0.length : Int)) <|
  (guardO (0 ≤ x11 ∧ x11 < (x1.length : Int)) <|
  (bif (!(decide ((at' x0 x11) = (at' x1 x11)))) then
  some false
  else
  k20 (W (x11 + 1)))))
  else
  j28 ())

def M_l_eqStringS (x0 : List (List UInt8)) (x1 : List (List UInt8)) : Option Bool :=
  (bif (!(decide ((x0.length : Int) = (x1.length : Int)))) then
  some false
  else
  (joinO (fun (_ : Unit) =>
  some true) fun j28 =>
  (fixF (M_l_eqStringS_L1 x0 x1 j28) FUEL 0)))

theorem ok_l_eqStringS (x0 : List (List UInt8)) (x1 : List (List UInt8)) (a3 : Option Addr) (c4 : Nat) (l5 : Nat) (hl6 : x0.length = l5) (a7 : Option Addr) (c8 : Nat) (l9 : Nat) (hl10 : x1.length = l9) (r : Bool) (h : M_l_eqStringS x0 x1 = some r) :
  FC Tryz.prog 69 [.slice a3 l5 c4, .slice a7 l9 c8] [⟨.str, ⟨a3, l5, c4⟩, x0⟩, ⟨.str, ⟨a7, l9, c8⟩, x1⟩] (fun _ : Unit => True) (fun _ => .bool r) (fun _ => []) :=
 by
  subst hl6
  subst hl10
  refine FC.of (T := TTx) Tryz.call69 Tryz.func69 E E fun w0 => ?_
  unfold M_l_eqStringS at h
  refine JS.rg0 ttOk 1 [] ⟨V, E⟩ E E (JS.seq (JS.rg0 ttOk 5 [(10, .v (.bool (!(decide ((x0.length : Int) = (x1.length : Int))))))] ⟨⟨E, V⟩, E⟩ E E ?_))
  refine JS.cond E (fun ht44 => ?_) (fun ht44 => ?_)
  ·
   have h := condT h ht44
   refine JS.rg0 ttOk 1 [(4, .v (.bool false))] ⟨⟨E, V⟩, E⟩ E E ?_
   cases h
   exact JS.ret ttOk () V E E [] E
  have h := condF h ht44
  refine JS.skip (JS.seq (JS.rg0 ttOk 1 [(5, .v (I 0))] ⟨⟨E, V⟩, E⟩ E E ?_))
  obtain ⟨j28, hj43, h⟩ := joinO_some h
  refine JS.blockJ (ι := Unit) ⟨fun _ => j28 () = some r, fun _ => [], fun _ => .nil, fun _ => [], fun _ => [], fun _ => 0⟩ ?_ ?_
  ·
   refine JS.loop (ι := Nat × Int) ⟨fun z => fixF (M_l_eqStringS_L1 x0 x1 j28) z.1 z.2 = some r, fun z => [(0, .v (.slice a3 x0.length c4)), (1, .v (.slice a7 x1.length c8)), (5, .v (I z.2))], fun z => .nil, fun z => [⟨.str, ⟨a3, x0.length, c4⟩, x0⟩, ⟨.str, ⟨a7, x1.length, c8⟩, x1⟩], fun z => [], fun z => z.1⟩ (FUEL, 0) h (Es E) V [0, 1] E [] E ?_
   rintro ⟨n21, x11⟩ h
   obtain ⟨n21, rfl, h⟩ := fixF_some h
   rw [M_l_eqStringS_L1] at h
   refine JS.seq (JS.rg0 ttOk 4 [(14, .v (.bool (decide (x11 < (x0.length : Int)))))] ⟨⟨E, V⟩, E⟩ E E ?_)
   refine JS.cond E (fun ht42 => ?_) (fun ht42 => ?_)
   ·
    have h := condT h ht42
    refine JS.skip (JS.seq (JS.block (JS.seq ?_)))
    obtain ⟨g13, h⟩ := guardO_some h
    obtain ⟨g15, h⟩ := guardO_some h
    refine JS.know 0 E fun hs39 => JS.know 1 E fun hs40 => JS.regionQ E (by kernel_rfl) (JQ.reg ttOk 3 [] [(19, .ep ⟨a3, x0.length, c4⟩ (Int.toNat x11 * 1))] E ⟨hs39.ix g13, ⟨E, V⟩⟩ (JQ.load ttOk E E E E E E E 0 E E (Int.toNat x11) 0 (at' x0 x11) ⟨at_some g13, E⟩ E E (JQ.reg ttOk 3 [] [(23, .ep ⟨a7, x1.length, c8⟩ (Int.toNat x11 * 1))] E ⟨hs40.ix g15, ⟨E, V⟩⟩ (JQ.load ttOk E E E E E E E 1 E E (Int.toNat x11) 0 (at' x1 x11) ⟨at_some g15, E⟩ E E (JQ.reg ttOk 1 [] [(25, .v (.bool (!(decide ((at' x0 x11) = (at' x1 x11))))))] E ⟨E, V⟩ (JQ.done E ?_))))))
    refine JS.cond E (fun ht41 => ?_) (fun ht41 => ?_)
    ·
     have h := condT h ht41
     refine JS.rg0 ttOk 1 [(4, .v (.bool false))] ⟨⟨E, V⟩, E⟩ E E ?_
     cases h
     exact JS.ret ttOk () V E E [] E
    have h := condF h ht41
    refine JS.skip (JS.endB (JS.re ttOk 3 [(W (x11 + 1))] [] [(5, .v (I (W (x11 + 1))))] _ ⟨⟨V, E⟩, ⟨E, V⟩, E⟩ E E (JS.endL (n21, (W (x11 + 1))) h (Nat.lt_succ_self _) (Es E) V [0, 1] E [] E)))
   have h := condF h ht42
   refine JS.exit E (JS.endJ () h V V [] E [] E)
  rintro _ h
  subst hj43
  refine JS.rg0 ttOk 1 [(4, .v (.bool true))] ⟨⟨E, V⟩, E⟩ E E ?_
  cases h
  exact JS.ret ttOk () V E E [] E

def M_l_eqHist (x0 : Int × List (List UInt8)) (x1 : Int × List (List UInt8)) : Option Bool :=
  (bif (!(decide (x0.1 = x1.1))) then
  some false
  else
  (bindO (M_l_eqStringS x0.2 x1.2) fun (y11 : Bool) =>
  (bif (!y11) then
  some false
  else
  some true)))

theorem ok_l_eqHist (x0 : Int × List (List UInt8)) (x1 : Int × List (List UInt8)) (a3 : Option Addr) (c4 : Nat) (l5 : Nat) (hl6 : x0.2.length = l5) (a7 : Option Addr) (c8 : Nat) (l9 : Nat) (hl10 : x1.2.length = l9) (r : Bool) (h : M_l_eqHist x0 x1 = some r) :
  FC Tryz.prog 18 [.agg #[.int .i64 x0.1, .slice a3 l5 c4], .agg #[.int .i64 x1.1, .slice a7 l9 c8]] [⟨.str, ⟨a3, l5, c4⟩, x0.2⟩, ⟨.str, ⟨a7, l9, c8⟩, x1.2⟩] (fun _ : Unit => True) (fun _ => .bool r) (fun _ => []) :=
 by
  subst hl6
  subst hl10
  refine FC.of (T := TTx) Tryz.call18 Tryz.func18 E E fun w0 => ?_
  unfold M_l_eqHist at h
  refine JS.rgB ttOk 3 [] [3, 4] [(2, .bp 3 0), (3, .bp 4 0)] (.new 3 50 [.int .i64 x0.1, .slice a3 x0.2.length c4] (.new 4 50 [.int .i64 x1.1, .slice a7 x1.2.length c8] .nil)) ⟨(Es E), (Bs E E)⟩ E E (JS.seq (JS.rg0 ttOk 5 [(9, .v (.bool (!(decide (x0.1 = x1.1)))))] ⟨⟨E, V⟩, E⟩ E E ?_))
  refine JS.cond E (fun ht16 => ?_) (fun ht16 => ?_)
  ·
   have h := condT h ht16
   refine JS.rg0 ttOk 1 [(4, .v (.bool false))] ⟨⟨E, V⟩, E⟩ E E ?_
   cases h
   exact JS.ret ttOk () V E E [] E
  have h := condF h ht16
  refine JS.skip (JS.seq (JS.seq (JS.region (JO.reg ttOk 4 [] [] [(11, .v (.slice a3 x0.2.length c4)), (13, .v (.slice a7 x1.2.length c8))] _ E ⟨(Es E), E⟩ ?_))))
  obtain ⟨y11, hy12, h⟩ := bindO_some h
  refine JO.call E E E E (ok_l_eqStringS x0.2 x1.2 a3 c4 x0.2.length E a7 c8 x1.2.length E _ hy12) E [0, 1] E E fun _ _ => JO.reg ttOk 1 [] [] [(15, .v (.bool (!y11)))] _ E ⟨⟨E, V⟩, E⟩ (JO.done E ?_)
  refine JS.cond E (fun ht15 => ?_) (fun ht15 => ?_)
  ·
   have h := condT h ht15
   refine JS.rg0 ttOk 1 [(4, .v (.bool false))] ⟨⟨E, V⟩, E⟩ E E ?_
   cases h
   exact JS.ret ttOk () V E E [] E
  have h := condF h ht15
  refine JS.skip (JS.rg0 ttOk 1 [(4, .v (.bool true))] ⟨⟨E, V⟩, E⟩ E E ?_)
  cases h
  exact JS.ret ttOk () V E E [] E

def M_l_markIntS_L1 (x0 : List Int) (j19 : (List Int × Int) → Option (Int × List Int)) (k13 : (List Int × Int × Int) → Option (Int × List Int)) : (List Int × Int × Int) → Option (Int × List Int) := fun (x7, x8, x9) =>
  (bif (decide (x9 < (x0.length : Int))) then
  (guardO (0 ≤ x9 ∧ x9 < (x0.length : Int)) <|
  k13 ((List.set x7 (Int.toNat x9) x8), (W (x8 + 1)), (W (x9 + 1))))
  else
  j19 (x7, x8))

def M_l_markIntS (x0 : List Int) (x1 : Int) : Option (Int × List Int) :=
  (joinO (fun ((x17, x18) : List Int × Int) =>
  some (x18, x17)) fun j19 =>
  (fixF (M_l_markIntS_L1 x0 j19) FUEL (x0, x1, 0)))

theorem ok_l_markIntS (x0 : List Int) (x1 : Int) (a3 : Option Addr) (c4 : Nat) (l5 : Nat) (hl6 : x0.length = l5) (r : Int × List Int) (h : M_l_markIntS x0 x1 = some r) :
  FX Tryz.prog 22 [.slice a3 l5 c4, .int .i64 x1] [] [⟨(.int .i64), ⟨a3, l5, c4⟩, x0⟩] (fun _ : Unit => True) (fun _ => .int .i64 r.1) (fun _ => [⟨(.int .i64), ⟨a3, l5, c4⟩, r.2⟩]) :=
 by
  subst hl6
  refine FX.of (T := TTx) Tryz.call22 Tryz.func22 E E fun w0 L0 => ?_
  unfold M_l_markIntS at h
  refine JS.rg0 ttOk 1 [] ⟨V, E⟩ E E (JS.seq (JS.rg0 ttOk 1 [(5, .v (I 0))] ⟨⟨E, V⟩, E⟩ E E ?_))
  obtain ⟨j19, hj27, h⟩ := joinO_some h
  refine JS.blockJ (ι := List Int × Int) ⟨fun z => j19 (z.1, z.2) = some r, fun z => [(1, .v (I z.2))], fun z => .nil, fun z => [], fun z => [⟨(.int .i64), ⟨a3, x0.length, c4⟩, z.1⟩], fun z => 0⟩ ?_ ?_
  ·
   refine JS.loop (ι := Nat × List Int × Int × Int) ⟨fun z => fixF (M_l_markIntS_L1 x0 j19) z.1 (z.2.1, z.2.2.1, z.2.2.2) = some r, fun z => [(0, .v (.slice a3 x0.length c4)), (1, .v (I z.2.2.1)), (5, .v (I z.2.2.2))], fun z => .nil, fun z => [], fun z => [⟨(.int .i64), ⟨a3, x0.length, c4⟩, z.2.1⟩], fun z => z.1⟩ (FUEL, x0, x1, 0) h (Es E) V [] E [0] E ?_
   rintro ⟨n14, x7, x8, x9⟩ h
   obtain ⟨n14, rfl, h⟩ := fixF_some h
   rw [M_l_markIntS_L1] at h
   refine JS.know 0 E fun hs24 => JS.seq (JS.rg0 ttOk 4 [(9, .v (.bool (decide (x9 < (x0.length : Int)))))] ⟨⟨E, V⟩, E⟩ E E ?_)
   refine JS.cond E (fun ht25 => ?_) (fun ht25 => ?_)
   ·
    have h := condT h ht25
    refine JS.skip (JS.seq (JS.block (JS.seq (JS.region ?_))))
    obtain ⟨g11, h⟩ := guardO_some h
    refine JO.reg ttOk 4 [] [] [(14, .v (I x8)), (15, .ep ⟨a3, x0.length, c4⟩ (Int.toNat x9 * 1))] _ E ⟨(hs24.cast hs24.len.symm).ix g11, (Es E), E⟩ (JO.storeE ttOk E E E E E E E E E [0] (fs := []) E (Int.toNat x9) 0 (at' x7 x9) x8 ⟨at_someL hs24.len.symm g11, E⟩ ⟨E, E, E⟩ (JO.done E (JS.re ttOk 3 [(W (x8 + 1))] [] [(1, .v (I (W (x8 + 1))))] _ ⟨⟨V, E⟩, ⟨E, V⟩, E⟩ E E (JS.endB (JS.re ttOk 3 [(W (x9 + 1))] [] [(5, .v (I (W (x9 + 1))))] _ ⟨⟨V, E⟩, ⟨E, V⟩, E⟩ E E (JS.endL (n14, (List.set x7 (Int.toNat x9) x8), (W (x8 + 1)), (W (x9 + 1))) h (Nat.lt_succ_self _) (Es E) V [] E [0] E))))))
   have h := condF h ht25
   refine JS.exit E (JS.endJ (x7, x8) h ⟨E, V⟩ V [] E [0] E)
  rintro ⟨x17, x18⟩ h
  subst hj27
  refine JS.know 0 E fun hs26 => JS.rg0 ttOk 2 [(4, .v (I x18))] ⟨⟨E, V⟩, E⟩ E E ?_
  cases h
  exact JS.retX ttOk () V E E [0] E

def M_l_markLine (x0 : List Int × Int) (x1 : Int) : Option (Int × List Int) :=
  (bindO (M_l_markIntS x0.1 x1) fun (y7, y8) =>
  some (y7, y8))

theorem ok_l_markLine (x0 : List Int × Int) (x1 : Int) (a3 : Option Addr) (c4 : Nat) (l5 : Nat) (hl6 : x0.1.length = l5) (r : Int × List Int) (h : M_l_markLine x0 x1 = some r) :
  FX Tryz.prog 70 [.agg #[.slice a3 l5 c4, .int .i64 x0.2], .int .i64 x1] [] [⟨(.int .i64), ⟨a3, l5, c4⟩, x0.1⟩] (fun _ : Unit => True) (fun _ => .int .i64 r.1) (fun _ => [⟨(.int .i64), ⟨a3, l5, c4⟩, r.2⟩]) :=
 by
  subst hl6
  refine FX.of (T := TTx) Tryz.call70 Tryz.func70 E E fun w0 L0 => ?_
  unfold M_l_markLine at h
  refine JS.rgB ttOk 2 [] [2] [(2, .bp 2 0)] (.new 2 38 [.slice a3 x0.1.length c4, .int .i64 x0.2] .nil) ⟨⟨E, V⟩, (Bs E E)⟩ E E (JS.seq (JS.region (JO.reg ttOk 3 [] [] [(6, .v (.slice a3 x0.1.length c4)), (7, .v (I x1))] _ E ⟨(Es E), E⟩ ?_)))
  obtain ⟨⟨y7, y8⟩, hy9, h⟩ := bindO_some h
  refine JO.callX E E E E (ok_l_markIntS x0.1 x1 a3 c4 x0.1.length E _ hy9) E [0] E [] E E fun _ _ => JO.know 0 E fun hs10 => JO.reg ttOk 1 [] [] [(1, .v (I y7))] _ E ⟨⟨E, V⟩, E⟩ (JO.done E (JS.rg0 ttOk 2 [(4, .v (I y7))] ⟨⟨E, V⟩, E⟩ E E ?_))
  cases h
  exact JS.retX ttOk () V E E [0] E

def M_l_markPieceS_L1 (x0 : List (List Int)) (j27 : (List (List Int) × Int) → Option (Int × List (List Int))) (k21 : (List (List Int) × Int × Int) → Option (Int × List (List Int))) : (List (List Int) × Int × Int) → Option (Int × List (List Int)) := fun (x7, x8, x9) =>
  (bif (decide (x9 < (x0.length : Int))) then
  (guardO (0 ≤ x9 ∧ x9 < (x0.length : Int)) <|
  (bindO (M_l_markIntS (at' x7 x9) x8) fun (y16, y17) =>
  k21 ((List.set x7 (Int.toNat x9) y17), y16, (W (x9 + 1)))))
  else
  j27 (x7, x8))

def M_l_markPieceS (x0 : List (List Int)) (x1 : Int) : Option (Int × List (List Int)) :=
  (joinO (fun ((x25, x26) : List (List Int) × Int) =>
  some (x26, x25)) fun j27 =>
  (fixF (M_l_markPieceS_L1 x0 j27) FUEL (x0, x1, 0)))

theorem ok_l_markPieceS (x0 : List (List Int)) (x1 : Int) (a3 : Option Addr) (c4 : Nat) (l5 : Nat) (hl6 : x0.length = l5) (r : Int × List (List Int)) (h : M_l_markPieceS x0 x1 = some r) :
  FX Tryz.prog 149 [.slice a3 l5 c4, .int .i64 x1] [] [⟨(.sl (.int .i64)), ⟨a3, l5, c4⟩, x0⟩] (fun _ : Unit => True) (fun _ => .int .i64 r.1) (fun _ => [⟨(.sl (.int .i64)), ⟨a3, l5, c4⟩, r.2⟩]) :=
 by
  subst hl6
  refine FX.of (T := TTx) Tryz.call149 Tryz.func149 E E fun w0 L0 => ?_
  unfold M_l_markPieceS at h
  refine JS.rg0 ttOk 1 [] ⟨V, E⟩ E E (JS.seq (JS.rg0 ttOk 1 [(5, .v (I 0))] ⟨⟨E, V⟩, E⟩ E E ?_))
  obtain ⟨j27, hj35, h⟩ := joinO_some h
  refine JS.blockJ (ι := List (List Int) × Int) ⟨fun z => j27 (z.1, z.2) = some r, fun z => [(1, .v (I z.2))], fun z => .nil, fun z => [], fun z => [⟨(.sl (.int .i64)), ⟨a3, x0.length, c4⟩, z.1⟩], fun z => 0⟩ ?_ ?_
  ·
   refine JS.loop (ι := Nat × List (List Int) × Int × Int) ⟨fun z => fixF (M_l_markPieceS_L1 x0 j27) z.1 (z.2.1, z.2.2.1, z.2.2.2) = some r, fun z => [(0, .v (.slice a3 x0.length c4)), (1, .v (I z.2.2.1)), (5, .v (I z.2.2.2))], fun z => .nil, fun z => [], fun z => [⟨(.sl (.int .i64)), ⟨a3, x0.length, c4⟩, z.2.1⟩], fun z => z.1⟩ (FUEL, x0, x1, 0) h (Es E) V [] E [0] E ?_
   rintro ⟨n22, x7, x8, x9⟩ h
   obtain ⟨n22, rfl, h⟩ := fixF_some h
   rw [M_l_markPieceS_L1] at h
   refine JS.know 0 E fun hs32 => JS.seq (JS.rg0 ttOk 4 [(9, .v (.bool (decide (x9 < (x0.length : Int)))))] ⟨⟨E, V⟩, E⟩ E E ?_)
   refine JS.cond E (fun ht33 => ?_) (fun ht33 => ?_)
   ·
    have h := condT h ht33
    refine JS.skip (JS.seq (JS.block (JS.region ?_)))
    obtain ⟨g11, h⟩ := guardO_some h
    refine JO.reg ttOk 4 [] [] [(15, .ep ⟨a3, x0.length, c4⟩ (Int.toNat x9 * 1))] _ E ⟨(hs32.cast hs32.len.symm).ix g11, (hs32.cast hs32.len.symm).fa g11, ⟨E, V⟩, E⟩ (JO.lend [0] E (Int.toNat x9) (at' x7 x9) E fun a12 c13 l14 hl15 => ?_)
    obtain rfl : ([.slice a12 (at' x7 x9).length c13] : List Value) = l14 := Option.some.inj hl15
    refine JO.loadV ttOk E E E E E E 0 E E (Int.toNat x9) 0 (Sum.inr [.slice a12 (at' x7 x9).length c13]) ⟨lentL_at (at_someL hs32.len.symm g11), E⟩ E E E (JO.reg ttOk 1 [] [] [(17, .v (I x8))] _ E ⟨⟨E, V⟩, E⟩ ?_)
    obtain ⟨⟨y16, y17⟩, hy18, h⟩ := bindO_some h
    refine JO.callX E E E E (ok_l_markIntS (at' x7 x9) x8 a12 c13 ((at' x7 x9).length) E _ hy18) E [1] E [] E E fun _ _ => JO.know 0 E fun hs19 => JO.reg ttOk 1 [] [] [(1, .v (I y16))] _ E ⟨⟨E, V⟩, E⟩ (JO.unlend [1, 0] E y17 ⟨E, E, E⟩ (JO.done E (JS.endB (JS.re ttOk 3 [(W (x9 + 1))] [] [(5, .v (I (W (x9 + 1))))] _ ⟨⟨V, E⟩, ⟨E, V⟩, E⟩ E E (JS.endL (n22, (List.set x7 (Int.toNat x9) y17), y16, (W (x9 + 1))) h (Nat.lt_succ_self _) (Es E) V [] E [0] E)))))
   have h := condF h ht33
   refine JS.exit E (JS.endJ (x7, x8) h ⟨E, V⟩ V [] E [0] E)
  rintro ⟨x25, x26⟩ h
  subst hj35
  refine JS.know 0 E fun hs34 => JS.rg0 ttOk 2 [(4, .v (I x26))] ⟨⟨E, V⟩, E⟩ E E ?_
  cases h
  exact JS.retX ttOk () V E E [0] E

def M_l_markRing (x0 : List (List Int)) (x1 : Int) : Option (Int × List (List Int)) :=
  (bindO (M_l_markPieceS x0 x1) fun (y7, y8) =>
  some (y7, y8))

theorem ok_l_markRing (x0 : List (List Int)) (x1 : Int) (a3 : Option Addr) (c4 : Nat) (l5 : Nat) (hl6 : x0.length = l5) (r : Int × List (List Int)) (h : M_l_markRing x0 x1 = some r) :
  FX Tryz.prog 71 [.agg #[.slice a3 l5 c4], .int .i64 x1] [] [⟨(.sl (.int .i64)), ⟨a3, l5, c4⟩, x0⟩] (fun _ : Unit => True) (fun _ => .int .i64 r.1) (fun _ => [⟨(.sl (.int .i64)), ⟨a3, l5, c4⟩, r.2⟩]) :=
 by
  subst hl6
  refine FX.of (T := TTx) Tryz.call71 Tryz.func71 E E fun w0 L0 => ?_
  unfold M_l_markRing at h
  refine JS.rgB ttOk 2 [] [2] [(2, .bp 2 0)] (.new 2 41 [.slice a3 x0.length c4] .nil) ⟨⟨E, V⟩, (Bs E E)⟩ E E (JS.seq (JS.region (JO.reg ttOk 3 [] [] [(6, .v (.slice a3 x0.length c4)), (7, .v (I x1))] _ E ⟨(Es E), E⟩ ?_)))
  obtain ⟨⟨y7, y8⟩, hy9, h⟩ := bindO_some h
  refine JO.callX E E E E (ok_l_markPieceS x0 x1 a3 c4 x0.length E _ hy9) E [0] E [] E E fun _ _ => JO.know 0 E fun hs10 => JO.reg ttOk 1 [] [] [(1, .v (I y7))] _ E ⟨⟨E, V⟩, E⟩ (JO.done E (JS.rg0 ttOk 2 [(4, .v (I y7))] ⟨⟨E, V⟩, E⟩ E E ?_))
  cases h
  exact JS.retX ttOk () V E E [0] E

def M_l_markLineS_L1 (x0 : List (List Int × Int)) (j28 : ((List (List Int × Int)) × Int) → Option (Int × List (List Int × Int))) (k22 : ((List (List Int × Int)) × Int × Int) → Option (Int × List (List Int × Int))) : ((List (List Int × Int)) × Int × Int) → Option (Int × List (List Int × Int)) := fun (x7, x8, x9) =>
  (bif (decide (x9 < (x0.length : Int))) then
  (guardO (0 ≤ x9 ∧ x9 < (x0.length : Int)) <|
  (bindO (M_l_markIntS ((at' x7 x9).1) x8) fun (y16, y17) =>
  (guardO (0 ≤ x9 ∧ x9 < (x0.length : Int)) <|
  k22 ((List.set (List.set x7 (Int.toNat x9) (y17, (at' x7 x9).2)) (Int.toNat x9) ((at' (List.set x7 (Int.toNat x9) (y17, (at' x7 x9).2)) x9).1, y16)), (W (y16 + 1)), (W (x9 + 1))))))
  else
  j28 (x7, x8))

def M_l_markLineS (x0 : List (List Int × Int)) (x1 : Int) : Option (Int × List (List Int × Int)) :=
  (joinO (fun ((x26, x27) : (List (List Int × Int)) × Int) =>
  some (x27, x26)) fun j28 =>
  (fixF (M_l_markLineS_L1 x0 j28) FUEL (x0, x1, 0)))

theorem ok_l_markLineS (x0 : List (List Int × Int)) (x1 : Int) (a3 : Option Addr) (c4 : Nat) (l5 : Nat) (hl6 : x0.length = l5) (r : Int × List (List Int × Int)) (h : M_l_markLineS x0 x1 = some r) :
  FX Tryz.prog 150 [.slice a3 l5 c4, .int .i64 x1] [] [⟨(.pair (.sl (.int .i64)) (.int .i64)), ⟨a3, l5, c4⟩, x0⟩] (fun _ : Unit => True) (fun _ => .int .i64 r.1) (fun _ => [⟨(.pair (.sl (.int .i64)) (.int .i64)), ⟨a3, l5, c4⟩, r.2⟩]) :=
 by
  subst hl6
  refine FX.of (T := TTx) Tryz.call150 Tryz.func150 E E fun w0 L0 => ?_
  unfold M_l_markLineS at h
  refine JS.rg0 ttOk 1 [] ⟨V, E⟩ E E (JS.seq (JS.rg0 ttOk 1 [(5, .v (I 0))] ⟨⟨E, V⟩, E⟩ E E ?_))
  obtain ⟨j28, hj36, h⟩ := joinO_some h
  refine JS.blockJ (ι := (List (List Int × Int)) × Int) ⟨fun z => j28 (z.1, z.2) = some r, fun z => [(1, .v (I z.2))], fun z => .nil, fun z => [], fun z => [⟨(.pair (.sl (.int .i64)) (.int .i64)), ⟨a3, x0.length, c4⟩, z.1⟩], fun z => 0⟩ ?_ ?_
  ·
   refine JS.loop (ι := Nat × (List (List Int × Int)) × Int × Int) ⟨fun z => fixF (M_l_markLineS_L1 x0 j28) z.1 (z.2.1, z.2.2.1, z.2.2.2) = some r, fun z => [(0, .v (.slice a3 x0.length c4)), (1, .v (I z.2.2.1)), (5, .v (I z.2.2.2))], fun z => .nil, fun z => [], fun z => [⟨(.pair (.sl (.int .i64)) (.int .i64)), ⟨a3, x0.length, c4⟩, z.2.1⟩], fun z => z.1⟩ (FUEL, x0, x1, 0) h (Es E) V [] E [0] E ?_
   rintro ⟨n23, x7, x8, x9⟩ h
   obtain ⟨n23, rfl, h⟩ := fixF_some h
   rw [M_l_markLineS_L1] at h
   refine JS.know 0 E fun hs33 => JS.seq (JS.rg0 ttOk 4 [(9, .v (.bool (decide (x9 < (x0.length : Int)))))] ⟨⟨E, V⟩, E⟩ E E ?_)
   refine JS.cond E (fun ht34 => ?_) (fun ht34 => ?_)
   ·
    have h := condT h ht34
    refine JS.skip (JS.seq (JS.block (JS.seq (JS.region ?_))))
    obtain ⟨g11, h⟩ := guardO_some h
    refine JO.reg ttOk 4 [] [] [(15, .ep ⟨a3, x0.length, c4⟩ (Int.toNat x9 * 2))] _ E ⟨(hs33.cast hs33.len.symm).ix g11, (hs33.cast hs33.len.symm).fa g11, ⟨E, V⟩, E⟩ (JO.lend [0] E (Int.toNat x9) (at' x7 x9) E fun a12 c13 l14 hl15 => ?_)
    obtain rfl : ([.slice a12 ((at' x7 x9).1).length c13, .int .i64 (at' x7 x9).2] : List Value) = l14 := Option.some.inj hl15
    refine JO.loadV ttOk E E E E E E 0 E E (Int.toNat x9) 0 (Sum.inr [.slice a12 ((at' x7 x9).1).length c13, .int .i64 (at' x7 x9).2]) ⟨lentL_at (at_someL hs33.len.symm g11), E⟩ E E E (JO.reg ttOk 1 [] [] [(17, .v (I x8))] _ E ⟨⟨E, V⟩, E⟩ ?_)
    obtain ⟨⟨y16, y17⟩, hy18, h⟩ := bindO_some h
    refine JO.callX E E E E (ok_l_markIntS ((at' x7 x9).1) x8 a12 c13 (((at' x7 x9).1).length) E _ hy18) E [1] E [] E E fun _ _ => JO.know 0 E fun hs19 => JO.reg ttOk 1 [] [] [(1, .v (I y16))] _ E ⟨⟨E, V⟩, E⟩ (JO.unlend [1, 0] E (y17, (at' x7 x9).2) ⟨E, E, E⟩ (JO.done E (JS.seq (JS.region ?_))))
    obtain ⟨g20, h⟩ := guardO_some h
    refine JO.reg ttOk 5 [] [] [(21, .v (I y16)), (23, .ep ⟨a3, x0.length, c4⟩ (Int.toNat x9 * 2 + 1))] _ E ⟨(hs33.cast hs33.len.symm).ix g20, (hs33.cast hs33.len.symm).fa g20, (Es E), E⟩ (JO.storeE ttOk E E E E E E E E E [0] (fs := []) E (Int.toNat x9) 1 (at' (List.set x7 (Int.toNat x9) (y17, (at' x7 x9).2)) x9) ((at' (List.set x7 (Int.toNat x9) (y17, (at' x7 x9).2)) x9).1, y16) ⟨at_someL (List.length_set.trans hs33.len.symm) g20, E⟩ ⟨⟨E, E, E⟩, E⟩ (JO.done E (JS.re ttOk 3 [(W (y16 + 1))] [] [(1, .v (I (W (y16 + 1))))] _ ⟨⟨V, E⟩, ⟨E, V⟩, E⟩ E E (JS.endB (JS.re ttOk 3 [(W (x9 + 1))] [] [(5, .v (I (W (x9 + 1))))] _ ⟨⟨V, E⟩, ⟨E, V⟩, E⟩ E E (JS.endL (n23, (List.set (List.set x7 (Int.toNat x9) (y17, (at' x7 x9).2)) (Int.toNat x9) ((at' (List.set x7 (Int.toNat x9) (y17, (at' x7 x9).2)) x9).1, y16)), (W (y16 + 1)), (W (x9 + 1))) h (Nat.lt_succ_self _) (Es E) V [] E [0] E))))))
   have h := condF h ht34
   refine JS.exit E (JS.endJ (x7, x8) h ⟨E, V⟩ V [] E [0] E)
  rintro ⟨x26, x27⟩ h
  subst hj36
  refine JS.know 0 E fun hs35 => JS.rg0 ttOk 2 [(4, .v (I x27))] ⟨⟨E, V⟩, E⟩ E E ?_
  cases h
  exact JS.retX ttOk () V E E [0] E

def M_l_markUndo (x0 : List (List Int × Int)) (x1 : Int) : Option (Int × List (List Int × Int)) :=
  (bindO (M_l_markLineS x0 x1) fun (y7, y8) =>
  some (y7, y8))

theorem ok_l_markUndo (x0 : List (List Int × Int)) (x1 : Int) (a3 : Option Addr) (c4 : Nat) (l5 : Nat) (hl6 : x0.length = l5) (r : Int × List (List Int × Int)) (h : M_l_markUndo x0 x1 = some r) :
  FX Tryz.prog 72 [.agg #[.slice a3 l5 c4], .int .i64 x1] [] [⟨(.pair (.sl (.int .i64)) (.int .i64)), ⟨a3, l5, c4⟩, x0⟩] (fun _ : Unit => True) (fun _ => .int .i64 r.1) (fun _ => [⟨(.pair (.sl (.int .i64)) (.int .i64)), ⟨a3, l5, c4⟩, r.2⟩]) :=
 by
  subst hl6
  refine FX.of (T := TTx) Tryz.call72 Tryz.func72 E E fun w0 L0 => ?_
  unfold M_l_markUndo at h
  refine JS.rgB ttOk 2 [] [2] [(2, .bp 2 0)] (.new 2 44 [.slice a3 x0.length c4] .nil) ⟨⟨E, V⟩, (Bs E E)⟩ E E (JS.seq (JS.region (JO.reg ttOk 3 [] [] [(6, .v (.slice a3 x0.length c4)), (7, .v (I x1))] _ E ⟨(Es E), E⟩ ?_)))
  obtain ⟨⟨y7, y8⟩, hy9, h⟩ := bindO_some h
  refine JO.callX E E E E (ok_l_markLineS x0 x1 a3 c4 x0.length E _ hy9) E [0] E [] E E fun _ _ => JO.know 0 E fun hs10 => JO.reg ttOk 1 [] [] [(1, .v (I y7))] _ E ⟨⟨E, V⟩, E⟩ (JO.done E (JS.rg0 ttOk 2 [(4, .v (I y7))] ⟨⟨E, V⟩, E⟩ E E ?_))
  cases h
  exact JS.retX ttOk () V E E [0] E

def M_l_markEd (x0 : EdQ) (x1 : Int) : Option (Int × List Int × List (List Int) × (List (List Int × Int)) × List Int × List Int × List Int) :=
  (bindO (M_l_markLine x0.2.2.1 x1) fun (y27, y28) =>
  (bindO (M_l_markRing x0.2.2.2.2.2.2.2.2.2.2.1 y27) fun (y31, y32) =>
  (bindO (M_l_markUndo x0.2.2.2.2.2.2.2.2.2.2.2.1 y31) fun (y35, y36) =>
  (bindO (M_l_markLine x0.2.2.2.2.2.2.2.2.2.2.2.2.2.1 y35) fun (y39, y40) =>
  (bindO (M_l_markIntS x0.2.2.2.2.2.2.2.2.2.2.2.2.2.2.1 y39) fun (y43, y44) =>
  (bindO (M_l_markLine x0.2.2.2.2.2.2.2.2.2.2.2.2.2.2.2.2 y43) fun (y47, y48) =>
  some (y47, y28, y32, y36, y40, y44, y48)))))))

theorem ok_l_markEd (x0 : EdQ) (x1 : Int) (a3 : Option Addr) (c4 : Nat) (l5 : Nat) (hl6 : x0.2.2.1.1.length = l5) (a7 : Option Addr) (c8 : Nat) (l9 : Nat) (hl10 : (Q8 x0).2.2.1.length = l9) (a11 : Option Addr) (c12 : Nat) (l13 : Nat) (hl14 : (Q8 x0).2.2.2.1.length = l13) (a15 : Option Addr) (c16 : Nat) (l17 : Nat) (hl18 : (Q12 x0).2.1.1.length = l17) (a19 : Option Addr) (c20 : Nat) (l21 : Nat) (hl22 : (Q12 x0).2.2.1.length = l21) (a23 : Option Addr) (c24 : Nat) (l25 : Nat) (hl26 : (Q16 x0).1.length = l25) (r : Int × List Int × List (List Int) × (List (List Int × Int)) × List Int × List Int × List Int) (h : M_l_markEd x0 x1 = some r) :
  FX Tryz.prog 20 [.agg #[.bool x0.1, .int .i64 x0.2.1, .slice a3 l5 c4, .int .i64 x0.2.2.1.2, .int .i64 x0.2.2.2.1, .int .i64 (Q4 x0).1, .int .i64 (Q4 x0).2.1, .int .i64 (Q4 x0).2.2.1, .int .i64 (Q4 x0).2.2.2.1, .int .i64 (Q8 x0).1, .int .i64 (Q8 x0).2.1, .slice a7 l9 c8, .slice a11 l13 c12, .int .i64 (Q12 x0).1, .slice a15 l17 c16, .int .i64 (Q12 x0).2.1.2, .slice a19 l21 c20, .int .i64 (Q12 x0).2.2.2.1, .slice a23 l25 c24, .int .i64 (Q16 x0).2], .int .i64 x1] [] [⟨(.int .i64), ⟨a3, l5, c4⟩, x0.2.2.1.1⟩, ⟨(.sl (.int .i64)), ⟨a7, l9, c8⟩, (Q8 x0).2.2.1⟩, ⟨(.pair (.sl (.int .i64)) (.int .i64)), ⟨a11, l13, c12⟩, (Q8 x0).2.2.2.1⟩, ⟨(.int .i64), ⟨a15, l17, c16⟩, (Q12 x0).2.1.1⟩, ⟨(.int .i64), ⟨a19, l21, c20⟩, (Q12 x0).2.2.1⟩, ⟨(.int .i64), ⟨a23, l25, c24⟩, (Q16 x0).1⟩] (fun _ : Unit => True) (fun _ => .int .i64 r.1) (fun _ => [⟨(.int .i64), ⟨a3, l5, c4⟩, r.2.1⟩, ⟨(.sl (.int .i64)), ⟨a7, l9, c8⟩, r.2.2.1⟩, ⟨(.pair (.sl (.int .i64)) (.int .i64)), ⟨a11, l13, c12⟩, r.2.2.2.1⟩, ⟨(.int .i64), ⟨a15, l17, c16⟩, (Q4 r).1⟩, ⟨(.int .i64), ⟨a19, l21, c20⟩, (Q4 r).2.1⟩, ⟨(.int .i64), ⟨a23, l25, c24⟩, (Q4 r).2.2⟩]) :=
 by
  subst hl6
  subst hl10
  subst hl14
  subst hl18
  subst hl22
  subst hl26
  refine FX.of (T := TTx) Tryz.call20 Tryz.func20 E E fun w0 L0 => ?_
  unfold M_l_markEd at h
  refine JS.rgB ttOk 2 [] [7] [(2, .bp 7 0)] (.new 7 46 (cl46 x0 a3 c4 a7 c8 a11 c12 a15 c16 a19 c20 a23 c24) .nil) ⟨⟨E, V⟩, (Bs E E)⟩ E E (JS.seq (JS.region (JO.reg ttOk 3 [] [] [(6, .v (.agg #[.slice a3 x0.2.2.1.1.length c4, .int .i64 x0.2.2.1.2])), (7, .v (I x1))] _ E ⟨(Es E), E⟩ ?_)))
  obtain ⟨⟨y27, y28⟩, hy29, h⟩ := bindO_some h
  refine JO.callX E E E E (ok_l_markLine x0.2.2.1 x1 a3 c4 x0.2.2.1.1.length E _ hy29) E [0] E [] E E fun _ _ => JO.know 0 E fun hs30 => JO.reg ttOk 1 [] [] [(1, .v (I y27))] _ E ⟨⟨E, V⟩, E⟩ (JO.done E (JS.seq (JS.region (JO.reg ttOk 3 [] [] [(10, .v (.agg #[.slice a7 (Q8 x0).2.2.1.length c8])), (11, .v (I y27))] _ E ⟨(Es E), E⟩ ?_))))
  obtain ⟨⟨y31, y32⟩, hy33, h⟩ := bindO_some h
  refine JO.callX E E E E (ok_l_markRing (Q8 x0).2.2.1 y27 a7 c8 (Q8 x0).2.2.1.length E _ hy33) E [1] E [] E E fun _ _ => JO.know 0 E fun hs34 => JO.reg ttOk 1 [] [] [(1, .v (I y31))] _ E ⟨⟨E, V⟩, E⟩ (JO.done E (JS.seq (JS.region (JO.reg ttOk 3 [] [] [(14, .v (.agg #[.slice a11 (Q8 x0).2.2.2.1.length c12])), (15, .v (I y31))] _ E ⟨(Es E), E⟩ ?_))))
  obtain ⟨⟨y35, y36⟩, hy37, h⟩ := bindO_some h
  refine JO.callX E E E E (ok_l_markUndo (Q8 x0).2.2.2.1 y31 a11 c12 (Q8 x0).2.2.2.1.length E _ hy37) E [2] E [] E E fun _ _ => JO.know 0 E fun hs38 => JO.reg ttOk 1 [] [] [(1, .v (I y35))] _ E ⟨⟨E, V⟩, E⟩ (JO.done E (JS.seq (JS.region (JO.reg ttOk 3 [] [] [(18, .v (.agg #[.slice a15 (Q12 x0).2.1.1.length c16, .int .i64 (Q12 x0).2.1.2])), (19, .v (I y35))] _ E ⟨(Es E), E⟩ ?_))))
  obtain ⟨⟨y39, y40⟩, hy41, h⟩ := bindO_some h
  refine JO.callX E E E E (ok_l_markLine (Q12 x0).2.1 y35 a15 c16 (Q12 x0).2.1.1.length E _ hy41) E [3] E [] E E fun _ _ => JO.know 0 E fun hs42 => JO.reg ttOk 1 [] [] [(1, .v (I y39))] _ E ⟨⟨E, V⟩, E⟩ (JO.done E (JS.seq (JS.region (JO.reg ttOk 3 [] [] [(22, .v (.slice a19 (Q12 x0).2.2.1.length c20)), (23, .v (I y39))] _ E ⟨(Es E), E⟩ ?_))))
  obtain ⟨⟨y43, y44⟩, hy45, h⟩ := bindO_some h
  refine JO.callX E E E E (ok_l_markIntS (Q12 x0).2.2.1 y39 a19 c20 (Q12 x0).2.2.1.length E _ hy45) E [4] E [] E E fun _ _ => JO.know 0 E fun hs46 => JO.reg ttOk 1 [] [] [(1, .v (I y43))] _ E ⟨⟨E, V⟩, E⟩ (JO.done E (JS.seq (JS.region (JO.reg ttOk 3 [] [] [(26, .v (.agg #[.slice a23 (Q16 x0).1.length c24, .int .i64 (Q16 x0).2])), (27, .v (I y43))] _ E ⟨(Es E), E⟩ ?_))))
  obtain ⟨⟨y47, y48⟩, hy49, h⟩ := bindO_some h
  refine JO.callX E E E E (ok_l_markLine (Q16 x0) y43 a23 c24 (Q16 x0).1.length E _ hy49) E [5] E [] E E fun _ _ => JO.know 0 E fun hs50 => JO.reg ttOk 1 [] [] [(1, .v (I y47))] _ E ⟨⟨E, V⟩, E⟩ (JO.done E (JS.rg0 ttOk 2 [(4, .v (I y47))] ⟨⟨E, V⟩, E⟩ E E ?_))
  cases h
  exact JS.retX ttOk () V E E [5, 4, 3, 2, 1, 0] E

def M_l_markText_L1 (j13 : (List UInt8) → Option (List UInt8)) (k9 : (Int × List UInt8) → Option (List UInt8)) : (Int × List UInt8) → Option (List UInt8) := fun (x2, x3) =>
  (bif (decide (0 < x2)) then
  (guardO (((([(u8 ((W (48 + (Int.tmod x2 10)))))] : List UInt8).length + x3.length : Nat) : Int) ≤ 9223372036854775807) <|
  k9 ((W (Int.tdiv x2 10)), (([(u8 ((W (48 + (Int.tmod x2 10)))))] : List UInt8) ++ x3)))
  else
  j13 x3)

def M_l_markText (x0 : Int) : Option (List UInt8) :=
  (bif (decide (x0 ≤ 0)) then
  some ([109, 48] : List UInt8)
  else
  (joinO (fun (x12 : List UInt8) =>
  (guardO (((([109] : List UInt8).length + x12.length : Nat) : Int) ≤ 9223372036854775807) <|
  some (([109] : List UInt8) ++ x12))) fun j13 =>
  (fixF (M_l_markText_L1 j13) FUEL (x0, []))))

theorem ok_l_markText (x0 : Int) (r : List UInt8) (h : M_l_markText x0 = some r) :
  FC Tryz.prog 151 [.int .i64 x0] [] (fun _ : Unit => True) (fun _ => .string (bs r)) (fun _ => []) :=
 by
  refine FC.of (T := TTx) Tryz.call151 Tryz.func151 E E fun w0 => ?_
  unfold M_l_markText at h
  refine JS.rg0 ttOk 1 [] ⟨V, E⟩ E E (JS.seq (JS.rg0 ttOk 2 [(5, .v (.bool (decide (x0 ≤ 0))))] ⟨⟨E, V⟩, E⟩ E E ?_))
  refine JS.cond E (fun ht20 => ?_) (fun ht20 => ?_)
  ·
   have h := condT h ht20
   refine JS.rg0 ttOk 1 [(2, .v (.string (bs ([109, 48] : List UInt8))))] ⟨⟨E, V⟩, E⟩ E E ?_
   cases h
   exact JS.ret ttOk () V E E [] E
  have h := condF h ht20
  refine JS.skip (JS.rg0 ttOk 1 [(3, .v (.string (bs [])))] ⟨⟨E, V⟩, E⟩ E E (JS.seq ?_))
  obtain ⟨j13, hj19, h⟩ := joinO_some h
  refine JS.blockJ (ι := List UInt8) ⟨fun z => j13 z = some r, fun z => [(3, .v (.string (bs z)))], fun z => .nil, fun z => [], fun z => [], fun z => 0⟩ ?_ ?_
  ·
   refine JS.loop (ι := Nat × Int × List UInt8) ⟨fun z => fixF (M_l_markText_L1 j13) z.1 (z.2.1, z.2.2) = some r, fun z => [(0, .v (I z.2.1)), (3, .v (.string (bs z.2.2)))], fun z => .nil, fun z => [], fun z => [], fun z => z.1⟩ (FUEL, x0, []) h (Es E) V [] E [] E ?_
   rintro ⟨n10, x2, x3⟩ h
   obtain ⟨n10, rfl, h⟩ := fixF_some h
   rw [M_l_markText_L1] at h
   refine JS.seq (JS.rg0 ttOk 2 [(7, .v (.bool (decide (0 < x2))))] ⟨⟨E, V⟩, E⟩ E E ?_)
   refine JS.cond E (fun ht18 => ?_) (fun ht18 => ?_)
   ·
    have h := condT h ht18
    refine JS.skip (JS.block (JS.seq (JS.region ?_)))
    have g4 : (10 : Int) ≠ 0 := by decide
    refine JO.reg ttOk 4 [(W (48 + (Int.tmod x2 10))), ((u8 ((W (48 + (Int.tmod x2 10))))).toNat : Int)] [] [(11, .v (.int .u8 ((u8 ((W (48 + (Int.tmod x2 10))))).toNat : Int)))] _ E ⟨g4, ⟨V, E⟩, ⟨V, u8_wrap _⟩, ⟨E, V⟩, E⟩ ?_
    refine JO.ofK E (JK.buildSlice ttOk E E E E E E E E E E E [] E .byte [(u8 ((W (48 + (Int.tmod x2 10)))))] ⟨E, E⟩ E E fun a5 => JO.toK ?_)
    refine JO.strOf ttOk E E E E E E E E 0 E E ?_
    obtain ⟨g6, h⟩ := guardO_some h
    refine JO.reg ttOk 3 [] [] [(3, .v (.string (bs (([(u8 ((W (48 + (Int.tmod x2 10)))))] : List UInt8) ++ x3))))] _ E ⟨g6, ⟨E, V⟩, E⟩ (JO.done E (JS.region ?_))
    have g7 : (10 : Int) ≠ 0 := by decide
    refine JO.reg ttOk 3 [(W (Int.tdiv x2 10))] [] [(0, .v (I (W (Int.tdiv x2 10))))] _ E ⟨⟨g7, E⟩, ⟨E, V⟩, E⟩ (JO.done E (JS.endB (JS.endL (n10, (W (Int.tdiv x2 10)), (([(u8 ((W (48 + (Int.tmod x2 10)))))] : List UInt8) ++ x3)) h (Nat.lt_succ_self _) (Es E) V [] E [] E)))
   have h := condF h ht18
   refine JS.exit E (JS.endJ x3 h ⟨E, V⟩ V [] E [] E)
  rintro x12 h
  subst hj19
  refine JS.seq (JS.region ?_)
  obtain ⟨g15, h⟩ := guardO_some h
  refine JO.reg ttOk 3 [] [] [(2, .v (.string (bs (([109] : List UInt8) ++ x12))))] _ E ⟨g15, ⟨E, V⟩, E⟩ (JO.done E ?_)
  cases h
  exact JS.ret ttOk () V E E [] E

def M_l_markStringS_L1 (x0 : List (List UInt8)) (j21 : (List (List UInt8) × Int) → Option (Int × List (List UInt8))) (k15 : (List (List UInt8) × Int × Int) → Option (Int × List (List UInt8))) : (List (List UInt8) × Int × Int) → Option (Int × List (List UInt8)) := fun (x7, x8, x9) =>
  (bif (decide (x9 < (x0.length : Int))) then
  (bindO (M_l_markText x8) fun (y11 : List UInt8) =>
  (guardO (0 ≤ x9 ∧ x9 < (x0.length : Int)) <|
  k15 ((List.set x7 (Int.toNat x9) y11), (W (x8 + 1)), (W (x9 + 1)))))
  else
  j21 (x7, x8))

def M_l_markStringS (x0 : List (List UInt8)) (x1 : Int) : Option (Int × List (List UInt8)) :=
  (joinO (fun ((x19, x20) : List (List UInt8) × Int) =>
  some (x20, x19)) fun j21 =>
  (fixF (M_l_markStringS_L1 x0 j21) FUEL (x0, x1, 0)))

theorem ok_l_markStringS (x0 : List (List UInt8)) (x1 : Int) (a3 : Option Addr) (c4 : Nat) (l5 : Nat) (hl6 : x0.length = l5) (r : Int × List (List UInt8)) (h : M_l_markStringS x0 x1 = some r) :
  FX Tryz.prog 73 [.slice a3 l5 c4, .int .i64 x1] [] [⟨.str, ⟨a3, l5, c4⟩, x0⟩] (fun _ : Unit => True) (fun _ => .int .i64 r.1) (fun _ => [⟨.str, ⟨a3, l5, c4⟩, r.2⟩]) :=
 by
  subst hl6
  refine FX.of (T := TTx) Tryz.call73 Tryz.func73 E E fun w0 L0 => ?_
  unfold M_l_markStringS at h
  refine JS.rg0 ttOk 1 [] ⟨V, E⟩ E E (JS.seq (JS.rg0 ttOk 1 [(5, .v (I 0))] ⟨⟨E, V⟩, E⟩ E E ?_))
  obtain ⟨j21, hj29, h⟩ := joinO_some h
  refine JS.blockJ (ι := List (List UInt8) × Int) ⟨fun z => j21 (z.1, z.2) = some r, fun z => [(1, .v (I z.2))], fun z => .nil, fun z => [], fun z => [⟨.str, ⟨a3, x0.length, c4⟩, z.1⟩], fun z => 0⟩ ?_ ?_
  ·
   refine JS.loop (ι := Nat × List (List UInt8) × Int × Int) ⟨fun z => fixF (M_l_markStringS_L1 x0 j21) z.1 (z.2.1, z.2.2.1, z.2.2.2) = some r, fun z => [(0, .v (.slice a3 x0.length c4)), (1, .v (I z.2.2.1)), (5, .v (I z.2.2.2))], fun z => .nil, fun z => [], fun z => [⟨.str, ⟨a3, x0.length, c4⟩, z.2.1⟩], fun z => z.1⟩ (FUEL, x0, x1, 0) h (Es E) V [] E [0] E ?_
   rintro ⟨n16, x7, x8, x9⟩ h
   obtain ⟨n16, rfl, h⟩ := fixF_some h
   rw [M_l_markStringS_L1] at h
   refine JS.know 0 E fun hs26 => JS.seq (JS.rg0 ttOk 4 [(9, .v (.bool (decide (x9 < (x0.length : Int)))))] ⟨⟨E, V⟩, E⟩ E E ?_)
   refine JS.cond E (fun ht27 => ?_) (fun ht27 => ?_)
   ·
    have h := condT h ht27
    refine JS.skip (JS.seq (JS.block (JS.seq (JS.region (JO.reg ttOk 3 [] [] [(12, .v (.slice a3 x0.length c4)), (13, .v (I x9)), (14, .v (I x8))] _ E ⟨(Es E), E⟩ ?_)))))
    obtain ⟨y11, hy12, h⟩ := bindO_some h
    refine JO.call E E E E (ok_l_markText x8 _ hy12) E [] E E fun _ _ => ?_
    obtain ⟨g13, h⟩ := guardO_some h
    refine JO.reg ttOk 1 [] [] [(16, .ep ⟨a3, x0.length, c4⟩ (Int.toNat x9 * 1))] _ E ⟨(hs26.cast hs26.len.symm).ix g13, ⟨E, V⟩, E⟩ (JO.storeE ttOk E E E E E E E E E [0] (fs := []) E (Int.toNat x9) 0 (at' x7 x9) y11 ⟨at_someL hs26.len.symm g13, E⟩ ⟨E, E, E⟩ (JO.done E (JS.re ttOk 3 [(W (x8 + 1))] [] [(1, .v (I (W (x8 + 1))))] _ ⟨⟨V, E⟩, ⟨E, V⟩, E⟩ E E (JS.endB (JS.re ttOk 3 [(W (x9 + 1))] [] [(5, .v (I (W (x9 + 1))))] _ ⟨⟨V, E⟩, ⟨E, V⟩, E⟩ E E (JS.endL (n16, (List.set x7 (Int.toNat x9) y11), (W (x8 + 1)), (W (x9 + 1))) h (Nat.lt_succ_self _) (Es E) V [] E [0] E))))))
   have h := condF h ht27
   refine JS.exit E (JS.endJ (x7, x8) h ⟨E, V⟩ V [] E [0] E)
  rintro ⟨x19, x20⟩ h
  subst hj29
  refine JS.know 0 E fun hs28 => JS.rg0 ttOk 2 [(4, .v (I x20))] ⟨⟨E, V⟩, E⟩ E E ?_
  cases h
  exact JS.retX ttOk () V E E [0] E

def M_l_markHist (x0 : Int × List (List UInt8)) (x1 : Int) : Option (Int × List (List UInt8)) :=
  (bindO (M_l_markStringS x0.2 x1) fun (y7, y8) =>
  some (y7, y8))

theorem ok_l_markHist (x0 : Int × List (List UInt8)) (x1 : Int) (a3 : Option Addr) (c4 : Nat) (l5 : Nat) (hl6 : x0.2.length = l5) (r : Int × List (List UInt8)) (h : M_l_markHist x0 x1 = some r) :
  FX Tryz.prog 21 [.agg #[.int .i64 x0.1, .slice a3 l5 c4], .int .i64 x1] [] [⟨.str, ⟨a3, l5, c4⟩, x0.2⟩] (fun _ : Unit => True) (fun _ => .int .i64 r.1) (fun _ => [⟨.str, ⟨a3, l5, c4⟩, r.2⟩]) :=
 by
  subst hl6
  refine FX.of (T := TTx) Tryz.call21 Tryz.func21 E E fun w0 L0 => ?_
  unfold M_l_markHist at h
  refine JS.rgB ttOk 2 [] [2] [(2, .bp 2 0)] (.new 2 50 [.int .i64 x0.1, .slice a3 x0.2.length c4] .nil) ⟨⟨E, V⟩, (Bs E E)⟩ E E (JS.seq (JS.region (JO.reg ttOk 3 [] [] [(6, .v (.slice a3 x0.2.length c4)), (7, .v (I x1))] _ E ⟨(Es E), E⟩ ?_)))
  obtain ⟨⟨y7, y8⟩, hy9, h⟩ := bindO_some h
  refine JO.callX E E E E (ok_l_markStringS x0.2 x1 a3 c4 x0.2.length E _ hy9) E [0] E [] E E fun _ _ => JO.know 0 E fun hs10 => JO.reg ttOk 1 [] [] [(1, .v (I y7))] _ E ⟨⟨E, V⟩, E⟩ (JO.done E (JS.rg0 ttOk 2 [(4, .v (I y7))] ⟨⟨E, V⟩, E⟩ E E ?_))
  cases h
  exact JS.retX ttOk () V E E [0] E

def M_l_heldIntS_L1 (x0 : List Int) (j19 : Int → Option Int) (k13 : (Int × Int) → Option Int) : (Int × Int) → Option Int := fun (x7, x8) =>
  (bif (decide (x8 < (x0.length : Int))) then
  (guardO (0 ≤ x8 ∧ x8 < (x0.length : Int)) <|
  (bif (!(decide ((at' x0 x8) = x7))) then
  some (-1)
  else
  k13 ((W (x7 + 1)), (W (x8 + 1)))))
  else
  j19 x7)

def M_l_heldIntS (x0 : List Int) (x1 : Int) : Option Int :=
  (joinO (fun (x18 : Int) =>
  some x18) fun j19 =>
  (fixF (M_l_heldIntS_L1 x0 j19) FUEL (x1, 0)))

theorem ok_l_heldIntS (x0 : List Int) (x1 : Int) (a3 : Option Addr) (c4 : Nat) (l5 : Nat) (hl6 : x0.length = l5) (r : Int) (h : M_l_heldIntS x0 x1 = some r) :
  FC Tryz.prog 77 [.slice a3 l5 c4, .int .i64 x1] [⟨(.int .i64), ⟨a3, l5, c4⟩, x0⟩] (fun _ : Unit => True) (fun _ => .int .i64 r) (fun _ => []) :=
 by
  subst hl6
  refine FC.of (T := TTx) Tryz.call77 Tryz.func77 E E fun w0 => ?_
  unfold M_l_heldIntS at h
  refine JS.rg0 ttOk 1 [] ⟨V, E⟩ E E (JS.seq (JS.rg0 ttOk 1 [(5, .v (I 0))] ⟨⟨E, V⟩, E⟩ E E ?_))
  obtain ⟨j19, hj27, h⟩ := joinO_some h
  refine JS.blockJ (ι := Int) ⟨fun z => j19 z = some r, fun z => [(1, .v (I z))], fun z => .nil, fun z => [], fun z => [], fun z => 0⟩ ?_ ?_
  ·
   refine JS.loop (ι := Nat × Int × Int) ⟨fun z => fixF (M_l_heldIntS_L1 x0 j19) z.1 (z.2.1, z.2.2) = some r, fun z => [(0, .v (.slice a3 x0.length c4)), (1, .v (I z.2.1)), (5, .v (I z.2.2))], fun z => .nil, fun z => [⟨(.int .i64), ⟨a3, x0.length, c4⟩, x0⟩], fun z => [], fun z => z.1⟩ (FUEL, x1, 0) h (Es E) V [0] E [] E ?_
   rintro ⟨n14, x7, x8⟩ h
   obtain ⟨n14, rfl, h⟩ := fixF_some h
   rw [M_l_heldIntS_L1] at h
   refine JS.seq (JS.rg0 ttOk 4 [(9, .v (.bool (decide (x8 < (x0.length : Int)))))] ⟨⟨E, V⟩, E⟩ E E ?_)
   refine JS.cond E (fun ht26 => ?_) (fun ht26 => ?_)
   ·
    have h := condT h ht26
    refine JS.skip (JS.seq (JS.block (JS.seq (JS.seq (JS.region (JO.know 0 E fun hs24 => ?_))))))
    obtain ⟨g10, h⟩ := guardO_some h
    refine JO.reg ttOk 3 [] [] [(14, .ep ⟨a3, x0.length, c4⟩ (Int.toNat x8 * 1))] _ E ⟨hs24.ix g10, ⟨E, V⟩, E⟩ (JO.load ttOk E E E E E E E 0 E E (Int.toNat x8) 0 (at' x0 x8) ⟨at_some g10, E⟩ E E (JO.reg ttOk 2 [] [] [(17, .v (.bool (!(decide ((at' x0 x8) = x7)))))] _ E ⟨⟨E, V⟩, E⟩ (JO.done E ?_)))
    refine JS.cond E (fun ht25 => ?_) (fun ht25 => ?_)
    ·
     have h := condT h ht25
     refine JS.rg0 ttOk 1 [(4, .v (I (-1)))] ⟨⟨E, V⟩, E⟩ E E ?_
     cases h
     exact JS.ret ttOk () V E E [] E
    have h := condF h ht25
    refine JS.skip (JS.re ttOk 3 [(W (x7 + 1))] [] [(1, .v (I (W (x7 + 1))))] _ ⟨⟨V, E⟩, ⟨E, V⟩, E⟩ E E (JS.endB (JS.re ttOk 3 [(W (x8 + 1))] [] [(5, .v (I (W (x8 + 1))))] _ ⟨⟨V, E⟩, ⟨E, V⟩, E⟩ E E (JS.endL (n14, (W (x7 + 1)), (W (x8 + 1))) h (Nat.lt_succ_self _) (Es E) V [0] E [] E))))
   have h := condF h ht26
   refine JS.exit E (JS.endJ x7 h ⟨E, V⟩ V [] E [] E)
  rintro x18 h
  subst hj27
  refine JS.rg0 ttOk 2 [(4, .v (I x18))] ⟨⟨E, V⟩, E⟩ E E ?_
  cases h
  exact JS.ret ttOk () V E E [] E

def M_l_heldLine (x0 : List Int × Int) (x1 : Int) : Option Int :=
  (bindO (M_l_heldIntS x0.1 x1) fun (y7 : Int) =>
  (bif (decide (y7 < 0)) then
  some (-1)
  else
  some y7))

theorem ok_l_heldLine (x0 : List Int × Int) (x1 : Int) (a3 : Option Addr) (c4 : Nat) (l5 : Nat) (hl6 : x0.1.length = l5) (r : Int) (h : M_l_heldLine x0 x1 = some r) :
  FC Tryz.prog 74 [.agg #[.slice a3 l5 c4, .int .i64 x0.2], .int .i64 x1] [⟨(.int .i64), ⟨a3, l5, c4⟩, x0.1⟩] (fun _ : Unit => True) (fun _ => .int .i64 r) (fun _ => []) :=
 by
  subst hl6
  refine FC.of (T := TTx) Tryz.call74 Tryz.func74 E E fun w0 => ?_
  unfold M_l_heldLine at h
  refine JS.rgB ttOk 2 [] [2] [(2, .bp 2 0)] (.new 2 38 [.slice a3 x0.1.length c4, .int .i64 x0.2] .nil) ⟨⟨E, V⟩, (Bs E E)⟩ E E (JS.seq (JS.region (JO.reg ttOk 3 [] [] [(6, .v (.slice a3 x0.1.length c4)), (7, .v (I x1))] _ E ⟨(Es E), E⟩ ?_)))
  obtain ⟨y7, hy8, h⟩ := bindO_some h
  refine JO.call E E E E (ok_l_heldIntS x0.1 x1 a3 c4 x0.1.length E _ hy8) E [0] E E fun _ _ => JO.reg ttOk 1 [] [] [(1, .v (I y7))] _ E ⟨⟨E, V⟩, E⟩ (JO.done E (JS.seq (JS.rg0 ttOk 2 [(10, .v (.bool (decide (y7 < 0))))] ⟨⟨E, V⟩, E⟩ E E ?_)))
  refine JS.cond E (fun ht10 => ?_) (fun ht10 => ?_)
  ·
   have h := condT h ht10
   refine JS.rg0 ttOk 1 [(4, .v (I (-1)))] ⟨⟨E, V⟩, E⟩ E E ?_
   cases h
   exact JS.ret ttOk () V E E [] E
  have h := condF h ht10
  refine JS.skip (JS.rg0 ttOk 2 [(4, .v (I y7))] ⟨⟨E, V⟩, E⟩ E E ?_)
  cases h
  exact JS.ret ttOk () V E E [] E

def M_l_heldPieceS_L1 (x0 : List (List Int)) (j26 : Int → Option Int) (k20 : (Int × Int) → Option Int) : (Int × Int) → Option Int := fun (x7, x8) =>
  (bif (decide (x8 < (x0.length : Int))) then
  (guardO (0 ≤ x8 ∧ x8 < (x0.length : Int)) <|
  (bindO (M_l_heldIntS (at' x0 x8) x7) fun (y16 : Int) =>
  (bif (decide (y16 < 0)) then
  some (-1)
  else
  k20 (y16, (W (x8 + 1))))))
  else
  j26 x7)

def M_l_heldPieceS (x0 : List (List Int)) (x1 : Int) : Option Int :=
  (joinO (fun (x25 : Int) =>
  some x25) fun j26 =>
  (fixF (M_l_heldPieceS_L1 x0 j26) FUEL (x1, 0)))

theorem ok_l_heldPieceS (x0 : List (List Int)) (x1 : Int) (a3 : Option Addr) (c4 : Nat) (l5 : Nat) (hl6 : x0.length = l5) (r : Int) (h : M_l_heldPieceS x0 x1 = some r) :
  FC Tryz.prog 152 [.slice a3 l5 c4, .int .i64 x1] [⟨(.sl (.int .i64)), ⟨a3, l5, c4⟩, x0⟩] (fun _ : Unit => True) (fun _ => .int .i64 r) (fun _ => []) :=
 by
  subst hl6
  refine FC.of (T := TTx) Tryz.call152 Tryz.func152 E E fun w0 => ?_
  unfold M_l_heldPieceS at h
  refine JS.rg0 ttOk 1 [] ⟨V, E⟩ E E (JS.seq (JS.rg0 ttOk 1 [(5, .v (I 0))] ⟨⟨E, V⟩, E⟩ E E ?_))
  obtain ⟨j26, hj34, h⟩ := joinO_some h
  refine JS.blockJ (ι := Int) ⟨fun z => j26 z = some r, fun z => [(1, .v (I z))], fun z => .nil, fun z => [], fun z => [], fun z => 0⟩ ?_ ?_
  ·
   refine JS.loop (ι := Nat × Int × Int) ⟨fun z => fixF (M_l_heldPieceS_L1 x0 j26) z.1 (z.2.1, z.2.2) = some r, fun z => [(0, .v (.slice a3 x0.length c4)), (1, .v (I z.2.1)), (5, .v (I z.2.2))], fun z => .nil, fun z => [⟨(.sl (.int .i64)), ⟨a3, x0.length, c4⟩, x0⟩], fun z => [], fun z => z.1⟩ (FUEL, x1, 0) h (Es E) V [0] E [] E ?_
   rintro ⟨n21, x7, x8⟩ h
   obtain ⟨n21, rfl, h⟩ := fixF_some h
   rw [M_l_heldPieceS_L1] at h
   refine JS.seq (JS.rg0 ttOk 4 [(9, .v (.bool (decide (x8 < (x0.length : Int)))))] ⟨⟨E, V⟩, E⟩ E E ?_)
   refine JS.cond E (fun ht33 => ?_) (fun ht33 => ?_)
   ·
    have h := condT h ht33
    refine JS.skip (JS.seq (JS.block (JS.seq (JS.region (JO.know 0 E fun hs31 => ?_)))))
    obtain ⟨g10, h⟩ := guardO_some h
    refine JO.reg ttOk 4 [] [] [(15, .ep ⟨a3, x0.length, c4⟩ (Int.toNat x8 * 1))] _ E ⟨hs31.ix g10, hs31.fa g10, ⟨E, V⟩, E⟩ (JO.openR 0 E (Int.toNat x8) (at' x0 x8) E fun a11 c12 ys13 hl14 hy15 => JO.loadV ttOk E E E E E E 0 E E (Int.toNat x8) 0 (Sl.v ⟨a11, (at' x0 x8).length, c12⟩) ⟨hy15 (ltNat g10), E⟩ E E E (JO.reg ttOk 1 [] [] [(17, .v (I x7))] _ E ⟨⟨E, V⟩, E⟩ ?_))
    obtain ⟨y16, hy17, h⟩ := bindO_some h
    refine JO.call E E E E (ok_l_heldIntS (at' x0 x8) x7 a11 c12 ((at' x0 x8).length) E _ hy17) E [1] E E fun _ _ => JO.reg ttOk 1 [] [] [(1, .v (I y16))] _ E ⟨⟨E, V⟩, E⟩ (JO.done E (JS.rg0 ttOk 2 [(20, .v (.bool (decide (y16 < 0))))] ⟨⟨E, V⟩, E⟩ E E ?_))
    refine JS.cond E (fun ht32 => ?_) (fun ht32 => ?_)
    ·
     have h := condT h ht32
     refine JS.rg0 ttOk 1 [(4, .v (I (-1)))] ⟨⟨E, V⟩, E⟩ E E ?_
     cases h
     exact JS.ret ttOk () V E E [] E
    have h := condF h ht32
    refine JS.skip (JS.endB (JS.re ttOk 3 [(W (x8 + 1))] [] [(5, .v (I (W (x8 + 1))))] _ ⟨⟨V, E⟩, ⟨E, V⟩, E⟩ E E (JS.endL (n21, y16, (W (x8 + 1))) h (Nat.lt_succ_self _) (Es E) V [2] E [] E)))
   have h := condF h ht33
   refine JS.exit E (JS.endJ x7 h ⟨E, V⟩ V [] E [] E)
  rintro x25 h
  subst hj34
  refine JS.rg0 ttOk 2 [(4, .v (I x25))] ⟨⟨E, V⟩, E⟩ E E ?_
  cases h
  exact JS.ret ttOk () V E E [] E

def M_l_heldRing (x0 : List (List Int)) (x1 : Int) : Option Int :=
  (bindO (M_l_heldPieceS x0 x1) fun (y7 : Int) =>
  (bif (decide (y7 < 0)) then
  some (-1)
  else
  some y7))

theorem ok_l_heldRing (x0 : List (List Int)) (x1 : Int) (a3 : Option Addr) (c4 : Nat) (l5 : Nat) (hl6 : x0.length = l5) (r : Int) (h : M_l_heldRing x0 x1 = some r) :
  FC Tryz.prog 75 [.agg #[.slice a3 l5 c4], .int .i64 x1] [⟨(.sl (.int .i64)), ⟨a3, l5, c4⟩, x0⟩] (fun _ : Unit => True) (fun _ => .int .i64 r) (fun _ => []) :=
 by
  subst hl6
  refine FC.of (T := TTx) Tryz.call75 Tryz.func75 E E fun w0 => ?_
  unfold M_l_heldRing at h
  refine JS.rgB ttOk 2 [] [2] [(2, .bp 2 0)] (.new 2 41 [.slice a3 x0.length c4] .nil) ⟨⟨E, V⟩, (Bs E E)⟩ E E (JS.seq (JS.region (JO.reg ttOk 3 [] [] [(6, .v (.slice a3 x0.length c4)), (7, .v (I x1))] _ E ⟨(Es E), E⟩ ?_)))
  obtain ⟨y7, hy8, h⟩ := bindO_some h
  refine JO.call E E E E (ok_l_heldPieceS x0 x1 a3 c4 x0.length E _ hy8) E [0] E E fun _ _ => JO.reg ttOk 1 [] [] [(1, .v (I y7))] _ E ⟨⟨E, V⟩, E⟩ (JO.done E (JS.seq (JS.rg0 ttOk 2 [(10, .v (.bool (decide (y7 < 0))))] ⟨⟨E, V⟩, E⟩ E E ?_)))
  refine JS.cond E (fun ht10 => ?_) (fun ht10 => ?_)
  ·
   have h := condT h ht10
   refine JS.rg0 ttOk 1 [(4, .v (I (-1)))] ⟨⟨E, V⟩, E⟩ E E ?_
   cases h
   exact JS.ret ttOk () V E E [] E
  have h := condF h ht10
  refine JS.skip (JS.rg0 ttOk 2 [(4, .v (I y7))] ⟨⟨E, V⟩, E⟩ E E ?_)
  cases h
  exact JS.ret ttOk () V E E [] E

def M_l_heldLineS_L1 (x0 : List (List Int × Int)) (j29 : Int → Option Int) (k22 : (Int × Int) → Option Int) : (Int × Int) → Option Int := fun (x7, x8) =>
  (bif (decide (x8 < (x0.length : Int))) then
  (guardO (0 ≤ x8 ∧ x8 < (x0.length : Int)) <|
  (bindO (M_l_heldIntS ((at' x0 x8).1) x7) fun (y16 : Int) =>
  (bif (decide (y16 < 0)) then
  some (-1)
  else
  (guardO (0 ≤ x8 ∧ x8 < (x0.length : Int)) <|
  (bif (!(decide ((at' x0 x8).2 = y16))) then
  some (-1)
  else
  k22 ((W (y16 + 1)), (W (x8 + 1))))))))
  else
  j29 x7)

def M_l_heldLineS (x0 : List (List Int × Int)) (x1 : Int) : Option Int :=
  (joinO (fun (x28 : Int) =>
  some x28) fun j29 =>
  (fixF (M_l_heldLineS_L1 x0 j29) FUEL (x1, 0)))

theorem ok_l_heldLineS (x0 : List (List Int × Int)) (x1 : Int) (a3 : Option Addr) (c4 : Nat) (l5 : Nat) (hl6 : x0.length = l5) (r : Int) (h : M_l_heldLineS x0 x1 = some r) :
  FC Tryz.prog 153 [.slice a3 l5 c4, .int .i64 x1] [⟨(.pair (.sl (.int .i64)) (.int .i64)), ⟨a3, l5, c4⟩, x0⟩] (fun _ : Unit => True) (fun _ => .int .i64 r) (fun _ => []) :=
 by
  subst hl6
  refine FC.of (T := TTx) Tryz.call153 Tryz.func153 E E fun w0 => ?_
  unfold M_l_heldLineS at h
  refine JS.rg0 ttOk 1 [] ⟨V, E⟩ E E (JS.seq (JS.rg0 ttOk 1 [(5, .v (I 0))] ⟨⟨E, V⟩, E⟩ E E ?_))
  obtain ⟨j29, hj39, h⟩ := joinO_some h
  refine JS.blockJ (ι := Int) ⟨fun z => j29 z = some r, fun z => [(1, .v (I z))], fun z => .nil, fun z => [], fun z => [], fun z => 0⟩ ?_ ?_
  ·
   refine JS.loop (ι := Nat × Int × Int) ⟨fun z => fixF (M_l_heldLineS_L1 x0 j29) z.1 (z.2.1, z.2.2) = some r, fun z => [(0, .v (.slice a3 x0.length c4)), (1, .v (I z.2.1)), (5, .v (I z.2.2))], fun z => .nil, fun z => [⟨(.pair (.sl (.int .i64)) (.int .i64)), ⟨a3, x0.length, c4⟩, x0⟩], fun z => [], fun z => z.1⟩ (FUEL, x1, 0) h (Es E) V [0] E [] E ?_
   rintro ⟨n23, x7, x8⟩ h
   obtain ⟨n23, rfl, h⟩ := fixF_some h
   rw [M_l_heldLineS_L1] at h
   refine JS.seq (JS.rg0 ttOk 4 [(9, .v (.bool (decide (x8 < (x0.length : Int)))))] ⟨⟨E, V⟩, E⟩ E E ?_)
   refine JS.cond E (fun ht38 => ?_) (fun ht38 => ?_)
   ·
    have h := condT h ht38
    refine JS.skip (JS.seq (JS.block (JS.seq (JS.region (JO.know 0 E fun hs35 => ?_)))))
    obtain ⟨g10, h⟩ := guardO_some h
    refine JO.reg ttOk 4 [] [] [(15, .ep ⟨a3, x0.length, c4⟩ (Int.toNat x8 * 2))] _ E ⟨hs35.ix g10, hs35.fa g10, ⟨E, V⟩, E⟩ (JO.openR 0 E (Int.toNat x8) (at' x0 x8) E fun a11 c12 ys13 hl14 hy15 => JO.loadV ttOk E E E E E E 0 E E (Int.toNat x8) 0 ((Sl.v ⟨a11, ((at' x0 x8).1).length, c12⟩), (at' x0 x8).2) ⟨hy15 (ltNat g10), E⟩ E E E (JO.reg ttOk 1 [] [] [(17, .v (I x7))] _ E ⟨⟨E, V⟩, E⟩ ?_))
    obtain ⟨y16, hy17, h⟩ := bindO_some h
    refine JO.call E E E E (ok_l_heldIntS ((at' x0 x8).1) x7 a11 c12 (((at' x0 x8).1).length) E _ hy17) E [1] E E fun _ _ => JO.reg ttOk 1 [] [] [(1, .v (I y16))] _ E ⟨⟨E, V⟩, E⟩ (JO.done E (JS.seq (JS.rg0 ttOk 2 [(20, .v (.bool (decide (y16 < 0))))] ⟨⟨E, V⟩, E⟩ E E ?_)))
    refine JS.cond E (fun ht37 => ?_) (fun ht37 => ?_)
    ·
     have h := condT h ht37
     refine JS.rg0 ttOk 1 [(4, .v (I (-1)))] ⟨⟨E, V⟩, E⟩ E E ?_
     cases h
     exact JS.ret ttOk () V E E [] E
    have h := condF h ht37
    refine JS.skip (JS.seq (JS.seq (JS.region ?_)))
    obtain ⟨g18, h⟩ := guardO_some h
    refine JO.reg ttOk 4 [] [] [(24, .ep ⟨a3, x0.length, c4⟩ (Int.toNat x8 * 2 + 1))] _ E ⟨hs35.ix g18, hs35.fa g18, ⟨E, V⟩, E⟩ (JO.load ttOk E E E E E E E 2 E E (Int.toNat x8) 1 (at' x0 x8) ⟨at_some g18, E⟩ E E (JO.reg ttOk 2 [] [] [(27, .v (.bool (!(decide ((at' x0 x8).2 = y16)))))] _ E ⟨⟨E, V⟩, E⟩ (JO.done E ?_)))
    refine JS.cond E (fun ht36 => ?_) (fun ht36 => ?_)
    ·
     have h := condT h ht36
     refine JS.rg0 ttOk 1 [(4, .v (I (-1)))] ⟨⟨E, V⟩, E⟩ E E ?_
     cases h
     exact JS.ret ttOk () V E E [] E
    have h := condF h ht36
    refine JS.skip (JS.re ttOk 3 [(W (y16 + 1))] [] [(1, .v (I (W (y16 + 1))))] _ ⟨⟨V, E⟩, ⟨E, V⟩, E⟩ E E (JS.endB (JS.re ttOk 3 [(W (x8 + 1))] [] [(5, .v (I (W (x8 + 1))))] _ ⟨⟨V, E⟩, ⟨E, V⟩, E⟩ E E (JS.endL (n23, (W (y16 + 1)), (W (x8 + 1))) h (Nat.lt_succ_self _) (Es E) V [2] E [] E))))
   have h := condF h ht38
   refine JS.exit E (JS.endJ x7 h ⟨E, V⟩ V [] E [] E)
  rintro x28 h
  subst hj39
  refine JS.rg0 ttOk 2 [(4, .v (I x28))] ⟨⟨E, V⟩, E⟩ E E ?_
  cases h
  exact JS.ret ttOk () V E E [] E

def M_l_heldUndo (x0 : List (List Int × Int)) (x1 : Int) : Option Int :=
  (bindO (M_l_heldLineS x0 x1) fun (y7 : Int) =>
  (bif (decide (y7 < 0)) then
  some (-1)
  else
  some y7))

theorem ok_l_heldUndo (x0 : List (List Int × Int)) (x1 : Int) (a3 : Option Addr) (c4 : Nat) (l5 : Nat) (hl6 : x0.length = l5) (r : Int) (h : M_l_heldUndo x0 x1 = some r) :
  FC Tryz.prog 76 [.agg #[.slice a3 l5 c4], .int .i64 x1] [⟨(.pair (.sl (.int .i64)) (.int .i64)), ⟨a3, l5, c4⟩, x0⟩] (fun _ : Unit => True) (fun _ => .int .i64 r) (fun _ => []) :=
 by
  subst hl6
  refine FC.of (T := TTx) Tryz.call76 Tryz.func76 E E fun w0 => ?_
  unfold M_l_heldUndo at h
  refine JS.rgB ttOk 2 [] [2] [(2, .bp 2 0)] (.new 2 44 [.slice a3 x0.length c4] .nil) ⟨⟨E, V⟩, (Bs E E)⟩ E E (JS.seq (JS.region (JO.reg ttOk 3 [] [] [(6, .v (.slice a3 x0.length c4)), (7, .v (I x1))] _ E ⟨(Es E), E⟩ ?_)))
  obtain ⟨y7, hy8, h⟩ := bindO_some h
  refine JO.call E E E E (ok_l_heldLineS x0 x1 a3 c4 x0.length E _ hy8) E [0] E E fun _ _ => JO.reg ttOk 1 [] [] [(1, .v (I y7))] _ E ⟨⟨E, V⟩, E⟩ (JO.done E (JS.seq (JS.rg0 ttOk 2 [(10, .v (.bool (decide (y7 < 0))))] ⟨⟨E, V⟩, E⟩ E E ?_)))
  refine JS.cond E (fun ht10 => ?_) (fun ht10 => ?_)
  ·
   have h := condT h ht10
   refine JS.rg0 ttOk 1 [(4, .v (I (-1)))] ⟨⟨E, V⟩, E⟩ E E ?_
   cases h
   exact JS.ret ttOk () V E E [] E
  have h := condF h ht10
  refine JS.skip (JS.rg0 ttOk 2 [(4, .v (I y7))] ⟨⟨E, V⟩, E⟩ E E ?_)
  cases h
  exact JS.ret ttOk () V E E [] E

def M_l_heldEd (x0 : EdQ) (x1 : Int) : Option Int :=
  (bindO (M_l_heldLine x0.2.2.1 x1) fun (y27 : Int) =>
  (bif (decide (y27 < 0)) then
  some (-1)
  else
  (bindO (M_l_heldRing x0.2.2.2.2.2.2.2.2.2.2.1 y27) fun (y29 : Int) =>
  (bif (decide (y29 < 0)) then
  some (-1)
  else
  (bindO (M_l_heldUndo x0.2.2.2.2.2.2.2.2.2.2.2.1 y29) fun (y31 : Int) =>
  (bif (decide (y31 < 0)) then
  some (-1)
  else
  (bindO (M_l_heldLine x0.2.2.2.2.2.2.2.2.2.2.2.2.2.1 y31) fun (y33 : Int) =>
  (bif (decide (y33 < 0)) then
  some (-1)
  else
  (bindO (M_l_heldIntS x0.2.2.2.2.2.2.2.2.2.2.2.2.2.2.1 y33) fun (y35 : Int) =>
  (bif (decide (y35 < 0)) then
  some (-1)
  else
  (bindO (M_l_heldLine x0.2.2.2.2.2.2.2.2.2.2.2.2.2.2.2.2 y35) fun (y37 : Int) =>
  (bif (decide (y37 < 0)) then
  some (-1)
  else
  some y37))))))))))))

theorem ok_l_heldEd (x0 : EdQ) (x1 : Int) (a3 : Option Addr) (c4 : Nat) (l5 : Nat) (hl6 : x0.2.2.1.1.length = l5) (a7 : Option Addr) (c8 : Nat) (l9 : Nat) (hl10 : (Q8 x0).2.2.1.length = l9) (a11 : Option Addr) (c12 : Nat) (l13 : Nat) (hl14 : (Q8 x0).2.2.2.1.length = l13) (a15 : Option Addr) (c16 : Nat) (l17 : Nat) (hl18 : (Q12 x0).2.1.1.length = l17) (a19 : Option Addr) (c20 : Nat) (l21 : Nat) (hl22 : (Q12 x0).2.2.1.length = l21) (a23 : Option Addr) (c24 : Nat) (l25 : Nat) (hl26 : (Q16 x0).1.length = l25) (r : Int) (h : M_l_heldEd x0 x1 = some r) :
  FC Tryz.prog 23 [.agg #[.bool x0.1, .int .i64 x0.2.1, .slice a3 l5 c4, .int .i64 x0.2.2.1.2, .int .i64 x0.2.2.2.1, .int .i64 (Q4 x0).1, .int .i64 (Q4 x0).2.1, .int .i64 (Q4 x0).2.2.1, .int .i64 (Q4 x0).2.2.2.1, .int .i64 (Q8 x0).1, .int .i64 (Q8 x0).2.1, .slice a7 l9 c8, .slice a11 l13 c12, .int .i64 (Q12 x0).1, .slice a15 l17 c16, .int .i64 (Q12 x0).2.1.2, .slice a19 l21 c20, .int .i64 (Q12 x0).2.2.2.1, .slice a23 l25 c24, .int .i64 (Q16 x0).2], .int .i64 x1] [⟨(.int .i64), ⟨a3, l5, c4⟩, x0.2.2.1.1⟩, ⟨(.sl (.int .i64)), ⟨a7, l9, c8⟩, (Q8 x0).2.2.1⟩, ⟨(.pair (.sl (.int .i64)) (.int .i64)), ⟨a11, l13, c12⟩, (Q8 x0).2.2.2.1⟩, ⟨(.int .i64), ⟨a15, l17, c16⟩, (Q12 x0).2.1.1⟩, ⟨(.int .i64), ⟨a19, l21, c20⟩, (Q12 x0).2.2.1⟩, ⟨(.int .i64), ⟨a23, l25, c24⟩, (Q16 x0).1⟩] (fun _ : Unit => True) (fun _ => .int .i64 r) (fun _ => []) :=
 by
  subst hl6
  subst hl10
  subst hl14
  subst hl18
  subst hl22
  subst hl26
  refine FC.of (T := TTx) Tryz.call23 Tryz.func23 E E fun w0 => ?_
  unfold M_l_heldEd at h
  refine JS.rgB ttOk 2 [] [7] [(2, .bp 7 0)] (.new 7 46 (cl46 x0 a3 c4 a7 c8 a11 c12 a15 c16 a19 c20 a23 c24) .nil) ⟨⟨E, V⟩, (Bs E E)⟩ E E (JS.seq (JS.region (JO.reg ttOk 3 [] [] [(6, .v (.agg #[.slice a3 x0.2.2.1.1.length c4, .int .i64 x0.2.2.1.2])), (7, .v (I x1))] _ E ⟨(Es E), E⟩ ?_)))
  obtain ⟨y27, hy28, h⟩ := bindO_some h
  refine JO.call E E E E (ok_l_heldLine x0.2.2.1 x1 a3 c4 x0.2.2.1.1.length E _ hy28) E [0] E E fun _ _ => JO.reg ttOk 1 [] [] [(1, .v (I y27))] _ E ⟨⟨E, V⟩, E⟩ (JO.done E (JS.seq (JS.rg0 ttOk 2 [(10, .v (.bool (decide (y27 < 0))))] ⟨⟨E, V⟩, E⟩ E E ?_)))
  refine JS.cond E (fun ht50 => ?_) (fun ht50 => ?_)
  ·
   have h := condT h ht50
   refine JS.rg0 ttOk 1 [(4, .v (I (-1)))] ⟨⟨E, V⟩, E⟩ E E ?_
   cases h
   exact JS.ret ttOk () V E E [] E
  have h := condF h ht50
  refine JS.skip (JS.seq (JS.region (JO.reg ttOk 3 [] [] [(12, .v (.agg #[.slice a7 (Q8 x0).2.2.1.length c8])), (13, .v (I y27))] _ E ⟨(Es E), E⟩ ?_)))
  obtain ⟨y29, hy30, h⟩ := bindO_some h
  refine JO.call E E E E (ok_l_heldRing (Q8 x0).2.2.1 y27 a7 c8 (Q8 x0).2.2.1.length E _ hy30) E [1] E E fun _ _ => JO.reg ttOk 1 [] [] [(1, .v (I y29))] _ E ⟨⟨E, V⟩, E⟩ (JO.done E (JS.seq (JS.rg0 ttOk 2 [(16, .v (.bool (decide (y29 < 0))))] ⟨⟨E, V⟩, E⟩ E E ?_)))
  refine JS.cond E (fun ht49 => ?_) (fun ht49 => ?_)
  ·
   have h := condT h ht49
   refine JS.rg0 ttOk 1 [(4, .v (I (-1)))] ⟨⟨E, V⟩, E⟩ E E ?_
   cases h
   exact JS.ret ttOk () V E E [] E
  have h := condF h ht49
  refine JS.skip (JS.seq (JS.region (JO.reg ttOk 3 [] [] [(18, .v (.agg #[.slice a11 (Q8 x0).2.2.2.1.length c12])), (19, .v (I y29))] _ E ⟨(Es E), E⟩ ?_)))
  obtain ⟨y31, hy32, h⟩ := bindO_some h
  refine JO.call E E E E (ok_l_heldUndo (Q8 x0).2.2.2.1 y29 a11 c12 (Q8 x0).2.2.2.1.length E _ hy32) E [2] E E fun _ _ => JO.reg ttOk 1 [] [] [(1, .v (I y31))] _ E ⟨⟨E, V⟩, E⟩ (JO.done E (JS.seq (JS.rg0 ttOk 2 [(22, .v (.bool (decide (y31 < 0))))] ⟨⟨E, V⟩, E⟩ E E ?_)))
  refine JS.cond E (fun ht48 => ?_) (fun ht48 => ?_)
  ·
   have h := condT h ht48
   refine JS.rg0 ttOk 1 [(4, .v (I (-1)))] ⟨⟨E, V⟩, E⟩ E E ?_
   cases h
   exact JS.ret ttOk () V E E [] E
  have h := condF h ht48
  refine JS.skip (JS.seq (JS.region (JO.reg ttOk 3 [] [] [(24, .v (.agg #[.slice a15 (Q12 x0).2.1.1.length c16, .int .i64 (Q12 x0).2.1.2])), (25, .v (I y31))] _ E ⟨(Es E), E⟩ ?_)))
  obtain ⟨y33, hy34, h⟩ := bindO_some h
  refine JO.call E E E E (ok_l_heldLine (Q12 x0).2.1 y31 a15 c16 (Q12 x0).2.1.1.length E _ hy34) E [3] E E fun _ _ => JO.reg ttOk 1 [] [] [(1, .v (I y33))] _ E ⟨⟨E, V⟩, E⟩ (JO.done E (JS.seq (JS.rg0 ttOk 2 [(28, .v (.bool (decide (y33 < 0))))] ⟨⟨E, V⟩, E⟩ E E ?_)))
  refine JS.cond E (fun ht47 => ?_) (fun ht47 => ?_)
  ·
   have h := condT h ht47
   refine JS.rg0 ttOk 1 [(4, .v (I (-1)))] ⟨⟨E, V⟩, E⟩ E E ?_
   cases h
   exact JS.ret ttOk () V E E [] E
  have h := condF h ht47
  refine JS.skip (JS.seq (JS.region (JO.reg ttOk 3 [] [] [(30, .v (.slice a19 (Q12 x0).2.2.1.length c20)), (31, .v (I y33))] _ E ⟨(Es E), E⟩ ?_)))
  obtain ⟨y35, hy36, h⟩ := bindO_some h
  refine JO.call E E E E (ok_l_heldIntS (Q12 x0).2.2.1 y33 a19 c20 (Q12 x0).2.2.1.length E _ hy36) E [4] E E fun _ _ => JO.reg ttOk 1 [] [] [(1, .v (I y35))] _ E ⟨⟨E, V⟩, E⟩ (JO.done E (JS.seq (JS.rg0 ttOk 2 [(34, .v (.bool (decide (y35 < 0))))] ⟨⟨E, V⟩, E⟩ E E ?_)))
  refine JS.cond E (fun ht46 => ?_) (fun ht46 => ?_)
  ·
   have h := condT h ht46
   refine JS.rg0 ttOk 1 [(4, .v (I (-1)))] ⟨⟨E, V⟩, E⟩ E E ?_
   cases h
   exact JS.ret ttOk () V E E [] E
  have h := condF h ht46
  refine JS.skip (JS.seq (JS.region (JO.reg ttOk 3 [] [] [(36, .v (.agg #[.slice a23 (Q16 x0).1.length c24, .int .i64 (Q16 x0).2])), (37, .v (I y35))] _ E ⟨(Es E), E⟩ ?_)))
  obtain ⟨y37, hy38, h⟩ := bindO_some h
  refine JO.call E E E E (ok_l_heldLine (Q16 x0) y35 a23 c24 (Q16 x0).1.length E _ hy38) E [5] E E fun _ _ => JO.reg ttOk 1 [] [] [(1, .v (I y37))] _ E ⟨⟨E, V⟩, E⟩ (JO.done E (JS.seq (JS.rg0 ttOk 2 [(40, .v (.bool (decide (y37 < 0))))] ⟨⟨E, V⟩, E⟩ E E ?_)))
  refine JS.cond E (fun ht45 => ?_) (fun ht45 => ?_)
  ·
   have h := condT h ht45
   refine JS.rg0 ttOk 1 [(4, .v (I (-1)))] ⟨⟨E, V⟩, E⟩ E E ?_
   cases h
   exact JS.ret ttOk () V E E [] E
  have h := condF h ht45
  refine JS.skip (JS.rg0 ttOk 2 [(4, .v (I y37))] ⟨⟨E, V⟩, E⟩ E E ?_)
  cases h
  exact JS.ret ttOk () V E E [] E

end
end Go.Eng
