/- The walks of the functions that FnExactPlainKey reaches: what each computes, as a plain function (M_..), and that the model computes it (ok_..). Condition of each: that the plain function answers. -/
import Derived.Test.YtlpgcohnjhomgaaGreatFnExactPlainKeyWalkC
set_option linter.unusedVariables false
set_option linter.unusedSimpArgs false
namespace Go.Eng
open Go Go.Proofs
noncomputable section

def M_l_FnExactPlainKey (x0 : EdQ) (x1 : Int × List (List UInt8)) (x2 : Int × Int) : Option Bool :=
  (bindO (M_l_szEd x0 1048576) fun (y32 : Int) =>
  (bif (decide (y32 < 0)) then
  some true
  else
  (bindO (M_l_szHist x1 y32) fun (y34 : Int) =>
  (bif (decide (y34 < 0)) then
  some true
  else
  (joinO (fun ((x73, x74, x75) : Int × Bool × EdQ) =>
  (bindO (M_l_toEd x0) fun (y89 : EdQ) =>
  (bindO (M_l_toHist x1) fun (y103 : Int × List (List UInt8)) =>
  (joinO (fun ((x126, x127, x128) : Int × Bool × EdQ) =>
  (bindO (M_l_eqEd x128 x75) fun (y142 : Bool) =>
  (bif (bif (bif (!y142) then true else (!(decide (x126 = x73)))) then true else (!(x127 == x74))) then
  some false
  else
  (bindO (M_l_toEd x0) fun (y144 : EdQ) =>
  (bindO (M_l_eqEd y89 y144) fun (y158 : Bool) =>
  (bif (!y158) then
  some false
  else
  (bindO (M_l_toHist x1) fun (y161 : Int × List (List UInt8)) =>
  (bindO (M_l_eqHist y103 y161) fun (y165 : Bool) =>
  (bif (!y165) then
  some false
  else
  (bindO (M_l_markEd y89 1) fun (y168, y169, y170, y171, y172, y173, y174) =>
  (bindO (M_l_markHist y103 y168) fun (y182, y183) =>
  (callO ((decide (y182 < 0)) = false) (M_l_eqEd x128 x75) false fun (y186 : Bool) =>
  (bif (bif (bif (bif (decide (y182 < 0)) then true else (!y186)) then true else (!(decide (x126 = x73)))) then true else (!(x127 == x74))) then
  some false
  else
  (bindO (M_l_markEd x128 1) fun (y189, y190, y191, y192, y193, y194, y195) =>
  (bindO (M_l_heldEd (x128.1, x128.2.1, (y190, x128.2.2.1.2), x128.2.2.2.1, x128.2.2.2.2.1, x128.2.2.2.2.2.1, x128.2.2.2.2.2.2.1, x128.2.2.2.2.2.2.2.1, x128.2.2.2.2.2.2.2.2.1, x128.2.2.2.2.2.2.2.2.2.1, y191, y192, x128.2.2.2.2.2.2.2.2.2.2.2.2.1, (y193, x128.2.2.2.2.2.2.2.2.2.2.2.2.2.1.2), y194, x128.2.2.2.2.2.2.2.2.2.2.2.2.2.2.2.1, (y195, x128.2.2.2.2.2.2.2.2.2.2.2.2.2.2.2.2.2)) 1) fun (y203 : Int) =>
  (bif (decide (y203 < 0)) then
  some false
  else
  (bif (!(decide (y203 = y189))) then
  some false
  else
  (joinO (fun ((x242, x243, x244) : Int × Bool × EdQ) =>
  (bindO (M_l_eqEd x244 x75) fun (y258 : Bool) =>
  (bif (bif (bif (!y258) then true else (!(decide (x242 = x73)))) then true else (!(x243 == x74))) then
  some false
  else
  (bindO (M_l_heldEd (x128.1, x128.2.1, (y190, x128.2.2.1.2), x128.2.2.2.1, x128.2.2.2.2.1, x128.2.2.2.2.2.1, x128.2.2.2.2.2.2.1, x128.2.2.2.2.2.2.2.1, x128.2.2.2.2.2.2.2.2.1, x128.2.2.2.2.2.2.2.2.2.1, y191, y192, x128.2.2.2.2.2.2.2.2.2.2.2.2.1, (y193, x128.2.2.2.2.2.2.2.2.2.2.2.2.2.1.2), y194, x128.2.2.2.2.2.2.2.2.2.2.2.2.2.2.2.1, (y195, x128.2.2.2.2.2.2.2.2.2.2.2.2.2.2.2.2.2)) 1) fun (y260 : Int) =>
  (bif (decide (y260 < 0)) then
  some false
  else
  (bif (!(decide (y260 = y189))) then
  some false
  else
  some true)))))) fun j257 =>
  (bindO (M_l_toEd x0) fun (y205 : EdQ) =>
  (bindO (M_l_toHist x1) fun (y219 : Int × List (List UInt8)) =>
  (bindO (M_l_toKey x2) fun (y223 : Int × Int) =>
  (bindO (M_i_PlainKey y205 y219 y223) fun (y225, y226, y227) =>
  j257 (y226, y227, y225))))))))))))))))))))))) fun j141 =>
  (bindO (M_l_toKey x2) fun (y107 : Int × Int) =>
  (bindO (M_i_PlainKey y89 y103 y107) fun (y109, y110, y111) =>
  j141 (y110, y111, y109))))))) fun j88 =>
  (bindO (M_l_toEd x0) fun (y36 : EdQ) =>
  (bindO (M_l_toHist x1) fun (y50 : Int × List (List UInt8)) =>
  (bindO (M_l_toKey x2) fun (y54 : Int × Int) =>
  (bindO (M_s_PlainKey y36 y50 y54) fun (y56, y57, y58) =>
  j88 (y57, y58, y56))))))))))

set_option maxHeartbeats 4000000 in
theorem ok_l_FnExactPlainKey (x0 : EdQ) (x1 : Int × List (List UInt8)) (x2 : Int × Int) (a4 : Option Addr) (c5 : Nat) (l6 : Nat) (hl7 : x0.2.2.1.1.length = l6) (a8 : Option Addr) (c9 : Nat) (l10 : Nat) (hl11 : (Q8 x0).2.2.1.length = l10) (a12 : Option Addr) (c13 : Nat) (l14 : Nat) (hl15 : (Q8 x0).2.2.2.1.length = l14) (a16 : Option Addr) (c17 : Nat) (l18 : Nat) (hl19 : (Q12 x0).2.1.1.length = l18) (a20 : Option Addr) (c21 : Nat) (l22 : Nat) (hl23 : (Q12 x0).2.2.1.length = l22) (a24 : Option Addr) (c25 : Nat) (l26 : Nat) (hl27 : (Q16 x0).1.length = l26) (a28 : Option Addr) (c29 : Nat) (l30 : Nat) (hl31 : x1.2.length = l30) (r : Bool) (h : M_l_FnExactPlainKey x0 x1 x2 = some r) :
  FC Tryz.prog 5 [.agg #[.bool x0.1, .int .i64 x0.2.1, .slice a4 l6 c5, .int .i64 x0.2.2.1.2, .int .i64 x0.2.2.2.1, .int .i64 (Q4 x0).1, .int .i64 (Q4 x0).2.1, .int .i64 (Q4 x0).2.2.1, .int .i64 (Q4 x0).2.2.2.1, .int .i64 (Q8 x0).1, .int .i64 (Q8 x0).2.1, .slice a8 l10 c9, .slice a12 l14 c13, .int .i64 (Q12 x0).1, .slice a16 l18 c17, .int .i64 (Q12 x0).2.1.2, .slice a20 l22 c21, .int .i64 (Q12 x0).2.2.2.1, .slice a24 l26 c25, .int .i64 (Q16 x0).2], .agg #[.int .i64 x1.1, .slice a28 l30 c29], .agg #[.int .i64 x2.1, .int .i64 x2.2]] [⟨(.int .i64), ⟨a4, l6, c5⟩, x0.2.2.1.1⟩, ⟨(.sl (.int .i64)), ⟨a8, l10, c9⟩, (Q8 x0).2.2.1⟩, ⟨(.pair (.sl (.int .i64)) (.int .i64)), ⟨a12, l14, c13⟩, (Q8 x0).2.2.2.1⟩, ⟨(.int .i64), ⟨a16, l18, c17⟩, (Q12 x0).2.1.1⟩, ⟨(.int .i64), ⟨a20, l22, c21⟩, (Q12 x0).2.2.1⟩, ⟨(.int .i64), ⟨a24, l26, c25⟩, (Q16 x0).1⟩, ⟨.str, ⟨a28, l30, c29⟩, x1.2⟩] (fun _ : Unit => True) (fun _ => .bool r) (fun _ => []) :=
 by
  subst hl7
  subst hl11
  subst hl15
  subst hl19
  subst hl23
  subst hl27
  subst hl31
  refine FC.of (T := TTx) Tryz.call5 Tryz.func5 E E fun w0 => ?_
  unfold M_l_FnExactPlainKey at h
  refine JS.rgB ttOk 4 [] [8, 9, 10] [(3, .bp 8 0), (4, .bp 9 0), (5, .bp 10 0)] (.new 8 32 (cl32 x0 a4 c5 a8 c9 a12 c13 a16 c17 a20 c21 a24 c25) (.new 9 35 [.int .i64 x1.1, .slice a28 x1.2.length c29] (.new 10 61 [.int .i64 x2.1, .int .i64 x2.2] .nil))) ⟨(Es E), (Bs E E)⟩ E E (JS.rg0 ttOk 1 [(7, .v (I 1048576))] ⟨⟨E, V⟩, E⟩ E E (JS.seq (JS.region (JO.reg ttOk 2 [] [] [(22, .v (.agg (cl32 x0 a4 c5 a8 c9 a12 c13 a16 c17 a20 c21 a24 c25).toArray)), (23, .v (I 1048576))] _ E ⟨(Es E), E⟩ ?_))))
  obtain ⟨y32, hy33, h⟩ := bindO_some h
  refine JO.call E E E E (ok_l_szEd x0 1048576 a4 c5 x0.2.2.1.1.length E a8 c9 (Q8 x0).2.2.1.length E a12 c13 (Q8 x0).2.2.2.1.length E a16 c17 (Q12 x0).2.1.1.length E a20 c21 (Q12 x0).2.2.1.length E a24 c25 (Q16 x0).1.length E _ hy33) E [0, 1, 2, 3, 4, 5] E E fun _ _ => JO.reg ttOk 1 [] [] [(7, .v (I y32))] _ E ⟨⟨E, V⟩, E⟩ (JO.done E (JS.seq (JS.rg0 ttOk 2 [(26, .v (.bool (decide (y32 < 0))))] ⟨⟨E, V⟩, E⟩ E E ?_)))
  refine JS.cond E (fun ht290 => ?_) (fun ht290 => ?_)
  ·
   have h := condT h ht290
   refine JS.rg0 ttOk 1 [(6, .v (.bool true))] ⟨⟨E, V⟩, E⟩ E E ?_
   cases h
   exact JS.ret ttOk () V E E [] E
  have h := condF h ht290
  refine JS.skip (JS.seq (JS.region (JO.reg ttOk 2 [] [] [(27, .v (.agg #[.int .i64 x1.1, .slice a28 x1.2.length c29])), (28, .v (I y32))] _ E ⟨(Es E), E⟩ ?_)))
  obtain ⟨y34, hy35, h⟩ := bindO_some h
  refine JO.call E E E E (ok_l_szHist x1 y32 a28 c29 x1.2.length E _ hy35) E [6] E E fun _ _ => JO.reg ttOk 1 [] [] [(7, .v (I y34))] _ E ⟨⟨E, V⟩, E⟩ (JO.done E (JS.seq (JS.rg0 ttOk 2 [(31, .v (.bool (decide (y34 < 0))))] ⟨⟨E, V⟩, E⟩ E E ?_)))
  refine JS.cond E (fun ht289 => ?_) (fun ht289 => ?_)
  ·
   have h := condT h ht289
   refine JS.rg0 ttOk 1 [(6, .v (.bool true))] ⟨⟨E, V⟩, E⟩ E E ?_
   cases h
   exact JS.ret ttOk () V E E [] E
  have h := condF h ht289
  refine JS.skip (JS.seq ?_)
  obtain ⟨j88, hj288, h⟩ := joinO_some h
  refine JS.cutJ (ι := Int × Bool × EdQ × Option Addr × Nat × Option Addr × Nat × Option Addr × Nat × Option Addr × Nat × Option Addr × Nat × Option Addr × Nat) ⟨fun z => j88 (z.1, z.2.1, z.2.2.1) = some r, fun z => [(3, .bp 8 0), (4, .bp 9 0), (5, .bp 10 0), (8, .bp 64 0), (9, .v (I z.1)), (10, .v (.bool z.2.1))], fun z => (.new 8 32 (cl32 x0 a4 c5 a8 c9 a12 c13 a16 c17 a20 c21 a24 c25) (.new 9 35 [.int .i64 x1.1, .slice a28 x1.2.length c29] (.new 10 61 [.int .i64 x2.1, .int .i64 x2.2] (.new 64 46 (cl46 z.2.2.1 z.2.2.2.1 (Q4 z).1 (Q4 z).2.1 (Q4 z).2.2.1 (Q4 z).2.2.2.1 (Q8 z).1 (Q8 z).2.1 (Q8 z).2.2.1 (Q8 z).2.2.2.1 (Q12 z).1 (Q12 z).2.1 (Q12 z).2.2) .nil)))), fun z => (fl32 x0 a4 c5 a8 c9 a12 c13 a16 c17 a20 c21 a24 c25 [⟨.str, ⟨a28, x1.2.length, c29⟩, x1.2⟩]), fun z => (fl32 z.2.2.1 z.2.2.2.1 (Q4 z).1 (Q4 z).2.1 (Q4 z).2.2.1 (Q4 z).2.2.2.1 (Q8 z).1 (Q8 z).2.1 (Q8 z).2.2.1 (Q8 z).2.2.2.1 (Q12 z).1 (Q12 z).2.1 (Q12 z).2.2 []), fun z => 0⟩ ?_ ?_
  ·
   obtain ⟨y36, hy37, h⟩ := bindO_some h
   obtain ⟨y50, hy51, h⟩ := bindO_some h
   obtain ⟨y54, hy55, h⟩ := bindO_some h
   obtain ⟨⟨y56, y57, y58⟩, hy59, h⟩ := bindO_some h
   refine JS.regionA E (.new 8 32 (cl32 x0 a4 c5 a8 c9 a12 c13 a16 c17 a20 c21 a24 c25) (.new 9 35 [.int .i64 x1.1, .slice a28 x1.2.length c29] (.new 10 61 [.int .i64 x2.1, .int .i64 x2.2] .nil))) [] [5, 6, 7, 8, 9, 10, 12, 13, 14] ⟨E, E, E, E, E, E, E, E, E, E, E, E, V⟩ E (fun be72 => ?_)
   refine JA.reg ttOk panic_cx true 12 [0, 2, 4] E (by kernel_rfl) [] [(33, .v (.agg (cl32 x0 a4 c5 a8 c9 a12 c13 a16 c17 a20 c21 a24 c25).toArray)), (35, .v (.agg #[.int .i64 x1.1, .slice a28 x1.2.length c29])), (37, .v (.agg #[.int .i64 x2.1, .int .i64 x2.2]))] ⟨E, E, E, E, E, E, E, E, E, E, E, E, V⟩ [] E E (Es E) ?_
   refine JA.all (rs := [1, 11]) (by kernel_rfl) E (List.forall_mem_cons.2 ⟨?_, List.forall_mem_cons.2 ⟨?_, (fun _ hx => absurd hx List.not_mem_nil)⟩⟩)
   ·
    refine JK.call E E E E (ok_l_toEd x0 a4 c5 x0.2.2.1.1.length E a8 c9 (Q8 x0).2.2.1.length E a12 c13 (Q8 x0).2.2.2.1.length E a16 c17 (Q12 x0).2.1.1.length E a20 c21 (Q12 x0).2.2.1.length E a24 c25 (Q16 x0).1.length E _ hy37) E [0, 1, 2, 3, 4, 5] E E ?_
    rintro ⟨a38, c39, a40, c41, a42, c43, a44, c45, a46, c47, a48, c49⟩ -
    refine JA.next ⟨E, E, E, E, E, E, E, E, E, E, E, E, V⟩ [] E ?_
    refine JA.all (rs := [3, 11]) (by kernel_rfl) E (List.forall_mem_cons.2 ⟨?_, List.forall_mem_cons.2 ⟨?_, (fun _ hx => absurd hx List.not_mem_nil)⟩⟩)
    ·
     refine JK.call E E E E (ok_l_toHist x1 a28 c29 x1.2.length E _ hy51) E [6] E E ?_
     rintro ⟨a52, c53⟩ -
     refine JA.next ⟨E, E, E, E, E, E, E, E, E, E, E, E, V⟩ [] E ?_
     refine JA.all (rs := [5, 11]) (by kernel_rfl) E (List.forall_mem_cons.2 ⟨?_, List.forall_mem_cons.2 ⟨?_, (fun _ hx => absurd hx List.not_mem_nil)⟩⟩)
     ·
      refine JK.call E E E E (ok_l_toKey x2 _ hy55) E [] E E fun _ _ => JA.nextL E ?_
      refine JA.all (rs := [6, 11]) (by kernel_rfl) E (List.forall_mem_cons.2 ⟨?_, List.forall_mem_cons.2 ⟨?_, (fun _ hx => absurd hx List.not_mem_nil)⟩⟩)
      ·
       refine JK.call E E E E (ok_s_PlainKey y36 y50 y54 a38 c39 y36.2.2.1.1.length E a40 c41 (Q8 y36).2.2.1.length E a42 c43 (Q8 y36).2.2.2.1.length E a44 c45 (Q12 y36).2.1.1.length E a46 c47 (Q12 y36).2.2.1.length E a48 c49 (Q16 y36).1.length E a52 c53 y50.2.length E _ hy59) E [8, 9, 10, 11, 12, 13, 7] E E ?_
       rintro ⟨a60, c61, a62, c63, a64, c65, a66, c67, a68, c69, a70, c71⟩ -
       refine JA.nextL E (JA.regL ttOk panic_cx 4 [7, 8, 9, 10] E (by kernel_rfl) [] [(40, .v (.agg (cl46 y56 a60 c61 a62 c63 a64 c65 a66 c67 a68 c69 a70 c71).toArray)), (41, .v (I y57)), (42, .v (.bool y58))] E (Es E) (JA.one 11 (by kernel_rfl) (JK.alloc ttOk E E E E E 64 E (sd_upd _ E) (JA.next ⟨E, E, E, E, E, E, E, E, E, E, E, E, V⟩ [] E (JA.one 12 (by kernel_rfl) (JK.stBox ttOk E E E E E E E E (JA.nextL E (JA.regL ttOk panic_cx 0 [13, 14] E (by kernel_rfl) [] [(9, .v (I y57)), (10, .v (.bool y58))] E (Es E) (JA.done (by kernel_rfl) (JS.boxes (B' := (.new 8 32 (cl32 x0 a4 c5 a8 c9 a12 c13 a16 c17 a20 c21 a24 c25) (.new 9 35 [.int .i64 x1.1, .slice a28 x1.2.length c29] (.new 10 61 [.int .i64 x2.1, .int .i64 x2.2] (.new 64 46 (cl46 y56 a60 c61 a62 c63 a64 c65 a66 c67 a68 c69 a70 c71) .nil))))) (Bs E E) (JS.endJA (y57, y58, y56, a60, c61, a62, c63, a64, c65, a66, c67, a68, c69, a70, c71) h (Es E) (Bs E E) [0, 1, 2, 3, 4, 5, 6] E [0, 1, 2, 3, 4, 5] E E)))))))))))
      refine JK.alloc ttOk E E E E E 64 E (sd_upd _ E) (JA.next ⟨E, E, E, E, E, E, E, E, E, E, E, E, V⟩ [] E (JA.one 6 (by kernel_rfl) (JK.call E E E E (ok_s_PlainKey y36 y50 y54 a38 c39 y36.2.2.1.1.length E a40 c41 (Q8 y36).2.2.1.length E a42 c43 (Q8 y36).2.2.2.1.length E a44 c45 (Q12 y36).2.1.1.length E a46 c47 (Q12 y36).2.2.1.length E a48 c49 (Q16 y36).1.length E a52 c53 y50.2.length E _ hy59) E [8, 9, 10, 11, 12, 13, 7] E E ?_)))
      rintro ⟨a60, c61, a62, c63, a64, c65, a66, c67, a68, c69, a70, c71⟩ -
      refine JA.nextL E (JA.regL ttOk panic_cx 3 [7, 8, 9, 10] E (by kernel_rfl) [] [(40, .v (.agg (cl46 y56 a60 c61 a62 c63 a64 c65 a66 c67 a68 c69 a70 c71).toArray)), (41, .v (I y57)), (42, .v (.bool y58))] E (Es E) (JA.one 12 (by kernel_rfl) (JK.stBox ttOk E E E E E E E E (JA.nextL E (JA.regL ttOk panic_cx 0 [13, 14] E (by kernel_rfl) [] [(9, .v (I y57)), (10, .v (.bool y58))] E (Es E) (JA.done (by kernel_rfl) (JS.boxes (B' := (.new 8 32 (cl32 x0 a4 c5 a8 c9 a12 c13 a16 c17 a20 c21 a24 c25) (.new 9 35 [.int .i64 x1.1, .slice a28 x1.2.length c29] (.new 10 61 [.int .i64 x2.1, .int .i64 x2.2] (.new 64 46 (cl46 y56 a60 c61 a62 c63 a64 c65 a66 c67 a68 c69 a70 c71) .nil))))) (Bs E E) (JS.endJA (y57, y58, y56, a60, c61, a62, c63, a64, c65, a66, c67, a68, c69, a70, c71) h (Es E) (Bs E E) [0, 1, 2, 3, 4, 5, 6] E [0, 1, 2, 3, 4, 5] E E))))))))
     refine JK.alloc ttOk E E E E E 64 E (sd_upd _ E) (JA.next ⟨E, E, E, E, E, E, E, E, E, E, E, E, V⟩ [] E (JA.one 5 (by kernel_rfl) (JK.call E E E E (ok_l_toKey x2 _ hy55) E [] E E fun _ _ => JA.nextL E (JA.one 6 (by kernel_rfl) (JK.call E E E E (ok_s_PlainKey y36 y50 y54 a38 c39 y36.2.2.1.1.length E a40 c41 (Q8 y36).2.2.1.length E a42 c43 (Q8 y36).2.2.2.1.length E a44 c45 (Q12 y36).2.1.1.length E a46 c47 (Q12 y36).2.2.1.length E a48 c49 (Q16 y36).1.length E a52 c53 y50.2.length E _ hy59) E [8, 9, 10, 11, 12, 13, 7] E E ?_)))))
     rintro ⟨a60, c61, a62, c63, a64, c65, a66, c67, a68, c69, a70, c71⟩ -
     refine JA.nextL E (JA.regL ttOk panic_cx 3 [7, 8, 9, 10] E (by kernel_rfl) [] [(40, .v (.agg (cl46 y56 a60 c61 a62 c63 a64 c65 a66 c67 a68 c69 a70 c71).toArray)), (41, .v (I y57)), (42, .v (.bool y58))] E (Es E) (JA.one 12 (by kernel_rfl) (JK.stBox ttOk E E E E E E E E (JA.nextL E (JA.regL ttOk panic_cx 0 [13, 14] E (by kernel_rfl) [] [(9, .v (I y57)), (10, .v (.bool y58))] E (Es E) (JA.done (by kernel_rfl) (JS.boxes (B' := (.new 8 32 (cl32 x0 a4 c5 a8 c9 a12 c13 a16 c17 a20 c21 a24 c25) (.new 9 35 [.int .i64 x1.1, .slice a28 x1.2.length c29] (.new 10 61 [.int .i64 x2.1, .int .i64 x2.2] (.new 64 46 (cl46 y56 a60 c61 a62 c63 a64 c65 a66 c67 a68 c69 a70 c71) .nil))))) (Bs E E) (JS.endJA (y57, y58, y56, a60, c61, a62, c63, a64, c65, a66, c67, a68, c69, a70, c71) h (Es E) (Bs E E) [0, 1, 2, 3, 4, 5, 6] E [0, 1, 2, 3, 4, 5] E E))))))))
    refine JK.alloc ttOk E E E E E 64 E (sd_upd _ E) (JA.next ⟨E, E, E, E, E, E, E, E, E, E, E, E, V⟩ [] E (JA.one 3 (by kernel_rfl) (JK.call E E E E (ok_l_toHist x1 a28 c29 x1.2.length E _ hy51) E [6] E E ?_)))
    rintro ⟨a52, c53⟩ -
    refine JA.next ⟨E, E, E, E, E, E, E, E, E, E, E, E, V⟩ [] E (JA.one 5 (by kernel_rfl) (JK.call E E E E (ok_l_toKey x2 _ hy55) E [] E E fun _ _ => JA.nextL E (JA.one 6 (by kernel_rfl) (JK.call E E E E (ok_s_PlainKey y36 y50 y54 a38 c39 y36.2.2.1.1.length E a40 c41 (Q8 y36).2.2.1.length E a42 c43 (Q8 y36).2.2.2.1.length E a44 c45 (Q12 y36).2.1.1.length E a46 c47 (Q12 y36).2.2.1.length E a48 c49 (Q16 y36).1.length E a52 c53 y50.2.length E _ hy59) E [8, 9, 10, 11, 12, 13, 7] E E ?_))))
    rintro ⟨a60, c61, a62, c63, a64, c65, a66, c67, a68, c69, a70, c71⟩ -
    refine JA.nextL E (JA.regL ttOk panic_cx 3 [7, 8, 9, 10] E (by kernel_rfl) [] [(40, .v (.agg (cl46 y56 a60 c61 a62 c63 a64 c65 a66 c67 a68 c69 a70 c71).toArray)), (41, .v (I y57)), (42, .v (.bool y58))] E (Es E) (JA.one 12 (by kernel_rfl) (JK.stBox ttOk E E E E E E E E (JA.nextL E (JA.regL ttOk panic_cx 0 [13, 14] E (by kernel_rfl) [] [(9, .v (I y57)), (10, .v (.bool y58))] E (Es E) (JA.done (by kernel_rfl) (JS.boxes (B' := (.new 8 32 (cl32 x0 a4 c5 a8 c9 a12 c13 a16 c17 a20 c21 a24 c25) (.new 9 35 [.int .i64 x1.1, .slice a28 x1.2.length c29] (.new 10 61 [.int .i64 x2.1, .int .i64 x2.2] (.new 64 46 (cl46 y56 a60 c61 a62 c63 a64 c65 a66 c67 a68 c69 a70 c71) .nil))))) (Bs E E) (JS.endJA (y57, y58, y56, a60, c61, a62, c63, a64, c65, a66, c67, a68, c69, a70, c71) h (Es E) (Bs E E) [0, 1, 2, 3, 4, 5, 6] E [0, 1, 2, 3, 4, 5] E E))))))))
   refine JK.alloc ttOk E E E E E 64 E (sd_upd _ E) (JA.next ⟨E, E, E, E, E, E, E, E, E, E, E, E, V⟩ [] E (JA.one 1 (by kernel_rfl) (JK.call E E E E (ok_l_toEd x0 a4 c5 x0.2.2.1.1.length E a8 c9 (Q8 x0).2.2.1.length E a12 c13 (Q8 x0).2.2.2.1.length E a16 c17 (Q12 x0).2.1.1.length E a20 c21 (Q12 x0).2.2.1.length E a24 c25 (Q16 x0).1.length E _ hy37) E [0, 1, 2, 3, 4, 5] E E ?_)))
   rintro ⟨a38, c39, a40, c41, a42, c43, a44, c45, a46, c47, a48, c49⟩ -
   refine JA.next ⟨E, E, E, E, E, E, E, E, E, E, E, E, V⟩ [] E (JA.one 3 (by kernel_rfl) (JK.call E E E E (ok_l_toHist x1 a28 c29 x1.2.length E _ hy51) E [6] E E ?_))
   rintro ⟨a52, c53⟩ -
   refine JA.next ⟨E, E, E, E, E, E, E, E, E, E, E, E, V⟩ [] E (JA.one 5 (by kernel_rfl) (JK.call E E E E (ok_l_toKey x2 _ hy55) E [] E E fun _ _ => JA.nextL E (JA.one 6 (by kernel_rfl) (JK.call E E E E (ok_s_PlainKey y36 y50 y54 a38 c39 y36.2.2.1.1.length E a40 c41 (Q8 y36).2.2.1.length E a42 c43 (Q8 y36).2.2.2.1.length E a44 c45 (Q12 y36).2.1.1.length E a46 c47 (Q12 y36).2.2.1.length E a48 c49 (Q16 y36).1.length E a52 c53 y50.2.length E _ hy59) E [8, 9, 10, 11, 12, 13, 7] E E ?_))))
   rintro ⟨a60, c61, a62, c63, a64, c65, a66, c67, a68, c69, a70, c71⟩ -
   refine JA.nextL E (JA.regL ttOk panic_cx 3 [7, 8, 9, 10] E (by kernel_rfl) [] [(40, .v (.agg (cl46 y56 a60 c61 a62 c63 a64 c65 a66 c67 a68 c69 a70 c71).toArray)), (41, .v (I y57)), (42, .v (.bool y58))] E (Es E) (JA.one 12 (by kernel_rfl) (JK.stBox ttOk E E E E E E E E (JA.nextL E (JA.regL ttOk panic_cx 0 [13, 14] E (by kernel_rfl) [] [(9, .v (I y57)), (10, .v (.bool y58))] E (Es E) (JA.done (by kernel_rfl) (JS.boxes (B' := (.new 8 32 (cl32 x0 a4 c5 a8 c9 a12 c13 a16 c17 a20 c21 a24 c25) (.new 9 35 [.int .i64 x1.1, .slice a28 x1.2.length c29] (.new 10 61 [.int .i64 x2.1, .int .i64 x2.2] (.new 64 46 (cl46 y56 a60 c61 a62 c63 a64 c65 a66 c67 a68 c69 a70 c71) .nil))))) (Bs E E) (JS.endJA (y57, y58, y56, a60, c61, a62, c63, a64, c65, a66, c67, a68, c69, a70, c71) h (Es E) (Bs E E) [0, 1, 2, 3, 4, 5, 6] E [0, 1, 2, 3, 4, 5] E E))))))))
  rintro ⟨x73, x74, x75, a76, c77, a78, c79, a80, c81, a82, c83, a84, c85, a86, c87⟩ h
  subst hj288
  refine JS.seq (JS.region (JO.reg ttOk 1 [] [] [(43, .v (.agg (cl32 x0 a4 c5 a8 c9 a12 c13 a16 c17 a20 c21 a24 c25).toArray))] _ E ⟨⟨E, V⟩, E⟩ ?_))
  obtain ⟨y89, hy90, h⟩ := bindO_some h
  refine JO.call E E E E (ok_l_toEd x0 a4 c5 x0.2.2.1.1.length E a8 c9 (Q8 x0).2.2.1.length E a12 c13 (Q8 x0).2.2.2.1.length E a16 c17 (Q12 x0).2.1.1.length E a20 c21 (Q12 x0).2.2.1.length E a24 c25 (Q16 x0).1.length E _ hy90) E [0, 1, 2, 3, 4, 5] E E ?_
  rintro ⟨a91, c92, a93, c94, a95, c96, a97, c98, a99, c100, a101, c102⟩ -
  refine JO.regB ttOk 2 [] [108] [(11, .bp 108 0)] (.new 8 32 (cl32 x0 a4 c5 a8 c9 a12 c13 a16 c17 a20 c21 a24 c25) (.new 9 35 [.int .i64 x1.1, .slice a28 x1.2.length c29] (.new 10 61 [.int .i64 x2.1, .int .i64 x2.2] (.new 64 46 (cl46 x75 a76 c77 a78 c79 a80 c81 a82 c83 a84 c85 a86 c87) (.new 108 46 (cl46 y89 a91 c92 a93 c94 a95 c96 a97 c98 a99 c100 a101 c102) .nil))))) E ⟨⟨E, V⟩, (Bs E E)⟩ (JO.done E (JS.seq (JS.region (JO.reg ttOk 1 [] [] [(45, .v (.agg #[.int .i64 x1.1, .slice a28 x1.2.length c29]))] _ E ⟨⟨E, V⟩, E⟩ ?_))))
  obtain ⟨y103, hy104, h⟩ := bindO_some h
  refine JO.call E E E E (ok_l_toHist x1 a28 c29 x1.2.length E _ hy104) E [6] E E ?_
  rintro ⟨a105, c106⟩ -
  refine JO.regB ttOk 2 [] [114] [(12, .bp 114 0)] (.new 8 32 (cl32 x0 a4 c5 a8 c9 a12 c13 a16 c17 a20 c21 a24 c25) (.new 9 35 [.int .i64 x1.1, .slice a28 x1.2.length c29] (.new 10 61 [.int .i64 x2.1, .int .i64 x2.2] (.new 64 46 (cl46 x75 a76 c77 a78 c79 a80 c81 a82 c83 a84 c85 a86 c87) (.new 108 46 (cl46 y89 a91 c92 a93 c94 a95 c96 a97 c98 a99 c100 a101 c102) (.new 114 50 [.int .i64 y103.1, .slice a105 y103.2.length c106] .nil)))))) E ⟨⟨E, V⟩, (Bs E E)⟩ (JO.done E (JS.seq ?_))
  obtain ⟨j141, hj287, h⟩ := joinO_some h
  refine JS.cutJ (ι := Int × Bool × EdQ × Option Addr × Nat × Option Addr × Nat × Option Addr × Nat × Option Addr × Nat × Option Addr × Nat × Option Addr × Nat) ⟨fun z => j141 (z.1, z.2.1, z.2.2.1) = some r, fun z => [(3, .bp 8 0), (4, .bp 9 0), (5, .bp 10 0), (8, .bp 64 0), (9, .v (I x73)), (10, .v (.bool x74)), (11, .bp 108 0), (12, .bp 114 0), (13, .bp 139 0), (14, .v (I z.1)), (15, .v (.bool z.2.1))], fun z => (.new 8 32 (cl32 x0 a4 c5 a8 c9 a12 c13 a16 c17 a20 c21 a24 c25) (.new 9 35 [.int .i64 x1.1, .slice a28 x1.2.length c29] (.new 10 61 [.int .i64 x2.1, .int .i64 x2.2] (.new 64 46 (cl46 x75 a76 c77 a78 c79 a80 c81 a82 c83 a84 c85 a86 c87) (.new 108 46 (cl46 y89 a91 c92 a93 c94 a95 c96 a97 c98 a99 c100 a101 c102) (.new 114 50 [.int .i64 y103.1, .slice a105 y103.2.length c106] (.new 139 46 (cl46 z.2.2.1 z.2.2.2.1 (Q4 z).1 (Q4 z).2.1 (Q4 z).2.2.1 (Q4 z).2.2.2.1 (Q8 z).1 (Q8 z).2.1 (Q8 z).2.2.1 (Q8 z).2.2.2.1 (Q12 z).1 (Q12 z).2.1 (Q12 z).2.2) .nil))))))), fun z => (fl32 x0 a4 c5 a8 c9 a12 c13 a16 c17 a20 c21 a24 c25 [⟨.str, ⟨a28, x1.2.length, c29⟩, x1.2⟩]), fun z => (fl32 z.2.2.1 z.2.2.2.1 (Q4 z).1 (Q4 z).2.1 (Q4 z).2.2.1 (Q4 z).2.2.2.1 (Q8 z).1 (Q8 z).2.1 (Q8 z).2.2.1 (Q8 z).2.2.2.1 (Q12 z).1 (Q12 z).2.1 (Q12 z).2.2 (fl32 x75 a76 c77 a78 c79 a80 c81 a82 c83 a84 c85 a86 c87 (fl32 y89 a91 c92 a93 c94 a95 c96 a97 c98 a99 c100 a101 c102 [⟨.str, ⟨a105, y103.2.length, c106⟩, y103.2⟩]))), fun z => 0⟩ ?_ ?_
  ·
   obtain ⟨y107, hy108, h⟩ := bindO_some h
   obtain ⟨⟨y109, y110, y111⟩, hy112, h⟩ := bindO_some h
   refine JS.regionA E (.new 10 61 [.int .i64 x2.1, .int .i64 x2.2] (.new 108 46 (cl46 y89 a91 c92 a93 c94 a95 c96 a97 c98 a99 c100 a101 c102) (.new 114 50 [.int .i64 y103.1, .slice a105 y103.2.length c106] .nil))) [] [4, 5, 6, 7, 8, 10, 11, 12] ⟨E, E, E, E, E, E, E, E, E, E, E, E, V⟩ E (fun be125 => ?_)
   refine JA.reg ttOk panic_cx true 10 [0, 1, 2] E (by kernel_rfl) [] [(48, .v (.agg (cl46 y89 a91 c92 a93 c94 a95 c96 a97 c98 a99 c100 a101 c102).toArray)), (49, .v (.agg #[.int .i64 y103.1, .slice a105 y103.2.length c106])), (50, .v (.agg #[.int .i64 x2.1, .int .i64 x2.2]))] ⟨E, E, E, E, E, E, E, E, E, E, E, E, V⟩ [] E E (Es E) ?_
   refine JA.all (rs := [3, 9]) (by kernel_rfl) E (List.forall_mem_cons.2 ⟨?_, List.forall_mem_cons.2 ⟨?_, (fun _ hx => absurd hx List.not_mem_nil)⟩⟩)
   ·
    refine JK.call E E E E (ok_l_toKey x2 _ hy108) E [] E E fun _ _ => JA.next ⟨E, E, E, E, E, E, E, E, E, E, E, E, V⟩ [] E ?_
    refine JA.all (rs := [4, 9]) (by kernel_rfl) E (List.forall_mem_cons.2 ⟨?_, List.forall_mem_cons.2 ⟨?_, (fun _ hx => absurd hx List.not_mem_nil)⟩⟩)
    ·
     refine JK.call E E E E (ok_i_PlainKey y89 y103 y107 a91 c92 y89.2.2.1.1.length E a93 c94 (Q8 y89).2.2.1.length E a95 c96 (Q8 y89).2.2.2.1.length E a97 c98 (Q12 y89).2.1.1.length E a99 c100 (Q12 y89).2.2.1.length E a101 c102 (Q16 y89).1.length E a105 c106 y103.2.length E _ hy112) E [8, 9, 10, 11, 12, 13, 7] E E ?_
     rintro ⟨a113, c114, a115, c116, a117, c118, a119, c120, a121, c122, a123, c124⟩ -
     refine JA.nextL E (JA.regL ttOk panic_cx 4 [5, 6, 7, 8] E (by kernel_rfl) [] [(53, .v (.agg (cl46 y109 a113 c114 a115 c116 a117 c118 a119 c120 a121 c122 a123 c124).toArray)), (54, .v (I y110)), (55, .v (.bool y111))] E (Es E) (JA.one 9 (by kernel_rfl) (JK.alloc ttOk E E E E E 139 E (sd_upd _ E) (JA.next ⟨E, E, E, E, E, E, E, E, E, E, E, E, V⟩ [] E (JA.one 10 (by kernel_rfl) (JK.stBox ttOk E E E E E E E E (JA.nextL E (JA.regL ttOk panic_cx 0 [11, 12] E (by kernel_rfl) [] [(14, .v (I y110)), (15, .v (.bool y111))] E (Es E) (JA.done (by kernel_rfl) (JS.boxes (B' := (.new 8 32 (cl32 x0 a4 c5 a8 c9 a12 c13 a16 c17 a20 c21 a24 c25) (.new 9 35 [.int .i64 x1.1, .slice a28 x1.2.length c29] (.new 10 61 [.int .i64 x2.1, .int .i64 x2.2] (.new 64 46 (cl46 x75 a76 c77 a78 c79 a80 c81 a82 c83 a84 c85 a86 c87) (.new 108 46 (cl46 y89 a91 c92 a93 c94 a95 c96 a97 c98 a99 c100 a101 c102) (.new 114 50 [.int .i64 y103.1, .slice a105 y103.2.length c106] (.new 139 46 (cl46 y109 a113 c114 a115 c116 a117 c118 a119 c120 a121 c122 a123 c124) .nil)))))))) (Bs E E) (JS.endJA (y110, y111, y109, a113, c114, a115, c116, a117, c118, a119, c120, a121, c122, a123, c124) h (Es E) (Bs E E) [0, 1, 2, 3, 4, 5, 6] E [0, 1, 2, 3, 4, 5, 13, 14, 15, 16, 17, 18, 7, 8, 9, 10, 11, 12, 6] E E)))))))))))
    refine JK.alloc ttOk E E E E E 139 E (sd_upd _ E) (JA.next ⟨E, E, E, E, E, E, E, E, E, E, E, E, V⟩ [] E (JA.one 4 (by kernel_rfl) (JK.call E E E E (ok_i_PlainKey y89 y103 y107 a91 c92 y89.2.2.1.1.length E a93 c94 (Q8 y89).2.2.1.length E a95 c96 (Q8 y89).2.2.2.1.length E a97 c98 (Q12 y89).2.1.1.length E a99 c100 (Q12 y89).2.2.1.length E a101 c102 (Q16 y89).1.length E a105 c106 y103.2.length E _ hy112) E [8, 9, 10, 11, 12, 13, 7] E E ?_)))
    rintro ⟨a113, c114, a115, c116, a117, c118, a119, c120, a121, c122, a123, c124⟩ -
    refine JA.nextL E (JA.regL ttOk panic_cx 3 [5, 6, 7, 8] E (by kernel_rfl) [] [(53, .v (.agg (cl46 y109 a113 c114 a115 c116 a117 c118 a119 c120 a121 c122 a123 c124).toArray)), (54, .v (I y110)), (55, .v (.bool y111))] E (Es E) (JA.one 10 (by kernel_rfl) (JK.stBox ttOk E E E E E E E E (JA.nextL E (JA.regL ttOk panic_cx 0 [11, 12] E (by kernel_rfl) [] [(14, .v (I y110)), (15, .v (.bool y111))] E (Es E) (JA.done (by kernel_rfl) (JS.boxes (B' := (.new 8 32 (cl32 x0 a4 c5 a8 c9 a12 c13 a16 c17 a20 c21 a24 c25) (.new 9 35 [.int .i64 x1.1, .slice a28 x1.2.length c29] (.new 10 61 [.int .i64 x2.1, .int .i64 x2.2] (.new 64 46 (cl46 x75 a76 c77 a78 c79 a80 c81 a82 c83 a84 c85 a86 c87) (.new 108 46 (cl46 y89 a91 c92 a93 c94 a95 c96 a97 c98 a99 c100 a101 c102) (.new 114 50 [.int .i64 y103.1, .slice a105 y103.2.length c106] (.new 139 46 (cl46 y109 a113 c114 a115 c116 a117 c118 a119 c120 a121 c122 a123 c124) .nil)))))))) (Bs E E) (JS.endJA (y110, y111, y109, a113, c114, a115, c116, a117, c118, a119, c120, a121, c122, a123, c124) h (Es E) (Bs E E) [0, 1, 2, 3, 4, 5, 6] E [0, 1, 2, 3, 4, 5, 13, 14, 15, 16, 17, 18, 7, 8, 9, 10, 11, 12, 6] E E))))))))
   refine JK.alloc ttOk E E E E E 139 E (sd_upd _ E) (JA.next ⟨E, E, E, E, E, E, E, E, E, E, E, E, V⟩ [] E (JA.one 3 (by kernel_rfl) (JK.call E E E E (ok_l_toKey x2 _ hy108) E [] E E fun _ _ => JA.next ⟨E, E, E, E, E, E, E, E, E, E, E, E, V⟩ [] E (JA.one 4 (by kernel_rfl) (JK.call E E E E (ok_i_PlainKey y89 y103 y107 a91 c92 y89.2.2.1.1.length E a93 c94 (Q8 y89).2.2.1.length E a95 c96 (Q8 y89).2.2.2.1.length E a97 c98 (Q12 y89).2.1.1.length E a99 c100 (Q12 y89).2.2.1.length E a101 c102 (Q16 y89).1.length E a105 c106 y103.2.length E _ hy112) E [8, 9, 10, 11, 12, 13, 7] E E ?_)))))
   rintro ⟨a113, c114, a115, c116, a117, c118, a119, c120, a121, c122, a123, c124⟩ -
   refine JA.nextL E (JA.regL ttOk panic_cx 3 [5, 6, 7, 8] E (by kernel_rfl) [] [(53, .v (.agg (cl46 y109 a113 c114 a115 c116 a117 c118 a119 c120 a121 c122 a123 c124).toArray)), (54, .v (I y110)), (55, .v (.bool y111))] E (Es E) (JA.one 10 (by kernel_rfl) (JK.stBox ttOk E E E E E E E E (JA.nextL E (JA.regL ttOk panic_cx 0 [11, 12] E (by kernel_rfl) [] [(14, .v (I y110)), (15, .v (.bool y111))] E (Es E) (JA.done (by kernel_rfl) (JS.boxes (B' := (.new 8 32 (cl32 x0 a4 c5 a8 c9 a12 c13 a16 c17 a20 c21 a24 c25) (.new 9 35 [.int .i64 x1.1, .slice a28 x1.2.length c29] (.new 10 61 [.int .i64 x2.1, .int .i64 x2.2] (.new 64 46 (cl46 x75 a76 c77 a78 c79 a80 c81 a82 c83 a84 c85 a86 c87) (.new 108 46 (cl46 y89 a91 c92 a93 c94 a95 c96 a97 c98 a99 c100 a101 c102) (.new 114 50 [.int .i64 y103.1, .slice a105 y103.2.length c106] (.new 139 46 (cl46 y109 a113 c114 a115 c116 a117 c118 a119 c120 a121 c122 a123 c124) .nil)))))))) (Bs E E) (JS.endJA (y110, y111, y109, a113, c114, a115, c116, a117, c118, a119, c120, a121, c122, a123, c124) h (Es E) (Bs E E) [0, 1, 2, 3, 4, 5, 6] E [0, 1, 2, 3, 4, 5, 13, 14, 15, 16, 17, 18, 7, 8, 9, 10, 11, 12, 6] E E))))))))
  rintro ⟨x126, x127, x128, a129, c130, a131, c132, a133, c134, a135, c136, a137, c138, a139, c140⟩ h
  subst hj287
  refine JS.seq (JS.seq (JS.region (JO.reg ttOk 2 [] [] [(56, .v (.agg (cl46 x128 a129 c130 a131 c132 a133 c134 a135 c136 a137 c138 a139 c140).toArray)), (57, .v (.agg (cl46 x75 a76 c77 a78 c79 a80 c81 a82 c83 a84 c85 a86 c87).toArray))] _ E ⟨(Es E), E⟩ ?_)))
  obtain ⟨y142, hy143, h⟩ := bindO_some h
  refine JO.call E E E E (ok_l_eqEd x128 x75 a129 c130 x128.2.2.1.1.length E a131 c132 (Q8 x128).2.2.1.length E a133 c134 (Q8 x128).2.2.2.1.length E a135 c136 (Q12 x128).2.1.1.length E a137 c138 (Q12 x128).2.2.1.length E a139 c140 (Q16 x128).1.length E a76 c77 x75.2.2.1.1.length E a78 c79 (Q8 x75).2.2.1.length E a80 c81 (Q8 x75).2.2.2.1.length E a82 c83 (Q12 x75).2.1.1.length E a84 c85 (Q12 x75).2.2.1.length E a86 c87 (Q16 x75).1.length E _ hy143) E [7, 8, 9, 10, 11, 12, 13, 14, 15, 16, 17, 18] E E fun _ _ => JO.reg ttOk 11 [] [] [(69, .v (.bool (bif (bif (!y142) then true else (!(decide (x126 = x73)))) then true else (!(x127 == x74)))))] _ E ⟨⟨E, V⟩, E⟩ (JO.done E ?_)
  refine JS.cond E (fun ht286 => ?_) (fun ht286 => ?_)
  ·
   have h := condT h ht286
   refine JS.rg0 ttOk 1 [(6, .v (.bool false))] ⟨⟨E, V⟩, E⟩ E E ?_
   cases h
   exact JS.ret ttOk () V E E [] E
  have h := condF h ht286
  refine JS.skip (JS.seq (JS.seq ?_))
  obtain ⟨y144, hy145, h⟩ := bindO_some h
  obtain ⟨y158, hy159, h⟩ := bindO_some h
  refine JS.regionA E (.new 8 32 (cl32 x0 a4 c5 a8 c9 a12 c13 a16 c17 a20 c21 a24 c25) (.new 108 46 (cl46 y89 a91 c92 a93 c94 a95 c96 a97 c98 a99 c100 a101 c102) .nil)) [] [3, 4] ⟨E, E, E, E, E, E, E, E, V⟩ E (fun be160 => ?_)
  refine JA.reg ttOk panic_cx true 3 [0, 1] E (by kernel_rfl) [] [(70, .v (.agg (cl46 y89 a91 c92 a93 c94 a95 c96 a97 c98 a99 c100 a101 c102).toArray)), (71, .v (.agg (cl32 x0 a4 c5 a8 c9 a12 c13 a16 c17 a20 c21 a24 c25).toArray))] ⟨E, E, E, E, E, E, E, E, V⟩ [] E E (Es E) (JA.one 2 (by kernel_rfl) (JK.call E E E E (ok_l_toEd x0 a4 c5 x0.2.2.1.1.length E a8 c9 (Q8 x0).2.2.1.length E a12 c13 (Q8 x0).2.2.2.1.length E a16 c17 (Q12 x0).2.1.1.length E a20 c21 (Q12 x0).2.2.1.length E a24 c25 (Q16 x0).1.length E _ hy145) E [0, 1, 2, 3, 4, 5] E E ?_))
  rintro ⟨a146, c147, a148, c149, a150, c151, a152, c153, a154, c155, a156, c157⟩ -
  refine JA.next ⟨E, E, E, E, E, E, E, E, V⟩ [] E (JA.one 3 (by kernel_rfl) (JK.call E E E E (ok_l_eqEd y89 y144 a91 c92 y89.2.2.1.1.length E a93 c94 (Q8 y89).2.2.1.length E a95 c96 (Q8 y89).2.2.2.1.length E a97 c98 (Q12 y89).2.1.1.length E a99 c100 (Q12 y89).2.2.1.length E a101 c102 (Q16 y89).1.length E a146 c147 y144.2.2.1.1.length E a148 c149 (Q8 y144).2.2.1.length E a150 c151 (Q8 y144).2.2.2.1.length E a152 c153 (Q12 y144).2.1.1.length E a154 c155 (Q12 y144).2.2.1.length E a156 c157 (Q16 y144).1.length E _ hy159) E [25, 26, 27, 28, 29, 30, 7, 8, 9, 10, 11, 12] E E fun _ _ => JA.nextL E (JA.regL ttOk panic_cx 0 [4] E (by kernel_rfl) [] [(74, .v (.bool (!y158)))] E ⟨E, V⟩ (JA.done (by kernel_rfl) (JS.boxes (B' := (.new 8 32 (cl32 x0 a4 c5 a8 c9 a12 c13 a16 c17 a20 c21 a24 c25) (.new 9 35 [.int .i64 x1.1, .slice a28 x1.2.length c29] (.new 10 61 [.int .i64 x2.1, .int .i64 x2.2] (.new 64 46 (cl46 x75 a76 c77 a78 c79 a80 c81 a82 c83 a84 c85 a86 c87) (.new 108 46 (cl46 y89 a91 c92 a93 c94 a95 c96 a97 c98 a99 c100 a101 c102) (.new 114 50 [.int .i64 y103.1, .slice a105 y103.2.length c106] (.new 139 46 (cl46 x128 a129 c130 a131 c132 a133 c134 a135 c136 a137 c138 a139 c140) .nil)))))))) (Bs E E) ?_)))))
  refine JS.cond E (fun ht285 => ?_) (fun ht285 => ?_)
  ·
   have h := condT h ht285
   refine JS.seq (JS.norm [false, false, false, false, false, false, true, true, true, true, true, true, true, true, true, true, true, true, true, true, true, true, true, true, true] (fl32 x0 a4 c5 a8 c9 a12 c13 a16 c17 a20 c21 a24 c25 [⟨.str, ⟨a28, x1.2.length, c29⟩, x1.2⟩]) (fl32 x128 a129 c130 a131 c132 a133 c134 a135 c136 a137 c138 a139 c140 (fl32 x75 a76 c77 a78 c79 a80 c81 a82 c83 a84 c85 a86 c87 (fl32 y89 a91 c92 a93 c94 a95 c96 a97 c98 a99 c100 a101 c102 [⟨.str, ⟨a105, y103.2.length, c106⟩, y103.2⟩]))) E E (JS.re0 ttOk 1 [(6, .v (.bool false))] ⟨⟨E, V⟩, E⟩ E E ?_))
   cases h
   exact JS.ret ttOk () V E E [] E
  have h := condF h ht285
  refine JS.skip (JS.seq (JS.seq ?_))
  obtain ⟨y161, hy162, h⟩ := bindO_some h
  obtain ⟨y165, hy166, h⟩ := bindO_some h
  refine JS.regionA E (.new 9 35 [.int .i64 x1.1, .slice a28 x1.2.length c29] (.new 114 50 [.int .i64 y103.1, .slice a105 y103.2.length c106] .nil)) [] [3, 4] ⟨E, E, E, E, E, E, E, E, V⟩ E (fun be167 => ?_)
  refine JA.reg ttOk panic_cx true 3 [0, 1] E (by kernel_rfl) [] [(75, .v (.agg #[.int .i64 y103.1, .slice a105 y103.2.length c106])), (76, .v (.agg #[.int .i64 x1.1, .slice a28 x1.2.length c29]))] ⟨E, E, E, E, E, E, E, E, V⟩ [] E E (Es E) (JA.one 2 (by kernel_rfl) (JK.call E E E E (ok_l_toHist x1 a28 c29 x1.2.length E _ hy162) E [6] E E ?_))
  rintro ⟨a163, c164⟩ -
  refine JA.next ⟨E, E, E, E, E, E, E, E, V⟩ [] E (JA.one 3 (by kernel_rfl) (JK.call E E E E (ok_l_eqHist y103 y161 a105 c106 y103.2.length E a163 c164 y161.2.length E _ hy166) E [32, 7] E E fun _ _ => JA.nextL E (JA.regL ttOk panic_cx 0 [4] E (by kernel_rfl) [] [(79, .v (.bool (!y165)))] E ⟨E, V⟩ (JA.done (by kernel_rfl) (JS.boxes (B' := (.new 8 32 (cl32 x0 a4 c5 a8 c9 a12 c13 a16 c17 a20 c21 a24 c25) (.new 9 35 [.int .i64 x1.1, .slice a28 x1.2.length c29] (.new 10 61 [.int .i64 x2.1, .int .i64 x2.2] (.new 64 46 (cl46 x75 a76 c77 a78 c79 a80 c81 a82 c83 a84 c85 a86 c87) (.new 108 46 (cl46 y89 a91 c92 a93 c94 a95 c96 a97 c98 a99 c100 a101 c102) (.new 114 50 [.int .i64 y103.1, .slice a105 y103.2.length c106] (.new 139 46 (cl46 x128 a129 c130 a131 c132 a133 c134 a135 c136 a137 c138 a139 c140) .nil)))))))) (Bs E E) ?_)))))
  refine JS.cond E (fun ht284 => ?_) (fun ht284 => ?_)
  ·
   have h := condT h ht284
   refine JS.seq (JS.norm [false, false, false, false, false, false, false, true, true, true, true, true, true, true, true, true, true, true, true, true, true, true, true, true, true, true] (fl32 x0 a4 c5 a8 c9 a12 c13 a16 c17 a20 c21 a24 c25 [⟨.str, ⟨a28, x1.2.length, c29⟩, x1.2⟩]) (fl32 x128 a129 c130 a131 c132 a133 c134 a135 c136 a137 c138 a139 c140 (fl32 x75 a76 c77 a78 c79 a80 c81 a82 c83 a84 c85 a86 c87 (fl32 y89 a91 c92 a93 c94 a95 c96 a97 c98 a99 c100 a101 c102 [⟨.str, ⟨a105, y103.2.length, c106⟩, y103.2⟩]))) E E (JS.re0 ttOk 1 [(6, .v (.bool false))] ⟨⟨E, V⟩, E⟩ E E ?_))
   cases h
   exact JS.ret ttOk () V E E [] E
  have h := condF h ht284
  refine JS.skip (JS.seq (JS.norm [false, false, false, false, false, false, false, true, true, true, true, true, true, true, true, true, true, true, true, true, true, true, true, true, true, true] (fl32 x0 a4 c5 a8 c9 a12 c13 a16 c17 a20 c21 a24 c25 [⟨.str, ⟨a28, x1.2.length, c29⟩, x1.2⟩]) (fl32 x128 a129 c130 a131 c132 a133 c134 a135 c136 a137 c138 a139 c140 (fl32 x75 a76 c77 a78 c79 a80 c81 a82 c83 a84 c85 a86 c87 (fl32 y89 a91 c92 a93 c94 a95 c96 a97 c98 a99 c100 a101 c102 [⟨.str, ⟨a105, y103.2.length, c106⟩, y103.2⟩]))) E E (JS.re0 ttOk 1 [(16, .v (I 1))] ⟨⟨E, V⟩, E⟩ E E (JS.seq (JS.region (JO.reg ttOk 2 [] [] [(80, .v (.agg (cl46 y89 a91 c92 a93 c94 a95 c96 a97 c98 a99 c100 a101 c102).toArray)), (81, .v (I 1))] _ E ⟨(Es E), E⟩ ?_))))))
  obtain ⟨⟨y168, y169, y170, y171, y172, y173, y174⟩, hy175, h⟩ := bindO_some h
  refine JO.callX E E E E (ok_l_markEd y89 1 a91 c92 y89.2.2.1.1.length E a93 c94 (Q8 y89).2.2.1.length E a95 c96 (Q8 y89).2.2.2.1.length E a97 c98 (Q12 y89).2.1.1.length E a99 c100 (Q12 y89).2.2.1.length E a101 c102 (Q16 y89).1.length E _ hy175) E [12, 12, 12, 12, 12, 12] E [] E E fun _ _ => JO.know 7 E fun hs176 => JO.know 8 E fun hs177 => JO.know 9 E fun hs178 => JO.know 10 E fun hs179 => JO.know 11 E fun hs180 => JO.know 12 E fun hs181 => JO.reg ttOk 1 [] [] [(16, .v (I y168))] _ E ⟨⟨E, V⟩, E⟩ (JO.done E (JS.seq (JS.region (JO.reg ttOk 2 [] [] [(83, .v (.agg #[.int .i64 y103.1, .slice a105 y103.2.length c106])), (84, .v (I y168))] _ E ⟨(Es E), E⟩ ?_))))
  obtain ⟨⟨y182, y183⟩, hy184, h⟩ := bindO_some h
  refine JO.callX E E E E (ok_l_markHist y103 y168 a105 c106 y103.2.length E _ hy184) E [18] E [] E E fun _ _ => JO.know 7 E fun hs185 => JO.reg ttOk 1 [] [] [(16, .v (I y182))] _ E ⟨⟨E, V⟩, E⟩ (JO.done E (JS.seq (JS.seq (JS.region (JO.reg ttOk 5 [] [] [(88, .v (.bool (decide (y182 < 0)))), (89, .cd [(88, false)] (.v (.agg (cl46 x128 a129 c130 a131 c132 a133 c134 a135 c136 a137 c138 a139 c140).toArray))), (90, .cd [(88, false)] (.v (.agg (cl46 x75 a76 c77 a78 c79 a80 c81 a82 c83 a84 c85 a86 c87).toArray)))] _ E ⟨(Es E), E⟩ ?_)))))
  obtain ⟨y186, hy187, -, h⟩ := callO_some h
  refine JO.callg E E E E (fun q276 => ok_l_eqEd x128 x75 a129 c130 x128.2.2.1.1.length E a131 c132 (Q8 x128).2.2.1.length E a133 c134 (Q8 x128).2.2.2.1.length E a135 c136 (Q12 x128).2.1.1.length E a137 c138 (Q12 x128).2.2.1.length E a139 c140 (Q16 x128).1.length E a76 c77 x75.2.2.1.1.length E a78 c79 (Q8 x75).2.2.1.length E a80 c81 (Q8 x75).2.2.2.1.length E a82 c83 (Q12 x75).2.1.1.length E a84 c85 (Q12 x75).2.2.1.length E a86 c87 (Q16 x75).1.length E _ (hy187 q276)) E [14, 15, 16, 17, 18, 19, 20, 21, 22, 23, 24, 25] E E (JO.reg ttOk 12 [] [] [(103, .v (.bool (bif (bif (bif (decide (y182 < 0)) then true else (!y186)) then true else (!(decide (x126 = x73)))) then true else (!(x127 == x74)))))] _ E ⟨⟨E, V⟩, E⟩ (JO.done E ?_))
  refine JS.cond E (fun ht283 => ?_) (fun ht283 => ?_)
  ·
   have h := condT h ht283
   refine JS.rg0 ttOk 1 [(6, .v (.bool false))] ⟨⟨E, V⟩, E⟩ E E ?_
   cases h
   exact JS.ret ttOk () V E E [] E
  have h := condF h ht283
  refine JS.skip (JS.rg0 ttOk 1 [(17, .v (I 1))] ⟨⟨E, V⟩, E⟩ E E (JS.seq (JS.region (JO.reg ttOk 2 [] [] [(104, .v (.agg (cl46 x128 a129 c130 a131 c132 a133 c134 a135 c136 a137 c138 a139 c140).toArray)), (105, .v (I 1))] _ E ⟨(Es E), E⟩ ?_))))
  obtain ⟨⟨y189, y190, y191, y192, y193, y194, y195⟩, hy196, h⟩ := bindO_some h
  refine JO.callX E E E E (ok_l_markEd x128 1 a129 c130 x128.2.2.1.1.length E a131 c132 (Q8 x128).2.2.1.length E a133 c134 (Q8 x128).2.2.2.1.length E a135 c136 (Q12 x128).2.1.1.length E a137 c138 (Q12 x128).2.2.1.length E a139 c140 (Q16 x128).1.length E _ hy196) E [7, 7, 7, 7, 7, 7] E [] E E fun _ _ => JO.know 7 E fun hs197 => JO.know 8 E fun hs198 => JO.know 9 E fun hs199 => JO.know 10 E fun hs200 => JO.know 11 E fun hs201 => JO.know 12 E fun hs202 => JO.reg ttOk 1 [] [] [(17, .v (I y189))] _ E ⟨⟨E, V⟩, E⟩ (JO.done E (JS.rg0 ttOk 1 [(18, .v (I 1))] ⟨⟨E, V⟩, E⟩ E E (JS.seq (JS.region (JO.reg ttOk 2 [] [] [(107, .v (.agg (cl46 x128 a129 c130 a131 c132 a133 c134 a135 c136 a137 c138 a139 c140).toArray)), (108, .v (I 1))] _ E ⟨(Es E), E⟩ ?_)))))
  obtain ⟨y203, hy204, h⟩ := bindO_some h
  refine JO.call E E E E (ok_l_heldEd (x128.1, x128.2.1, (y190, x128.2.2.1.2), x128.2.2.2.1, (Q4 x128).1, (Q4 x128).2.1, (Q4 x128).2.2.1, (Q4 x128).2.2.2.1, (Q8 x128).1, (Q8 x128).2.1, y191, y192, (Q12 x128).1, (y193, (Q12 x128).2.1.2), y194, (Q12 x128).2.2.2.1, (y195, (Q16 x128).2)) 1 a129 c130 x128.2.2.1.1.length hs197.len.symm a131 c132 (Q8 x128).2.2.1.length hs198.len.symm a133 c134 (Q8 x128).2.2.2.1.length hs199.len.symm a135 c136 (Q12 x128).2.1.1.length hs200.len.symm a137 c138 (Q12 x128).2.2.1.length hs201.len.symm a139 c140 (Q16 x128).1.length hs202.len.symm _ hy204) E [7, 8, 9, 10, 11, 12] E E fun _ _ => JO.reg ttOk 1 [] [] [(18, .v (I y203))] _ E ⟨⟨E, V⟩, E⟩ (JO.done E (JS.seq (JS.rg0 ttOk 2 [(111, .v (.bool (decide (y203 < 0))))] ⟨⟨E, V⟩, E⟩ E E ?_)))
  refine JS.cond E (fun ht282 => ?_) (fun ht282 => ?_)
  ·
   have h := condT h ht282
   refine JS.rg0 ttOk 1 [(6, .v (.bool false))] ⟨⟨E, V⟩, E⟩ E E ?_
   cases h
   exact JS.ret ttOk () V E E [] E
  have h := condF h ht282
  refine JS.skip (JS.seq (JS.rg0 ttOk 3 [(114, .v (.bool (!(decide (y203 = y189)))))] ⟨⟨E, V⟩, E⟩ E E ?_))
  refine JS.cond E (fun ht281 => ?_) (fun ht281 => ?_)
  ·
   have h := condT h ht281
   refine JS.rg0 ttOk 1 [(6, .v (.bool false))] ⟨⟨E, V⟩, E⟩ E E ?_
   cases h
   exact JS.ret ttOk () V E E [] E
  have h := condF h ht281
  refine JS.skip (JS.seq ?_)
  obtain ⟨j257, hj280, h⟩ := joinO_some h
  refine JS.cutJ (ι := Int × Bool × EdQ × Option Addr × Nat × Option Addr × Nat × Option Addr × Nat × Option Addr × Nat × Option Addr × Nat × Option Addr × Nat) ⟨fun z => j257 (z.1, z.2.1, z.2.2.1) = some r, fun z => [(8, .bp 64 0), (9, .v (I x73)), (10, .v (.bool x74)), (13, .bp 139 0), (17, .v (I y189)), (19, .bp 281 0), (20, .v (I z.1)), (21, .v (.bool z.2.1))], fun z => (.new 64 46 (cl46 x75 a76 c77 a78 c79 a80 c81 a82 c83 a84 c85 a86 c87) (.new 139 46 (cl46 x128 a129 c130 a131 c132 a133 c134 a135 c136 a137 c138 a139 c140) (.new 281 46 (cl46 z.2.2.1 z.2.2.2.1 (Q4 z).1 (Q4 z).2.1 (Q4 z).2.2.1 (Q4 z).2.2.2.1 (Q8 z).1 (Q8 z).2.1 (Q8 z).2.2.1 (Q8 z).2.2.2.1 (Q12 z).1 (Q12 z).2.1 (Q12 z).2.2) .nil))), fun z => [], fun z => (fl32 z.2.2.1 z.2.2.2.1 (Q4 z).1 (Q4 z).2.1 (Q4 z).2.2.1 (Q4 z).2.2.2.1 (Q8 z).1 (Q8 z).2.1 (Q8 z).2.2.1 (Q8 z).2.2.2.1 (Q12 z).1 (Q12 z).2.1 (Q12 z).2.2 (fl32 x75 a76 c77 a78 c79 a80 c81 a82 c83 a84 c85 a86 c87 [⟨(.int .i64), ⟨a129, x128.2.2.1.1.length, c130⟩, y190⟩, ⟨(.sl (.int .i64)), ⟨a131, (Q8 x128).2.2.1.length, c132⟩, y191⟩, ⟨(.pair (.sl (.int .i64)) (.int .i64)), ⟨a133, (Q8 x128).2.2.2.1.length, c134⟩, y192⟩, ⟨(.int .i64), ⟨a135, (Q12 x128).2.1.1.length, c136⟩, y193⟩, ⟨(.int .i64), ⟨a137, (Q12 x128).2.2.1.length, c138⟩, y194⟩, ⟨(.int .i64), ⟨a139, (Q16 x128).1.length, c140⟩, y195⟩])), fun z => 0⟩ ?_ ?_
  ·
   obtain ⟨y205, hy206, h⟩ := bindO_some h
   obtain ⟨y219, hy220, h⟩ := bindO_some h
   obtain ⟨y223, hy224, h⟩ := bindO_some h
   obtain ⟨⟨y225, y226, y227⟩, hy228, h⟩ := bindO_some h
   refine JS.regionA E (.new 8 32 (cl32 x0 a4 c5 a8 c9 a12 c13 a16 c17 a20 c21 a24 c25) (.new 9 35 [.int .i64 x1.1, .slice a28 x1.2.length c29] (.new 10 61 [.int .i64 x2.1, .int .i64 x2.2] .nil))) [] [5, 6, 7, 8, 9, 10, 12, 13, 14] ⟨E, E, E, E, E, E, E, E, E, E, E, E, V⟩ E (fun be241 => ?_)
   refine JA.reg ttOk panic_cx true 12 [0, 2, 4] E (by kernel_rfl) [] [(116, .v (.agg (cl32 x0 a4 c5 a8 c9 a12 c13 a16 c17 a20 c21 a24 c25).toArray)), (118, .v (.agg #[.int .i64 x1.1, .slice a28 x1.2.length c29])), (120, .v (.agg #[.int .i64 x2.1, .int .i64 x2.2]))] ⟨E, E, E, E, E, E, E, E, E, E, E, E, V⟩ [] E E (Es E) ?_
   refine JA.all (rs := [1, 11]) (by kernel_rfl) E (List.forall_mem_cons.2 ⟨?_, List.forall_mem_cons.2 ⟨?_, (fun _ hx => absurd hx List.not_mem_nil)⟩⟩)
   ·
    refine JK.call E E E E (ok_l_toEd x0 a4 c5 x0.2.2.1.1.length E a8 c9 (Q8 x0).2.2.1.length E a12 c13 (Q8 x0).2.2.2.1.length E a16 c17 (Q12 x0).2.1.1.length E a20 c21 (Q12 x0).2.2.1.length E a24 c25 (Q16 x0).1.length E _ hy206) E [0, 1, 2, 3, 4, 5] E E ?_
    rintro ⟨a207, c208, a209, c210, a211, c212, a213, c214, a215, c216, a217, c218⟩ -
    refine JA.next ⟨E, E, E, E, E, E, E, E, E, E, E, E, V⟩ [] E ?_
    refine JA.all (rs := [3, 11]) (by kernel_rfl) E (List.forall_mem_cons.2 ⟨?_, List.forall_mem_cons.2 ⟨?_, (fun _ hx => absurd hx List.not_mem_nil)⟩⟩)
    ·
     refine JK.call E E E E (ok_l_toHist x1 a28 c29 x1.2.length E _ hy220) E [6] E E ?_
     rintro ⟨a221, c222⟩ -
     refine JA.next ⟨E, E, E, E, E, E, E, E, E, E, E, E, V⟩ [] E ?_
     refine JA.all (rs := [5, 11]) (by kernel_rfl) E (List.forall_mem_cons.2 ⟨?_, List.forall_mem_cons.2 ⟨?_, (fun _ hx => absurd hx List.not_mem_nil)⟩⟩)
     ·
      refine JK.call E E E E (ok_l_toKey x2 _ hy224) E [] E E fun _ _ => JA.nextL E ?_
      refine JA.all (rs := [6, 11]) (by kernel_rfl) E (List.forall_mem_cons.2 ⟨?_, List.forall_mem_cons.2 ⟨?_, (fun _ hx => absurd hx List.not_mem_nil)⟩⟩)
      ·
       refine JK.call E E E E (ok_i_PlainKey y205 y219 y223 a207 c208 y205.2.2.1.1.length E a209 c210 (Q8 y205).2.2.1.length E a211 c212 (Q8 y205).2.2.2.1.length E a213 c214 (Q12 y205).2.1.1.length E a215 c216 (Q12 y205).2.2.1.length E a217 c218 (Q16 y205).1.length E a221 c222 y219.2.length E _ hy228) E [8, 9, 10, 11, 12, 13, 7] E E ?_
       rintro ⟨a229, c230, a231, c232, a233, c234, a235, c236, a237, c238, a239, c240⟩ -
       refine JA.nextL E (JA.regL ttOk panic_cx 4 [7, 8, 9, 10] E (by kernel_rfl) [] [(123, .v (.agg (cl46 y225 a229 c230 a231 c232 a233 c234 a235 c236 a237 c238 a239 c240).toArray)), (124, .v (I y226)), (125, .v (.bool y227))] E (Es E) (JA.one 11 (by kernel_rfl) (JK.alloc ttOk E E E E E 281 E (sd_upd _ E) (JA.next ⟨E, E, E, E, E, E, E, E, E, E, E, E, V⟩ [] E (JA.one 12 (by kernel_rfl) (JK.stBox ttOk E E E E E E E E (JA.nextL E (JA.regL ttOk panic_cx 0 [13, 14] E (by kernel_rfl) [] [(20, .v (I y226)), (21, .v (.bool y227))] E (Es E) (JA.done (by kernel_rfl) (JS.boxes (B' := (.new 64 46 (cl46 x75 a76 c77 a78 c79 a80 c81 a82 c83 a84 c85 a86 c87) (.new 139 46 (cl46 x128 a129 c130 a131 c132 a133 c134 a135 c136 a137 c138 a139 c140) (.new 281 46 (cl46 y225 a229 c230 a231 c232 a233 c234 a235 c236 a237 c238 a239 c240) .nil)))) (Bs E E) (JS.endJA (y226, y227, y225, a229, c230, a231, c232, a233, c234, a235, c236, a237, c238, a239, c240) h (Es E) (Bs E E) [] E [0, 1, 2, 3, 4, 5, 26, 27, 28, 29, 30, 31, 13, 14, 15, 16, 17, 18] E E)))))))))))
      refine JK.alloc ttOk E E E E E 281 E (sd_upd _ E) (JA.next ⟨E, E, E, E, E, E, E, E, E, E, E, E, V⟩ [] E (JA.one 6 (by kernel_rfl) (JK.call E E E E (ok_i_PlainKey y205 y219 y223 a207 c208 y205.2.2.1.1.length E a209 c210 (Q8 y205).2.2.1.length E a211 c212 (Q8 y205).2.2.2.1.length E a213 c214 (Q12 y205).2.1.1.length E a215 c216 (Q12 y205).2.2.1.length E a217 c218 (Q16 y205).1.length E a221 c222 y219.2.length E _ hy228) E [8, 9, 10, 11, 12, 13, 7] E E ?_)))
      rintro ⟨a229, c230, a231, c232, a233, c234, a235, c236, a237, c238, a239, c240⟩ -
      refine JA.nextL E (JA.regL ttOk panic_cx 3 [7, 8, 9, 10] E (by kernel_rfl) [] [(123, .v (.agg (cl46 y225 a229 c230 a231 c232 a233 c234 a235 c236 a237 c238 a239 c240).toArray)), (124, .v (I y226)), (125, .v (.bool y227))] E (Es E) (JA.one 12 (by kernel_rfl) (JK.stBox ttOk E E E E E E E E (JA.nextL E (JA.regL ttOk panic_cx 0 [13, 14] E (by kernel_rfl) [] [(20, .v (I y226)), (21, .v (.bool y227))] E (Es E) (JA.done (by kernel_rfl) (JS.boxes (B' := (.new 64 46 (cl46 x75 a76 c77 a78 c79 a80 c81 a82 c83 a84 c85 a86 c87) (.new 139 46 (cl46 x128 a129 c130 a131 c132 a133 c134 a135 c136 a137 c138 a139 c140) (.new 281 46 (cl46 y225 a229 c230 a231 c232 a233 c234 a235 c236 a237 c238 a239 c240) .nil)))) (Bs E E) (JS.endJA (y226, y227, y225, a229, c230, a231, c232, a233, c234, a235, c236, a237, c238, a239, c240) h (Es E) (Bs E E) [] E [0, 1, 2, 3, 4, 5, 26, 27, 28, 29, 30, 31, 13, 14, 15, 16, 17, 18] E E))))))))
     refine JK.alloc ttOk E E E E E 281 E (sd_upd _ E) (JA.next ⟨E, E, E, E, E, E, E, E, E, E, E, E, V⟩ [] E (JA.one 5 (by kernel_rfl) (JK.call E E E E (ok_l_toKey x2 _ hy224) E [] E E fun _ _ => JA.nextL E (JA.one 6 (by kernel_rfl) (JK.call E E E E (ok_i_PlainKey y205 y219 y223 a207 c208 y205.2.2.1.1.length E a209 c210 (Q8 y205).2.2.1.length E a211 c212 (Q8 y205).2.2.2.1.length E a213 c214 (Q12 y205).2.1.1.length E a215 c216 (Q12 y205).2.2.1.length E a217 c218 (Q16 y205).1.length E a221 c222 y219.2.length E _ hy228) E [8, 9, 10, 11, 12, 13, 7] E E ?_)))))
     rintro ⟨a229, c230, a231, c232, a233, c234, a235, c236, a237, c238, a239, c240⟩ -
     refine JA.nextL E (JA.regL ttOk panic_cx 3 [7, 8, 9, 10] E (by kernel_rfl) [] [(123, .v (.agg (cl46 y225 a229 c230 a231 c232 a233 c234 a235 c236 a237 c238 a239 c240).toArray)), (124, .v (I y226)), (125, .v (.bool y227))] E (Es E) (JA.one 12 (by kernel_rfl) (JK.stBox ttOk E E E E E E E E (JA.nextL E (JA.regL ttOk panic_cx 0 [13, 14] E (by kernel_rfl) [] [(20, .v (I y226)), (21, .v (.bool y227))] E (Es E) (JA.done (by kernel_rfl) (JS.boxes (B' := (.new 64 46 (cl46 x75 a76 c77 a78 c79 a80 c81 a82 c83 a84 c85 a86 c87) (.new 139 46 (cl46 x128 a129 c130 a131 c132 a133 c134 a135 c136 a137 c138 a139 c140) (.new 281 46 (cl46 y225 a229 c230 a231 c232 a233 c234 a235 c236 a237 c238 a239 c240) .nil)))) (Bs E E) (JS.endJA (y226, y227, y225, a229, c230, a231, c232, a233, c234, a235, c236, a237, c238, a239, c240) h (Es E) (Bs E E) [] E [0, 1, 2, 3, 4, 5, 26, 27, 28, 29, 30, 31, 13, 14, 15, 16, 17, 18] E E))))))))
    refine JK.alloc ttOk E E E E E 281 E (sd_upd _ E) (JA.next ⟨E, E, E, E, E, E, E, E, E, E, E, E, V⟩ [] E (JA.one 3 (by kernel_rfl) (JK.call E E E E (ok_l_toHist x1 a28 c29 x1.2.length E _ hy220) E [6] E E ?_)))
    rintro ⟨a221, c222⟩ -
    refine JA.next ⟨E, E, E, E, E, E, E, E, E, E, E, E, V⟩ [] E (JA.one 5 (by kernel_rfl) (JK.call E E E E (ok_l_toKey x2 _ hy224) E [] E E fun _ _ => JA.nextL E (JA.one 6 (by kernel_rfl) (JK.call E E E E (ok_i_PlainKey y205 y219 y223 a207 c208 y205.2.2.1.1.length E a209 c210 (Q8 y205).2.2.1.length E a211 c212 (Q8 y205).2.2.2.1.length E a213 c214 (Q12 y205).2.1.1.length E a215 c216 (Q12 y205).2.2.1.length E a217 c218 (Q16 y205).1.length E a221 c222 y219.2.length E _ hy228) E [8, 9, 10, 11, 12, 13, 7] E E ?_))))
    rintro ⟨a229, c230, a231, c232, a233, c234, a235, c236, a237, c238, a239, c240⟩ -
    refine JA.nextL E (JA.regL ttOk panic_cx 3 [7, 8, 9, 10] E (by kernel_rfl) [] [(123, .v (.agg (cl46 y225 a229 c230 a231 c232 a233 c234 a235 c236 a237 c238 a239 c240).toArray)), (124, .v (I y226)), (125, .v (.bool y227))] E (Es E) (JA.one 12 (by kernel_rfl) (JK.stBox ttOk E E E E E E E E (JA.nextL E (JA.regL ttOk panic_cx 0 [13, 14] E (by kernel_rfl) [] [(20, .v (I y226)), (21, .v (.bool y227))] E (Es E) (JA.done (by kernel_rfl) (JS.boxes (B' := (.new 64 46 (cl46 x75 a76 c77 a78 c79 a80 c81 a82 c83 a84 c85 a86 c87) (.new 139 46 (cl46 x128 a129 c130 a131 c132 a133 c134 a135 c136 a137 c138 a139 c140) (.new 281 46 (cl46 y225 a229 c230 a231 c232 a233 c234 a235 c236 a237 c238 a239 c240) .nil)))) (Bs E E) (JS.endJA (y226, y227, y225, a229, c230, a231, c232, a233, c234, a235, c236, a237, c238, a239, c240) h (Es E) (Bs E E) [] E [0, 1, 2, 3, 4, 5, 26, 27, 28, 29, 30, 31, 13, 14, 15, 16, 17, 18] E E))))))))
   refine JK.alloc ttOk E E E E E 281 E (sd_upd _ E) (JA.next ⟨E, E, E, E, E, E, E, E, E, E, E, E, V⟩ [] E (JA.one 1 (by kernel_rfl) (JK.call E E E E (ok_l_toEd x0 a4 c5 x0.2.2.1.1.length E a8 c9 (Q8 x0).2.2.1.length E a12 c13 (Q8 x0).2.2.2.1.length E a16 c17 (Q12 x0).2.1.1.length E a20 c21 (Q12 x0).2.2.1.length E a24 c25 (Q16 x0).1.length E _ hy206) E [0, 1, 2, 3, 4, 5] E E ?_)))
   rintro ⟨a207, c208, a209, c210, a211, c212, a213, c214, a215, c216, a217, c218⟩ -
   refine JA.next ⟨E, E, E, E, E, E, E, E, E, E, E, E, V⟩ [] E (JA.one 3 (by kernel_rfl) (JK.call E E E E (ok_l_toHist x1 a28 c29 x1.2.length E _ hy220) E [6] E E ?_))
   rintro ⟨a221, c222⟩ -
   refine JA.next ⟨E, E, E, E, E, E, E, E, E, E, E, E, V⟩ [] E (JA.one 5 (by kernel_rfl) (JK.call E E E E (ok_l_toKey x2 _ hy224) E [] E E fun _ _ => JA.nextL E (JA.one 6 (by kernel_rfl) (JK.call E E E E (ok_i_PlainKey y205 y219 y223 a207 c208 y205.2.2.1.1.length E a209 c210 (Q8 y205).2.2.1.length E a211 c212 (Q8 y205).2.2.2.1.length E a213 c214 (Q12 y205).2.1.1.length E a215 c216 (Q12 y205).2.2.1.length E a217 c218 (Q16 y205).1.length E a221 c222 y219.2.length E _ hy228) E [8, 9, 10, 11, 12, 13, 7] E E ?_))))
   rintro ⟨a229, c230, a231, c232, a233, c234, a235, c236, a237, c238, a239, c240⟩ -
   refine JA.nextL E (JA.regL ttOk panic_cx 3 [7, 8, 9, 10] E (by kernel_rfl) [] [(123, .v (.agg (cl46 y225 a229 c230 a231 c232 a233 c234 a235 c236 a237 c238 a239 c240).toArray)), (124, .v (I y226)), (125, .v (.bool y227))] E (Es E) (JA.one 12 (by kernel_rfl) (JK.stBox ttOk E E E E E E E E (JA.nextL E (JA.regL ttOk panic_cx 0 [13, 14] E (by kernel_rfl) [] [(20, .v (I y226)), (21, .v (.bool y227))] E (Es E) (JA.done (by kernel_rfl) (JS.boxes (B' := (.new 64 46 (cl46 x75 a76 c77 a78 c79 a80 c81 a82 c83 a84 c85 a86 c87) (.new 139 46 (cl46 x128 a129 c130 a131 c132 a133 c134 a135 c136 a137 c138 a139 c140) (.new 281 46 (cl46 y225 a229 c230 a231 c232 a233 c234 a235 c236 a237 c238 a239 c240) .nil)))) (Bs E E) (JS.endJA (y226, y227, y225, a229, c230, a231, c232, a233, c234, a235, c236, a237, c238, a239, c240) h (Es E) (Bs E E) [] E [0, 1, 2, 3, 4, 5, 26, 27, 28, 29, 30, 31, 13, 14, 15, 16, 17, 18] E E))))))))
  rintro ⟨x242, x243, x244, a245, c246, a247, c248, a249, c250, a251, c252, a253, c254, a255, c256⟩ h
  subst hj280
  refine JS.seq (JS.seq (JS.region (JO.reg ttOk 2 [] [] [(126, .v (.agg (cl46 x244 a245 c246 a247 c248 a249 c250 a251 c252 a253 c254 a255 c256).toArray)), (127, .v (.agg (cl46 x75 a76 c77 a78 c79 a80 c81 a82 c83 a84 c85 a86 c87).toArray))] _ E ⟨(Es E), E⟩ ?_)))
  obtain ⟨y258, hy259, h⟩ := bindO_some h
  refine JO.call E E E E (ok_l_eqEd x244 x75 a245 c246 x244.2.2.1.1.length E a247 c248 (Q8 x244).2.2.1.length E a249 c250 (Q8 x244).2.2.2.1.length E a251 c252 (Q12 x244).2.1.1.length E a253 c254 (Q12 x244).2.2.1.length E a255 c256 (Q16 x244).1.length E a76 c77 x75.2.2.1.1.length E a78 c79 (Q8 x75).2.2.1.length E a80 c81 (Q8 x75).2.2.2.1.length E a82 c83 (Q12 x75).2.1.1.length E a84 c85 (Q12 x75).2.2.1.length E a86 c87 (Q16 x75).1.length E _ hy259) E [0, 1, 2, 3, 4, 5, 6, 7, 8, 9, 10, 11] E E fun _ _ => JO.reg ttOk 11 [] [] [(139, .v (.bool (bif (bif (!y258) then true else (!(decide (x242 = x73)))) then true else (!(x243 == x74)))))] _ E ⟨⟨E, V⟩, E⟩ (JO.done E ?_)
  refine JS.cond E (fun ht279 => ?_) (fun ht279 => ?_)
  ·
   have h := condT h ht279
   refine JS.rg0 ttOk 1 [(6, .v (.bool false))] ⟨⟨E, V⟩, E⟩ E E ?_
   cases h
   exact JS.ret ttOk () V E E [] E
  have h := condF h ht279
  refine JS.skip (JS.rg0 ttOk 1 [(18, .v (I 1))] ⟨⟨E, V⟩, E⟩ E E (JS.seq (JS.region (JO.reg ttOk 2 [] [] [(140, .v (.agg (cl46 x128 a129 c130 a131 c132 a133 c134 a135 c136 a137 c138 a139 c140).toArray)), (141, .v (I 1))] _ E ⟨(Es E), E⟩ ?_))))
  obtain ⟨y260, hy261, h⟩ := bindO_some h
  refine JO.call E E E E (ok_l_heldEd (x128.1, x128.2.1, (y190, x128.2.2.1.2), x128.2.2.2.1, (Q4 x128).1, (Q4 x128).2.1, (Q4 x128).2.2.1, (Q4 x128).2.2.2.1, (Q8 x128).1, (Q8 x128).2.1, y191, y192, (Q12 x128).1, (y193, (Q12 x128).2.1.2), y194, (Q12 x128).2.2.2.1, (y195, (Q16 x128).2)) 1 a129 c130 x128.2.2.1.1.length hs197.len.symm a131 c132 (Q8 x128).2.2.1.length hs198.len.symm a133 c134 (Q8 x128).2.2.2.1.length hs199.len.symm a135 c136 (Q12 x128).2.1.1.length hs200.len.symm a137 c138 (Q12 x128).2.2.1.length hs201.len.symm a139 c140 (Q16 x128).1.length hs202.len.symm _ hy261) E [12, 13, 14, 15, 16, 17] E E fun _ _ => JO.reg ttOk 1 [] [] [(18, .v (I y260))] _ E ⟨⟨E, V⟩, E⟩ (JO.done E (JS.seq (JS.rg0 ttOk 2 [(144, .v (.bool (decide (y260 < 0))))] ⟨⟨E, V⟩, E⟩ E E ?_)))
  refine JS.cond E (fun ht278 => ?_) (fun ht278 => ?_)
  ·
   have h := condT h ht278
   refine JS.rg0 ttOk 1 [(6, .v (.bool false))] ⟨⟨E, V⟩, E⟩ E E ?_
   cases h
   exact JS.ret ttOk () V E E [] E
  have h := condF h ht278
  refine JS.skip (JS.seq (JS.rg0 ttOk 3 [(147, .v (.bool (!(decide (y260 = y189)))))] ⟨⟨E, V⟩, E⟩ E E ?_))
  refine JS.cond E (fun ht277 => ?_) (fun ht277 => ?_)
  ·
   have h := condT h ht277
   refine JS.rg0 ttOk 1 [(6, .v (.bool false))] ⟨⟨E, V⟩, E⟩ E E ?_
   cases h
   exact JS.ret ttOk () V E E [] E
  have h := condF h ht277
  refine JS.skip (JS.rg0 ttOk 1 [(6, .v (.bool true))] ⟨⟨E, V⟩, E⟩ E E ?_)
  cases h
  exact JS.ret ttOk () V E E [] E

end
end Go.Eng
