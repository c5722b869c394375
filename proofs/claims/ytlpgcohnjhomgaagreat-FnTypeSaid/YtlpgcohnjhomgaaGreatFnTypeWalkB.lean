/- The walks of the functions that FnType reaches: what each computes, as a plain function (M_..), and that the model computes it (ok_..). Condition of each: that the plain function answers. -/
import Derived.Test.YtlpgcohnjhomgaaGreatFnTypeWalkA
set_option linter.unusedVariables false
set_option linter.unusedSimpArgs false
namespace Go.Eng
open Go Go.Proofs
noncomputable section

def M_i_LinePut (x0 : List Int × Int) (x1 : List Int) : Option ((List Int × Int) × Bool) :=
  (bindO (M_i_LineOk x0) fun (y11 : Bool) =>
  (bif (bif (!y11) then true else (decide (400 < (x1.length : Int)))) then
  some (([], 0), false)
  else
  (joinO (fun (x38 : List Int) =>
  (bindO (M_i_LineOk (x38, (W (x0.2 + (x1.length : Int))))) fun (y45 : Bool) =>
  (bif (!y45) then
  some (([], 0), false)
  else
  some ((x38, (W (x0.2 + (x1.length : Int)))), true)))) fun j41 =>
  (guardO (0 ≤ (0 : Int) ∧ (0 : Int) ≤ x0.2 ∧ x0.2 ≤ (x0.1.length : Int)) <|
  (bindO (M_i_copyInts (sub' x0.1 (0 : Int) x0.2)) fun (y18 : List Int) =>
  (guardO (y18.length + x1.length ≤ 536870912) <|
  (guardO (0 ≤ x0.2 ∧ x0.2 ≤ (x0.1.length : Int) ∧ (x0.1.length : Int) ≤ (x0.1.length : Int)) <|
  (guardO ((y18 ++ x1).length + (sub' x0.1 x0.2 (x0.1.length : Int)).length ≤ 536870912) <|
  j41 ((y18 ++ x1) ++ (sub' x0.1 x0.2 (x0.1.length : Int)))))))))))

theorem ok_i_LinePut (x0 : List Int × Int) (x1 : List Int) (a3 : Option Addr) (c4 : Nat) (l5 : Nat) (hl6 : x0.1.length = l5) (a7 : Option Addr) (c8 : Nat) (l9 : Nat) (hl10 : x1.length = l9) (r : (List Int × Int) × Bool) (h : M_i_LinePut x0 x1 = some r) :
    FC Tryz.prog 245 [.agg #[.slice a3 l5 c4, .int .i64 x0.2], .slice a7 l9 c8] [⟨(.int .i64), ⟨a3, l5, c4⟩, x0.1⟩, ⟨(.int .i64), ⟨a7, l9, c8⟩, x1⟩] (fun _ : Option Addr × Nat => True) (fun q => .tuple #[.agg #[.slice q.1 r.1.1.length q.2, .int .i64 r.1.2], .bool r.2]) (fun q => [⟨(.int .i64), ⟨q.1, r.1.1.length, q.2⟩, r.1.1⟩]) :=
  by
    subst hl6
    subst hl10
    refine FC.of (T := TTx) Tryz.call245 Tryz.func245 rfl rfl fun w0 => ?_
    unfold M_i_LinePut at h
    refine JS.rgB ttOk 3 [] [3, 4] [(2, .bp 3 0), (4, .bp 4 0)] (.new 3 38 [.slice a3 x0.1.length c4, .int .i64 x0.2] (.new 4 38 [.slice none 0 0, .int .i64 0] .nil)) ⟨(Es rfl), (Bs rfl rfl)⟩ rfl rfl (JS.seq (JS.seq (JS.region (JO.reg ttOk 1 [] [] [(7, .v (.agg #[.slice a3 x0.1.length c4, .int .i64 x0.2]))] _ rfl ⟨⟨rfl, trivial⟩, rfl⟩ ?_))))
    obtain ⟨y11, hy12, h⟩ := bindO_some h
    refine JO.call rfl rfl rfl rfl (ok_i_LineOk x0 a3 c4 x0.1.length rfl _ hy12) rfl [0] rfl rfl fun _ _ => JO.reg ttOk 6 [] [] [(14, .v (.bool (bif (!y11) then true else (decide (400 < (x1.length : Int))))))] _ rfl ⟨⟨rfl, trivial⟩, rfl⟩ (JO.done rfl ?_)
    refine JS.cond rfl (fun ht58 => ?_) (fun ht58 => ?_)
    · have h := condT h ht58
      refine JS.rgB ttOk 3 [] [] [(5, .v (.bool false))] (.new 4 38 [.slice none 0 0, .int .i64 0] .nil) ⟨⟨rfl, trivial⟩, (Bs rfl rfl)⟩ rfl rfl ?_
      cases h
      refine JS.nilO (.int .i64) Sl.nil rfl rfl (JS.ret ttOk (none, 0) trivial rfl rfl [0] rfl)
    have h := condF h ht58
    refine JS.skip (JS.seq ?_)
    obtain ⟨j41, hj57, h⟩ := joinO_some h
    refine JS.cutJ (ι := List Int × Option Addr × Nat) ⟨fun z => j41 z.1 = some r, fun z => [(4, .bp 4 0), (6, .bp 30 0)], fun z => (.new 4 38 [.slice none 0 0, .int .i64 0] (.new 30 38 [.slice z.2.1 z.1.length z.2.2, .int .i64 (W (x0.2 + (x1.length : Int)))] .nil)), fun z => [], fun z => [⟨(.int .i64), ⟨z.2.1, z.1.length, z.2.2⟩, z.1⟩], fun z => 0⟩ ?_ ?_
    · obtain ⟨g13, h⟩ := guardO_some h
      obtain ⟨y18, hy19, h⟩ := bindO_some h
      obtain ⟨g22, h⟩ := guardO_some h
      obtain ⟨g25, h⟩ := guardO_some h
      obtain ⟨g29, h⟩ := guardO_some h
      refine JS.subR 0 rfl (0 : Int) x0.2 fun a14 c15 hu16 => JS.subR 1 rfl x0.2 (x0.1.length : Int) fun a26 c27 hu28 => JS.know 2 rfl fun hs55 => ?_
      refine JS.regionA rfl (.new 3 38 [.slice a3 x0.1.length c4, .int .i64 x0.2] .nil) [] [19, 21] ⟨rfl, rfl, rfl, rfl, trivial⟩ rfl (fun be34 => ?_)
      refine JA.regL ttOk panic_cx 20 [0, 2] rfl (by kernel_rfl) [] [(16, .bp 3 0), (18, .bp 3 1)] rfl (Es rfl) (JA.reg ttOk panic_cx true 8 [1, 3, 6, 8, 9, 10, 11, 14, 15, 16, 17, 18] rfl (by kernel_rfl) [(W (x0.2 + (x1.length : Int)))] [(17, .v (.slice a3 x0.1.length c4)), (19, .v (.int .i64 x0.2)), (22, .v (.slice a7 x1.length c8)), (25, .v (.slice a3 x0.1.length c4)), (27, .v (.int .i64 x0.2)), (34, .v (.int .i64 (W (x0.2 + (x1.length : Int)))))] ⟨rfl, rfl, rfl, rfl, trivial⟩ [] rfl rfl ⟨⟨trivial, rfl⟩, (Es rfl)⟩ (JA.sliceP ttOk panic_cx 4 rfl (by kernel_rfl) rfl rfl rfl rfl rfl rfl (0 : Int) x0.2 rfl rfl ⟨g13.1, g13.2.1, g13.2.2, hs55.cap, hu16 g13⟩ rfl (JA.sliceP ttOk panic_cx 12 rfl (by kernel_rfl) rfl rfl rfl rfl rfl rfl x0.2 (x0.1.length : Int) rfl rfl ⟨g25.1, g25.2.1, g25.2.2, hs55.cap, hu28 g25⟩ rfl ?_)))
      refine JA.all (rs := [5, 20]) (by kernel_rfl) rfl (List.forall_mem_cons.2 ⟨?_, List.forall_mem_cons.2 ⟨?_, (fun _ hx => absurd hx List.not_mem_nil)⟩⟩)
      · refine JK.call rfl rfl rfl rfl (ok_i_copyInts (sub' x0.1 (0 : Int) x0.2) a14 c15 ((sub' x0.1 (0 : Int) x0.2).length) rfl _ hy19) rfl [1] rfl rfl ?_
        rintro ⟨a20, c21⟩ -
        refine JA.next ⟨rfl, rfl, rfl, rfl, trivial⟩ [] rfl ?_
        refine JA.all (rs := [7, 20]) (by kernel_rfl) rfl (List.forall_mem_cons.2 ⟨?_, List.forall_mem_cons.2 ⟨?_, (fun _ hx => absurd hx List.not_mem_nil)⟩⟩)
        · refine JK.appendR' ttOk rfl rfl rfl rfl ⟨rfl, rfl, rfl, rfl, trivial, rfl, rfl, rfl, rfl⟩ rfl rfl rfl [0] rfl 3 rfl g22 rfl fun a23 c24 => JA.next ⟨rfl, rfl, rfl, rfl, trivial⟩ [] rfl ?_
          refine JA.all (rs := [13, 20]) (by kernel_rfl) rfl (List.forall_mem_cons.2 ⟨?_, List.forall_mem_cons.2 ⟨?_, (fun _ hx => absurd hx List.not_mem_nil)⟩⟩)
          · refine JK.appendR' ttOk rfl rfl rfl rfl ⟨rfl, rfl, rfl, rfl, trivial, rfl, rfl, rfl, rfl⟩ rfl rfl rfl [0] rfl 0 rfl g29 rfl fun a30 c31 => JA.next ⟨rfl, rfl, rfl, rfl, trivial⟩ [] rfl (JA.regL ttOk panic_cx 2 [19] rfl (by kernel_rfl) [] [(35, .v (.agg #[.slice a30 ((y18 ++ x1) ++ (sub' x0.1 x0.2 (x0.1.length : Int))).length c31, .int .i64 (W (x0.2 + (x1.length : Int)))]))] rfl ⟨rfl, trivial⟩ (JA.one 20 (by kernel_rfl) (JK.alloc ttOk rfl rfl rfl rfl rfl 30 rfl (sd_upd _ rfl) (JA.next ⟨rfl, rfl, rfl, rfl, trivial⟩ [] rfl (JA.one 21 (by kernel_rfl) (JK.stBox ttOk rfl rfl rfl rfl rfl rfl rfl rfl (JA.nextL rfl (JA.done (by kernel_rfl) (JS.boxes (B' := (.new 4 38 [.slice none 0 0, .int .i64 0] (.new 30 38 [.slice a30 ((y18 ++ x1) ++ (sub' x0.1 x0.2 (x0.1.length : Int))).length c31, .int .i64 (W (x0.2 + (x1.length : Int)))] .nil))) (Bs rfl rfl) (JS.endJ (((y18 ++ x1) ++ (sub' x0.1 x0.2 (x0.1.length : Int))), a30, c31) h (Es rfl) (Bs rfl rfl) [] rfl [0] rfl))))))))))
          refine JK.alloc ttOk rfl rfl rfl rfl rfl 30 rfl (sd_upd _ rfl) (JA.next ⟨rfl, rfl, rfl, rfl, trivial⟩ [] rfl (JA.one 13 (by kernel_rfl) (JK.appendR' ttOk rfl rfl rfl rfl ⟨rfl, rfl, rfl, rfl, trivial, rfl, rfl, rfl, rfl⟩ rfl rfl rfl [0] rfl 0 rfl g29 rfl fun a30 c31 => JA.next ⟨rfl, rfl, rfl, rfl, trivial⟩ [] rfl (JA.regL ttOk panic_cx 1 [19] rfl (by kernel_rfl) [] [(35, .v (.agg #[.slice a30 ((y18 ++ x1) ++ (sub' x0.1 x0.2 (x0.1.length : Int))).length c31, .int .i64 (W (x0.2 + (x1.length : Int)))]))] rfl ⟨rfl, trivial⟩ (JA.one 21 (by kernel_rfl) (JK.stBox ttOk rfl rfl rfl rfl rfl rfl rfl rfl (JA.nextL rfl (JA.done (by kernel_rfl) (JS.boxes (B' := (.new 4 38 [.slice none 0 0, .int .i64 0] (.new 30 38 [.slice a30 ((y18 ++ x1) ++ (sub' x0.1 x0.2 (x0.1.length : Int))).length c31, .int .i64 (W (x0.2 + (x1.length : Int)))] .nil))) (Bs rfl rfl) (JS.endJ (((y18 ++ x1) ++ (sub' x0.1 x0.2 (x0.1.length : Int))), a30, c31) h (Es rfl) (Bs rfl rfl) [] rfl [0] rfl))))))))))
        refine JK.alloc ttOk rfl rfl rfl rfl rfl 30 rfl (sd_upd _ rfl) (JA.next ⟨rfl, rfl, rfl, rfl, trivial⟩ [] rfl (JA.one 7 (by kernel_rfl) (JK.appendR' ttOk rfl rfl rfl rfl ⟨rfl, rfl, rfl, rfl, trivial, rfl, rfl, rfl, rfl⟩ rfl rfl rfl [0] rfl 3 rfl g22 rfl fun a23 c24 => JA.next ⟨rfl, rfl, rfl, rfl, trivial⟩ [] rfl (JA.one 13 (by kernel_rfl) (JK.appendR' ttOk rfl rfl rfl rfl ⟨rfl, rfl, rfl, rfl, trivial, rfl, rfl, rfl, rfl⟩ rfl rfl rfl [0] rfl 0 rfl g29 rfl fun a30 c31 => JA.next ⟨rfl, rfl, rfl, rfl, trivial⟩ [] rfl (JA.regL ttOk panic_cx 1 [19] rfl (by kernel_rfl) [] [(35, .v (.agg #[.slice a30 ((y18 ++ x1) ++ (sub' x0.1 x0.2 (x0.1.length : Int))).length c31, .int .i64 (W (x0.2 + (x1.length : Int)))]))] rfl ⟨rfl, trivial⟩ (JA.one 21 (by kernel_rfl) (JK.stBox ttOk rfl rfl rfl rfl rfl rfl rfl rfl (JA.nextL rfl (JA.done (by kernel_rfl) (JS.boxes (B' := (.new 4 38 [.slice none 0 0, .int .i64 0] (.new 30 38 [.slice a30 ((y18 ++ x1) ++ (sub' x0.1 x0.2 (x0.1.length : Int))).length c31, .int .i64 (W (x0.2 + (x1.length : Int)))] .nil))) (Bs rfl rfl) (JS.endJ (((y18 ++ x1) ++ (sub' x0.1 x0.2 (x0.1.length : Int))), a30, c31) h (Es rfl) (Bs rfl rfl) [] rfl [0] rfl))))))))))))
      refine JK.alloc ttOk rfl rfl rfl rfl rfl 30 rfl (sd_upd _ rfl) (JA.next ⟨rfl, rfl, rfl, rfl, trivial⟩ [] rfl (JA.one 5 (by kernel_rfl) (JK.call rfl rfl rfl rfl (ok_i_copyInts (sub' x0.1 (0 : Int) x0.2) a14 c15 ((sub' x0.1 (0 : Int) x0.2).length) rfl _ hy19) rfl [1] rfl rfl ?_)))
      rintro ⟨a20, c21⟩ -
      refine JA.next ⟨rfl, rfl, rfl, rfl, trivial⟩ [] rfl (JA.one 7 (by kernel_rfl) (JK.appendR' ttOk rfl rfl rfl rfl ⟨rfl, rfl, rfl, rfl, trivial, rfl, rfl, rfl, rfl⟩ rfl rfl rfl [0] rfl 3 rfl g22 rfl fun a23 c24 => JA.next ⟨rfl, rfl, rfl, rfl, trivial⟩ [] rfl (JA.one 13 (by kernel_rfl) (JK.appendR' ttOk rfl rfl rfl rfl ⟨rfl, rfl, rfl, rfl, trivial, rfl, rfl, rfl, rfl⟩ rfl rfl rfl [0] rfl 0 rfl g29 rfl fun a30 c31 => JA.next ⟨rfl, rfl, rfl, rfl, trivial⟩ [] rfl (JA.regL ttOk panic_cx 1 [19] rfl (by kernel_rfl) [] [(35, .v (.agg #[.slice a30 ((y18 ++ x1) ++ (sub' x0.1 x0.2 (x0.1.length : Int))).length c31, .int .i64 (W (x0.2 + (x1.length : Int)))]))] rfl ⟨rfl, trivial⟩ (JA.one 21 (by kernel_rfl) (JK.stBox ttOk rfl rfl rfl rfl rfl rfl rfl rfl (JA.nextL rfl (JA.done (by kernel_rfl) (JS.boxes (B' := (.new 4 38 [.slice none 0 0, .int .i64 0] (.new 30 38 [.slice a30 ((y18 ++ x1) ++ (sub' x0.1 x0.2 (x0.1.length : Int))).length c31, .int .i64 (W (x0.2 + (x1.length : Int)))] .nil))) (Bs rfl rfl) (JS.endJ (((y18 ++ x1) ++ (sub' x0.1 x0.2 (x0.1.length : Int))), a30, c31) h (Es rfl) (Bs rfl rfl) [] rfl [0] rfl)))))))))))
    rintro ⟨x38, a39, c40⟩ h
    subst hj57
    refine JS.seq (JS.seq (JS.region (JO.reg ttOk 1 [] [] [(36, .v (.agg #[.slice a39 x38.length c40, .int .i64 (W (x0.2 + (x1.length : Int)))]))] _ rfl ⟨⟨rfl, trivial⟩, rfl⟩ ?_)))
    obtain ⟨y45, hy46, h⟩ := bindO_some h
    refine JO.call rfl rfl rfl rfl (ok_i_LineOk (x38, (W (x0.2 + (x1.length : Int)))) a39 c40 x38.length rfl _ hy46) rfl [0] rfl rfl fun _ _ => JO.reg ttOk 1 [] [] [(38, .v (.bool (!y45)))] _ rfl ⟨⟨rfl, trivial⟩, rfl⟩ (JO.done rfl ?_)
    refine JS.cond rfl (fun ht56 => ?_) (fun ht56 => ?_)
    · have h := condT h ht56
      refine JS.rgB ttOk 3 [] [] [(5, .v (.bool false))] (.new 4 38 [.slice none 0 0, .int .i64 0] .nil) ⟨⟨rfl, trivial⟩, (Bs rfl rfl)⟩ rfl rfl ?_
      cases h
      refine JS.nilO (.int .i64) Sl.nil rfl rfl (JS.ret ttOk (none, 0) trivial rfl rfl [0] rfl)
    have h := condF h ht56
    refine JS.skip (JS.rgB ttOk 3 [] [] [(5, .v (.bool true))] (.new 4 38 [.slice a39 x38.length c40, .int .i64 (W (x0.2 + (x1.length : Int)))] .nil) ⟨⟨rfl, trivial⟩, (Bs rfl rfl)⟩ rfl rfl ?_)
    cases h
    exact JS.ret ttOk (a39, c40) trivial rfl rfl [0] rfl

def M_i_settled (x0 : Bool × Int × (List Int × Int) × Int × Int × Int × Int × Int × Int × Int × List (List Int) × (List (List Int × Int)) × Int × (List Int × Int) × List Int × Int × List Int × Int) (x1 : Int) : Option (Bool × Int × (List Int × Int) × Int × Int × Int × Int × Int × Int × Int × List (List Int) × (List (List Int × Int)) × Int × (List Int × Int) × List Int × Int × List Int × Int) :=
  (bindO (M_i_copyEd x0) fun (y27 : Bool × Int × (List Int × Int) × Int × Int × Int × Int × Int × Int × Int × List (List Int) × (List (List Int × Int)) × Int × (List Int × Int) × List Int × Int × List Int × Int) =>
  some (y27.1, y27.2.1, y27.2.2.1, 0, 0, 0, 0, y27.2.2.2.2.2.2.2.1, y27.2.2.2.2.2.2.2.2.1, x1, y27.2.2.2.2.2.2.2.2.2.2.1, y27.2.2.2.2.2.2.2.2.2.2.2.1, y27.2.2.2.2.2.2.2.2.2.2.2.2.1, y27.2.2.2.2.2.2.2.2.2.2.2.2.2.1, y27.2.2.2.2.2.2.2.2.2.2.2.2.2.2.1, y27.2.2.2.2.2.2.2.2.2.2.2.2.2.2.2.1, y27.2.2.2.2.2.2.2.2.2.2.2.2.2.2.2.2))

theorem ok_i_settled (x0 : Bool × Int × (List Int × Int) × Int × Int × Int × Int × Int × Int × Int × List (List Int) × (List (List Int × Int)) × Int × (List Int × Int) × List Int × Int × List Int × Int) (x1 : Int) (a3 : Option Addr) (c4 : Nat) (l5 : Nat) (hl6 : x0.2.2.1.1.length = l5) (a7 : Option Addr) (c8 : Nat) (l9 : Nat) (hl10 : x0.2.2.2.2.2.2.2.2.2.2.1.length = l9) (a11 : Option Addr) (c12 : Nat) (l13 : Nat) (hl14 : x0.2.2.2.2.2.2.2.2.2.2.2.1.length = l13) (a15 : Option Addr) (c16 : Nat) (l17 : Nat) (hl18 : x0.2.2.2.2.2.2.2.2.2.2.2.2.2.1.1.length = l17) (a19 : Option Addr) (c20 : Nat) (l21 : Nat) (hl22 : x0.2.2.2.2.2.2.2.2.2.2.2.2.2.2.1.length = l21) (a23 : Option Addr) (c24 : Nat) (l25 : Nat) (hl26 : x0.2.2.2.2.2.2.2.2.2.2.2.2.2.2.2.2.1.length = l25) (r : Bool × Int × (List Int × Int) × Int × Int × Int × Int × Int × Int × Int × List (List Int) × (List (List Int × Int)) × Int × (List Int × Int) × List Int × Int × List Int × Int) (h : M_i_settled x0 x1 = some r) :
    FC Tryz.prog 209 [.agg #[.bool x0.1, .int .i64 x0.2.1, .slice a3 l5 c4, .int .i64 x0.2.2.1.2, .int .i64 x0.2.2.2.1, .int .i64 x0.2.2.2.2.1, .int .i64 x0.2.2.2.2.2.1, .int .i64 x0.2.2.2.2.2.2.1, .int .i64 x0.2.2.2.2.2.2.2.1, .int .i64 x0.2.2.2.2.2.2.2.2.1, .int .i64 x0.2.2.2.2.2.2.2.2.2.1, .slice a7 l9 c8, .slice a11 l13 c12, .int .i64 x0.2.2.2.2.2.2.2.2.2.2.2.2.1, .slice a15 l17 c16, .int .i64 x0.2.2.2.2.2.2.2.2.2.2.2.2.2.1.2, .slice a19 l21 c20, .int .i64 x0.2.2.2.2.2.2.2.2.2.2.2.2.2.2.2.1, .slice a23 l25 c24, .int .i64 x0.2.2.2.2.2.2.2.2.2.2.2.2.2.2.2.2.2], .int .i64 x1] [⟨(.int .i64), ⟨a3, l5, c4⟩, x0.2.2.1.1⟩, ⟨(.sl (.int .i64)), ⟨a7, l9, c8⟩, x0.2.2.2.2.2.2.2.2.2.2.1⟩, ⟨(.pair (.sl (.int .i64)) (.int .i64)), ⟨a11, l13, c12⟩, x0.2.2.2.2.2.2.2.2.2.2.2.1⟩, ⟨(.int .i64), ⟨a15, l17, c16⟩, x0.2.2.2.2.2.2.2.2.2.2.2.2.2.1.1⟩, ⟨(.int .i64), ⟨a19, l21, c20⟩, x0.2.2.2.2.2.2.2.2.2.2.2.2.2.2.1⟩, ⟨(.int .i64), ⟨a23, l25, c24⟩, x0.2.2.2.2.2.2.2.2.2.2.2.2.2.2.2.2.1⟩] (fun _ : Option Addr × Nat × Option Addr × Nat × Option Addr × Nat × Option Addr × Nat × Option Addr × Nat × Option Addr × Nat => True) (fun q => .agg (cl46 r q.1 q.2.1 q.2.2.1 q.2.2.2.1 q.2.2.2.2.1 q.2.2.2.2.2.1 q.2.2.2.2.2.2.1 q.2.2.2.2.2.2.2.1 q.2.2.2.2.2.2.2.2.1 q.2.2.2.2.2.2.2.2.2.1 q.2.2.2.2.2.2.2.2.2.2.1 q.2.2.2.2.2.2.2.2.2.2.2).toArray) (fun q => [⟨(.int .i64), ⟨q.1, r.2.2.1.1.length, q.2.1⟩, r.2.2.1.1⟩, ⟨(.sl (.int .i64)), ⟨q.2.2.1, r.2.2.2.2.2.2.2.2.2.2.1.length, q.2.2.2.1⟩, r.2.2.2.2.2.2.2.2.2.2.1⟩, ⟨(.pair (.sl (.int .i64)) (.int .i64)), ⟨q.2.2.2.2.1, r.2.2.2.2.2.2.2.2.2.2.2.1.length, q.2.2.2.2.2.1⟩, r.2.2.2.2.2.2.2.2.2.2.2.1⟩, ⟨(.int .i64), ⟨q.2.2.2.2.2.2.1, r.2.2.2.2.2.2.2.2.2.2.2.2.2.1.1.length, q.2.2.2.2.2.2.2.1⟩, r.2.2.2.2.2.2.2.2.2.2.2.2.2.1.1⟩, ⟨(.int .i64), ⟨q.2.2.2.2.2.2.2.2.1, r.2.2.2.2.2.2.2.2.2.2.2.2.2.2.1.length, q.2.2.2.2.2.2.2.2.2.1⟩, r.2.2.2.2.2.2.2.2.2.2.2.2.2.2.1⟩, ⟨(.int .i64), ⟨q.2.2.2.2.2.2.2.2.2.2.1, r.2.2.2.2.2.2.2.2.2.2.2.2.2.2.2.2.1.length, q.2.2.2.2.2.2.2.2.2.2.2⟩, r.2.2.2.2.2.2.2.2.2.2.2.2.2.2.2.2.1⟩]) :=
  by
    subst hl6
    subst hl10
    subst hl14
    subst hl18
    subst hl22
    subst hl26
    refine FC.of (T := TTx) Tryz.call209 Tryz.func209 rfl rfl fun w0 => ?_
    unfold M_i_settled at h
    refine JS.rgB ttOk 2 [] [7, 8] [(2, .bp 7 0), (4, .bp 8 0)] (.new 7 46 (cl46 x0 a3 c4 a7 c8 a11 c12 a15 c16 a19 c20 a23 c24) (.new 8 46 (cl46 (false, 0, ([], 0), 0, 0, 0, 0, 0, 0, 0, [], [], 0, ([], 0), [], 0, ([], 0)) none 0 none 0 none 0 none 0 none 0 none 0) .nil)) ⟨(Es rfl), (Bs rfl rfl)⟩ rfl rfl (JS.seq (JS.region (JO.reg ttOk 1 [] [] [(6, .v (.agg (cl46 x0 a3 c4 a7 c8 a11 c12 a15 c16 a19 c20 a23 c24).toArray))] _ rfl ⟨⟨rfl, trivial⟩, rfl⟩ ?_)))
    obtain ⟨y27, hy28, h⟩ := bindO_some h
    refine JO.call rfl rfl rfl rfl (ok_i_copyEd x0 a3 c4 x0.2.2.1.1.length rfl a7 c8 x0.2.2.2.2.2.2.2.2.2.2.1.length rfl a11 c12 x0.2.2.2.2.2.2.2.2.2.2.2.1.length rfl a15 c16 x0.2.2.2.2.2.2.2.2.2.2.2.2.2.1.1.length rfl a19 c20 x0.2.2.2.2.2.2.2.2.2.2.2.2.2.2.1.length rfl a23 c24 x0.2.2.2.2.2.2.2.2.2.2.2.2.2.2.2.2.1.length rfl _ hy28) rfl [0, 1, 2, 3, 4, 5] rfl rfl ?_
    rintro ⟨a29, c30, a31, c32, a33, c34, a35, c36, a37, c38, a39, c40⟩ -
    refine JO.regB ttOk 2 [] [29] [(5, .bp 29 0)] (.new 8 46 (cl46 (false, 0, ([], 0), 0, 0, 0, 0, 0, 0, 0, [], [], 0, ([], 0), [], 0, ([], 0)) none 0 none 0 none 0 none 0 none 0 none 0) (.new 29 46 (cl46 y27 a29 c30 a31 c32 a33 c34 a35 c36 a37 c38 a39 c40) .nil)) rfl ⟨⟨rfl, trivial⟩, (Bs rfl rfl)⟩ (JO.done rfl (JS.rgB ttOk 11 [] [] [] (.new 8 46 (cl46 (false, 0, ([], 0), 0, 0, 0, 0, 0, 0, 0, [], [], 0, ([], 0), [], 0, ([], 0)) none 0 none 0 none 0 none 0 none 0 none 0) (.new 29 46 (cl46 (y27.1, y27.2.1, y27.2.2.1, 0, 0, 0, 0, y27.2.2.2.2.2.2.2.1, y27.2.2.2.2.2.2.2.2.1, x1, y27.2.2.2.2.2.2.2.2.2.2.1, y27.2.2.2.2.2.2.2.2.2.2.2.1, y27.2.2.2.2.2.2.2.2.2.2.2.2.1, y27.2.2.2.2.2.2.2.2.2.2.2.2.2.1, y27.2.2.2.2.2.2.2.2.2.2.2.2.2.2.1, y27.2.2.2.2.2.2.2.2.2.2.2.2.2.2.2.1, y27.2.2.2.2.2.2.2.2.2.2.2.2.2.2.2.2) a29 c30 a31 c32 a33 c34 a35 c36 a37 c38 a39 c40) .nil)) ⟨trivial, (Bs rfl rfl)⟩ rfl rfl (JS.rgB ttOk 2 [] [] [] (.new 8 46 (cl46 (y27.1, y27.2.1, y27.2.2.1, 0, 0, 0, 0, y27.2.2.2.2.2.2.2.1, y27.2.2.2.2.2.2.2.2.1, x1, y27.2.2.2.2.2.2.2.2.2.2.1, y27.2.2.2.2.2.2.2.2.2.2.2.1, y27.2.2.2.2.2.2.2.2.2.2.2.2.1, y27.2.2.2.2.2.2.2.2.2.2.2.2.2.1, y27.2.2.2.2.2.2.2.2.2.2.2.2.2.2.1, y27.2.2.2.2.2.2.2.2.2.2.2.2.2.2.2.1, y27.2.2.2.2.2.2.2.2.2.2.2.2.2.2.2.2) a29 c30 a31 c32 a33 c34 a35 c36 a37 c38 a39 c40) .nil) ⟨trivial, (Bs rfl rfl)⟩ rfl rfl ?_)))
    cases h
    exact JS.ret ttOk (a29, c30, a31, c32, a33, c34, a35, c36, a37, c38, a39, c40) trivial rfl rfl [0, 0, 0, 0, 0, 0] rfl

def M_i_bell (x0 : Bool × Int × (List Int × Int) × Int × Int × Int × Int × Int × Int × Int × List (List Int) × (List (List Int × Int)) × Int × (List Int × Int) × List Int × Int × List Int × Int) : Option ((Bool × Int × (List Int × Int) × Int × Int × Int × Int × Int × Int × Int × List (List Int) × (List (List Int × Int)) × Int × (List Int × Int) × List Int × Int × List Int × Int) × Int) :=
  (bindO (M_i_settled x0 0) fun (y26 : Bool × Int × (List Int × Int) × Int × Int × Int × Int × Int × Int × Int × List (List Int) × (List (List Int × Int)) × Int × (List Int × Int) × List Int × Int × List Int × Int) =>
  some (y26, 1))

theorem ok_i_bell (x0 : Bool × Int × (List Int × Int) × Int × Int × Int × Int × Int × Int × Int × List (List Int) × (List (List Int × Int)) × Int × (List Int × Int) × List Int × Int × List Int × Int) (a2 : Option Addr) (c3 : Nat) (l4 : Nat) (hl5 : x0.2.2.1.1.length = l4) (a6 : Option Addr) (c7 : Nat) (l8 : Nat) (hl9 : x0.2.2.2.2.2.2.2.2.2.2.1.length = l8) (a10 : Option Addr) (c11 : Nat) (l12 : Nat) (hl13 : x0.2.2.2.2.2.2.2.2.2.2.2.1.length = l12) (a14 : Option Addr) (c15 : Nat) (l16 : Nat) (hl17 : x0.2.2.2.2.2.2.2.2.2.2.2.2.2.1.1.length = l16) (a18 : Option Addr) (c19 : Nat) (l20 : Nat) (hl21 : x0.2.2.2.2.2.2.2.2.2.2.2.2.2.2.1.length = l20) (a22 : Option Addr) (c23 : Nat) (l24 : Nat) (hl25 : x0.2.2.2.2.2.2.2.2.2.2.2.2.2.2.2.2.1.length = l24) (r : (Bool × Int × (List Int × Int) × Int × Int × Int × Int × Int × Int × Int × List (List Int) × (List (List Int × Int)) × Int × (List Int × Int) × List Int × Int × List Int × Int) × Int) (h : M_i_bell x0 = some r) :
    FC Tryz.prog 119 [.agg #[.bool x0.1, .int .i64 x0.2.1, .slice a2 l4 c3, .int .i64 x0.2.2.1.2, .int .i64 x0.2.2.2.1, .int .i64 x0.2.2.2.2.1, .int .i64 x0.2.2.2.2.2.1, .int .i64 x0.2.2.2.2.2.2.1, .int .i64 x0.2.2.2.2.2.2.2.1, .int .i64 x0.2.2.2.2.2.2.2.2.1, .int .i64 x0.2.2.2.2.2.2.2.2.2.1, .slice a6 l8 c7, .slice a10 l12 c11, .int .i64 x0.2.2.2.2.2.2.2.2.2.2.2.2.1, .slice a14 l16 c15, .int .i64 x0.2.2.2.2.2.2.2.2.2.2.2.2.2.1.2, .slice a18 l20 c19, .int .i64 x0.2.2.2.2.2.2.2.2.2.2.2.2.2.2.2.1, .slice a22 l24 c23, .int .i64 x0.2.2.2.2.2.2.2.2.2.2.2.2.2.2.2.2.2]] [⟨(.int .i64), ⟨a2, l4, c3⟩, x0.2.2.1.1⟩, ⟨(.sl (.int .i64)), ⟨a6, l8, c7⟩, x0.2.2.2.2.2.2.2.2.2.2.1⟩, ⟨(.pair (.sl (.int .i64)) (.int .i64)), ⟨a10, l12, c11⟩, x0.2.2.2.2.2.2.2.2.2.2.2.1⟩, ⟨(.int .i64), ⟨a14, l16, c15⟩, x0.2.2.2.2.2.2.2.2.2.2.2.2.2.1.1⟩, ⟨(.int .i64), ⟨a18, l20, c19⟩, x0.2.2.2.2.2.2.2.2.2.2.2.2.2.2.1⟩, ⟨(.int .i64), ⟨a22, l24, c23⟩, x0.2.2.2.2.2.2.2.2.2.2.2.2.2.2.2.2.1⟩] (fun _ : Option Addr × Nat × Option Addr × Nat × Option Addr × Nat × Option Addr × Nat × Option Addr × Nat × Option Addr × Nat => True) (fun q => .tuple #[.agg (cl46 r.1 q.1 q.2.1 q.2.2.1 q.2.2.2.1 q.2.2.2.2.1 q.2.2.2.2.2.1 q.2.2.2.2.2.2.1 q.2.2.2.2.2.2.2.1 q.2.2.2.2.2.2.2.2.1 q.2.2.2.2.2.2.2.2.2.1 q.2.2.2.2.2.2.2.2.2.2.1 q.2.2.2.2.2.2.2.2.2.2.2).toArray, .int .i64 r.2]) (fun q => [⟨(.int .i64), ⟨q.1, r.1.2.2.1.1.length, q.2.1⟩, r.1.2.2.1.1⟩, ⟨(.sl (.int .i64)), ⟨q.2.2.1, r.1.2.2.2.2.2.2.2.2.2.2.1.length, q.2.2.2.1⟩, r.1.2.2.2.2.2.2.2.2.2.2.1⟩, ⟨(.pair (.sl (.int .i64)) (.int .i64)), ⟨q.2.2.2.2.1, r.1.2.2.2.2.2.2.2.2.2.2.2.1.length, q.2.2.2.2.2.1⟩, r.1.2.2.2.2.2.2.2.2.2.2.2.1⟩, ⟨(.int .i64), ⟨q.2.2.2.2.2.2.1, r.1.2.2.2.2.2.2.2.2.2.2.2.2.2.1.1.length, q.2.2.2.2.2.2.2.1⟩, r.1.2.2.2.2.2.2.2.2.2.2.2.2.2.1.1⟩, ⟨(.int .i64), ⟨q.2.2.2.2.2.2.2.2.1, r.1.2.2.2.2.2.2.2.2.2.2.2.2.2.2.1.length, q.2.2.2.2.2.2.2.2.2.1⟩, r.1.2.2.2.2.2.2.2.2.2.2.2.2.2.2.1⟩, ⟨(.int .i64), ⟨q.2.2.2.2.2.2.2.2.2.2.1, r.1.2.2.2.2.2.2.2.2.2.2.2.2.2.2.2.2.1.length, q.2.2.2.2.2.2.2.2.2.2.2⟩, r.1.2.2.2.2.2.2.2.2.2.2.2.2.2.2.2.2.1⟩]) :=
  by
    subst hl5
    subst hl9
    subst hl13
    subst hl17
    subst hl21
    subst hl25
    refine FC.of (T := TTx) Tryz.call119 Tryz.func119 rfl rfl fun w0 => ?_
    unfold M_i_bell at h
    refine JS.rgB ttOk 3 [] [7, 8] [(1, .bp 7 0), (2, .bp 8 0)] (.new 7 46 (cl46 x0 a2 c3 a6 c7 a10 c11 a14 c15 a18 c19 a22 c23) (.new 8 46 (cl46 (false, 0, ([], 0), 0, 0, 0, 0, 0, 0, 0, [], [], 0, ([], 0), [], 0, ([], 0)) none 0 none 0 none 0 none 0 none 0 none 0) .nil)) ⟨(Es rfl), (Bs rfl rfl)⟩ rfl rfl (JS.seq (JS.region (JO.reg ttOk 1 [] [] [(4, .v (.agg (cl46 x0 a2 c3 a6 c7 a10 c11 a14 c15 a18 c19 a22 c23).toArray))] _ rfl ⟨⟨rfl, trivial⟩, rfl⟩ ?_)))
    obtain ⟨y26, hy27, h⟩ := bindO_some h
    refine JO.call rfl rfl rfl rfl (ok_i_settled x0 0 a2 c3 x0.2.2.1.1.length rfl a6 c7 x0.2.2.2.2.2.2.2.2.2.2.1.length rfl a10 c11 x0.2.2.2.2.2.2.2.2.2.2.2.1.length rfl a14 c15 x0.2.2.2.2.2.2.2.2.2.2.2.2.2.1.1.length rfl a18 c19 x0.2.2.2.2.2.2.2.2.2.2.2.2.2.2.1.length rfl a22 c23 x0.2.2.2.2.2.2.2.2.2.2.2.2.2.2.2.2.1.length rfl _ hy27) rfl [0, 1, 2, 3, 4, 5] rfl rfl ?_
    rintro ⟨a28, c29, a30, c31, a32, c33, a34, c35, a36, c37, a38, c39⟩ -
    refine JO.regB ttOk 2 [] [] [(3, .v (.int .i64 1))] (.new 8 46 (cl46 y26 a28 c29 a30 c31 a32 c33 a34 c35 a36 c37 a38 c39) .nil) rfl ⟨⟨rfl, trivial⟩, (Bs rfl rfl)⟩ (JO.done rfl ?_)
    cases h
    exact JS.ret ttOk (a28, c29, a30, c31, a32, c33, a34, c35, a36, c37, a38, c39) trivial rfl rfl [0, 0, 0, 0, 0, 0] rfl

def M_i_sameInts_L1 (x0 : List Int) (x1 : List Int) (j28 : Unit → Option Bool) (k20 : Int → Option Bool) : Int → Option Bool := fun x11 =>
  (bif (decide (x11 < (x0.length : Int))) then
  (guardO (0 ≤ x11 ∧ x11 < (x0.length : Int)) <|
  (guardO (0 ≤ x11 ∧ x11 < (x1.length : Int)) <|
  (bif (!(decide ((at' x0 x11) = (at' x1 x11)))) then
  some false
  else
  k20 (W (x11 + 1)))))
  else
  j28 ())

def M_i_sameInts (x0 : List Int) (x1 : List Int) : Option Bool :=
  (bif (!(decide ((x0.length : Int) = (x1.length : Int)))) then
  some false
  else
  (joinO (fun (_ : Unit) =>
  some true) fun j28 =>
  (fixF (M_i_sameInts_L1 x0 x1 j28) FUEL 0)))

theorem ok_i_sameInts (x0 : List Int) (x1 : List Int) (a3 : Option Addr) (c4 : Nat) (l5 : Nat) (hl6 : x0.length = l5) (a7 : Option Addr) (c8 : Nat) (l9 : Nat) (hl10 : x1.length = l9) (r : Bool) (h : M_i_sameInts x0 x1 = some r) :
    FC Tryz.prog 258 [.slice a3 l5 c4, .slice a7 l9 c8] [⟨(.int .i64), ⟨a3, l5, c4⟩, x0⟩, ⟨(.int .i64), ⟨a7, l9, c8⟩, x1⟩] (fun _ : Unit => True) (fun _ => .bool r) (fun _ => []) :=
  by
    subst hl6
    subst hl10
    refine FC.of (T := TTx) Tryz.call258 Tryz.func258 rfl rfl fun w0 => ?_
    unfold M_i_sameInts at h
    refine JS.rg0 ttOk 1 [] ⟨trivial, rfl⟩ rfl rfl (JS.seq (JS.rg0 ttOk 5 [(10, .v (.bool (!(decide ((x0.length : Int) = (x1.length : Int))))))] ⟨⟨rfl, trivial⟩, rfl⟩ rfl rfl ?_))
    refine JS.cond rfl (fun ht44 => ?_) (fun ht44 => ?_)
    · have h := condT h ht44
      refine JS.rg0 ttOk 1 [(4, .v (.bool false))] ⟨⟨rfl, trivial⟩, rfl⟩ rfl rfl ?_
      cases h
      exact JS.ret ttOk () trivial rfl rfl [] rfl
    have h := condF h ht44
    refine JS.skip (JS.seq (JS.rg0 ttOk 3 [(12, .v (.int .i64 (x0.length : Int))), (13, .v (.int .i64 0))] ⟨(Es rfl), rfl⟩ rfl rfl ?_))
    obtain ⟨j28, hj43, h⟩ := joinO_some h
    refine JS.blockJ (ι := Unit) ⟨fun _ => j28 () = some r, fun _ => [], fun _ => .nil, fun _ => [], fun _ => [], fun _ => 0⟩ ?_ ?_
    · refine JS.loop (ι := Nat × Int) ⟨fun z => fixF (M_i_sameInts_L1 x0 x1 j28) z.1 z.2 = some r, fun z => [(0, .v (.slice a3 x0.length c4)), (1, .v (.slice a7 x1.length c8)), (12, .v (.int .i64 (x0.length : Int))), (13, .v (.int .i64 z.2))], fun z => .nil, fun z => [⟨(.int .i64), ⟨a3, x0.length, c4⟩, x0⟩, ⟨(.int .i64), ⟨a7, x1.length, c8⟩, x1⟩], fun z => [], fun z => z.1⟩ (FUEL, 0) h (Es rfl) trivial [0, 1] rfl [] rfl ?_
      rintro ⟨n21, x11⟩ h
      obtain ⟨n21, rfl, h⟩ := fixF_some h
      rw [M_i_sameInts_L1] at h
      refine JS.rg0 ttOk 1 [(14, .v (.bool (decide (x11 < (x0.length : Int)))))] ⟨⟨rfl, trivial⟩, rfl⟩ rfl rfl (JS.seq ?_)
      refine JS.cond rfl (fun ht42 => ?_) (fun ht42 => ?_)
      · have h := condT h ht42
        refine JS.skip (JS.seq (JS.block (JS.rg0 ttOk 2 [(5, .v (.int .i64 x11))] ⟨⟨rfl, trivial⟩, rfl⟩ rfl rfl (JS.seq ?_))))
        obtain ⟨g13, h⟩ := guardO_some h
        obtain ⟨g15, h⟩ := guardO_some h
        refine JS.know 0 rfl fun hs39 => JS.know 1 rfl fun hs40 => JS.regionQ rfl (by kernel_rfl) (JQ.reg ttOk 3 [] [(18, .ep ⟨a3, x0.length, c4⟩ (Int.toNat x11 * 1))] rfl ⟨hs39.ix g13, ⟨rfl, trivial⟩⟩ (JQ.load ttOk rfl rfl rfl rfl rfl rfl rfl 0 rfl rfl (Int.toNat x11) 0 (at' x0 x11) ⟨at_some g13, rfl⟩ rfl rfl (JQ.reg ttOk 3 [] [(22, .ep ⟨a7, x1.length, c8⟩ (Int.toNat x11 * 1))] rfl ⟨hs40.ix g15, ⟨rfl, trivial⟩⟩ (JQ.load ttOk rfl rfl rfl rfl rfl rfl rfl 1 rfl rfl (Int.toNat x11) 0 (at' x1 x11) ⟨at_some g15, rfl⟩ rfl rfl (JQ.reg ttOk 1 [] [(24, .v (.bool (!(decide ((at' x0 x11) = (at' x1 x11))))))] rfl ⟨rfl, trivial⟩ (JQ.done rfl ?_))))))
        refine JS.cond rfl (fun ht41 => ?_) (fun ht41 => ?_)
        · have h := condT h ht41
          refine JS.rg0 ttOk 1 [(4, .v (.bool false))] ⟨⟨rfl, trivial⟩, rfl⟩ rfl rfl ?_
          cases h
          exact JS.ret ttOk () trivial rfl rfl [] rfl
        have h := condF h ht41
        refine JS.skip (JS.endB (JS.re ttOk 2 [(W (x11 + 1))] [] [(13, .v (.int .i64 (W (x11 + 1))))] _ ⟨⟨trivial, rfl⟩, ⟨rfl, trivial⟩, rfl⟩ rfl rfl (JS.endL (n21, (W (x11 + 1))) h (Nat.lt_succ_self _) (Es rfl) trivial [0, 1] rfl [] rfl)))
      have h := condF h ht42
      refine JS.exit rfl (JS.endJ () h trivial trivial [] rfl [] rfl)
    rintro _ h
    subst hj43
    refine JS.rg0 ttOk 1 [(4, .v (.bool true))] ⟨⟨rfl, trivial⟩, rfl⟩ rfl rfl ?_
    cases h
    exact JS.ret ttOk () trivial rfl rfl [] rfl

def M_i_UndoPut (x0 : List (List Int × Int)) (x1 : List Int × Int) : Option ((List (List Int × Int)) × Bool) :=
  (bindO (M_i_UndoOk x0) fun (y11 : Bool) =>
  (callO ((!y11) = false) (M_i_LineOk x1) false fun (y13 : Bool) =>
  (bif (bif (!y11) then true else (!y13)) then
  some ([], false)
  else
  (bindO (M_i_copyUndo x0) fun (y16 : List (List Int × Int)) =>
  (guardO (((decide (0 < (y16.length : Int))) = true) → 0 ≤ (W ((y16.length : Int) - 1)) ∧ (W ((y16.length : Int) - 1)) < (y16.length : Int)) <|
  (callO ((decide (0 < (y16.length : Int))) = true) (M_i_sameInts ((at' y16 (W ((y16.length : Int) - 1))).1) x1.1) false fun (y30 : Bool) =>
  (bif (bif (decide (0 < (y16.length : Int))) then y30 else false) then
  some (y16, true)
  else
  (bindO (M_i_copyLine x1) fun (y45 : List Int × Int) =>
  (guardO (y16.length + ([y45] : List (List Int × Int)).length ≤ 536870912) <|
  (joinO (fun (x58 : List (List Int × Int)) =>
  some (x58, true)) fun j61 =>
  (bif (decide (20 < ((y16 ++ ([y45] : List (List Int × Int))).length : Int))) then
  (guardO (0 ≤ (1 : Int) ∧ (1 : Int) ≤ ((y16 ++ ([y45] : List (List Int × Int))).length : Int) ∧ ((y16 ++ ([y45] : List (List Int × Int))).length : Int) ≤ ((y16 ++ ([y45] : List (List Int × Int))).length : Int)) <|
  j61 (sub' (y16 ++ ([y45] : List (List Int × Int))) 1 ((y16 ++ ([y45] : List (List Int × Int))).length : Int)))
  else
  j61 (y16 ++ ([y45] : List (List Int × Int))))))))))))))

theorem ok_i_UndoPut (x0 : List (List Int × Int)) (x1 : List Int × Int) (a3 : Option Addr) (c4 : Nat) (l5 : Nat) (hl6 : x0.length = l5) (a7 : Option Addr) (c8 : Nat) (l9 : Nat) (hl10 : x1.1.length = l9) (r : (List (List Int × Int)) × Bool) (h : M_i_UndoPut x0 x1 = some r) :
    FC Tryz.prog 264 [.agg #[.slice a3 l5 c4], .agg #[.slice a7 l9 c8, .int .i64 x1.2]] [⟨(.pair (.sl (.int .i64)) (.int .i64)), ⟨a3, l5, c4⟩, x0⟩, ⟨(.int .i64), ⟨a7, l9, c8⟩, x1.1⟩] (fun _ : Option Addr × Nat => True) (fun q => .tuple #[.agg #[.slice q.1 r.1.length q.2], .bool r.2]) (fun q => [⟨(.pair (.sl (.int .i64)) (.int .i64)), ⟨q.1, r.1.length, q.2⟩, r.1⟩]) :=
  by
    subst hl6
    subst hl10
    refine FC.of (T := TTx) Tryz.call264 Tryz.func264 rfl rfl fun w0 => ?_
    unfold M_i_UndoPut at h
    refine JS.rgB ttOk 4 [] [3, 4, 5] [(2, .bp 3 0), (3, .bp 4 0), (4, .bp 5 0)] (.new 3 44 [.slice a3 x0.length c4] (.new 4 38 [.slice a7 x1.1.length c8, .int .i64 x1.2] (.new 5 44 [.slice none 0 0] .nil))) ⟨(Es rfl), (Bs rfl rfl)⟩ rfl rfl (JS.seq (JS.seq (JS.region (JO.reg ttOk 1 [] [] [(8, .v (.agg #[.slice a3 x0.length c4]))] _ rfl ⟨⟨rfl, trivial⟩, rfl⟩ ?_))))
    obtain ⟨y11, hy12, h⟩ := bindO_some h
    refine JO.call rfl rfl rfl rfl (ok_i_UndoOk x0 a3 c4 x0.length rfl _ hy12) rfl [0] rfl rfl fun _ _ => JO.reg ttOk 3 [] [] [(11, .v (.bool (!y11))), (12, .cd [(11, false)] (.v (.agg #[.slice a7 x1.1.length c8, .int .i64 x1.2])))] _ rfl ⟨(Es rfl), rfl⟩ ?_
    obtain ⟨y13, hy14, -, h⟩ := callO_some h
    refine JO.callg rfl rfl rfl rfl (fun q66 => ok_i_LineOk x1 a7 c8 x1.1.length rfl _ (hy14 q66)) rfl [1] rfl rfl (JO.reg ttOk 2 [] [] [(15, .v (.bool (bif (!y11) then true else (!y13))))] _ rfl ⟨⟨rfl, trivial⟩, rfl⟩ (JO.done rfl ?_))
    refine JS.cond rfl (fun ht88 => ?_) (fun ht88 => ?_)
    · have h := condT h ht88
      refine JS.rgB ttOk 3 [] [] [(5, .v (.bool false))] (.new 5 44 [.slice none 0 0] .nil) ⟨⟨rfl, trivial⟩, (Bs rfl rfl)⟩ rfl rfl ?_
      cases h
      refine JS.nilO (.pair (.sl (.int .i64)) (.int .i64)) Sl.nil rfl rfl (JS.ret ttOk (none, 0) trivial rfl rfl [0] rfl)
    have h := condF h ht88
    refine JS.skip (JS.seq (JS.region (JO.reg ttOk 1 [] [] [(17, .v (.agg #[.slice a3 x0.length c4]))] _ rfl ⟨⟨rfl, trivial⟩, rfl⟩ ?_)))
    obtain ⟨y16, hy17, h⟩ := bindO_some h
    refine JO.call rfl rfl rfl rfl (ok_i_copyUndo x0 a3 c4 x0.length rfl _ hy17) rfl [0] rfl rfl ?_
    rintro ⟨a18, c19⟩ -
    refine JO.regB ttOk 2 [] [15] [(6, .bp 15 0)] (.new 4 38 [.slice a7 x1.1.length c8, .int .i64 x1.2] (.new 5 44 [.slice none 0 0] (.new 15 44 [.slice a18 y16.length c19] .nil))) rfl ⟨⟨rfl, trivial⟩, (Bs rfl rfl)⟩ (JO.done rfl (JS.seq (JS.rg0 ttOk 4 [(7, .v (.int .i64 (y16.length : Int)))] ⟨⟨rfl, trivial⟩, rfl⟩ rfl rfl (JS.seq ?_))))
    obtain ⟨g22, h⟩ := guardO_some h
    obtain ⟨y30, hy31, -, h⟩ := callO_some h
    refine JS.ofO (id := 0) (JO.lend [0] rfl (Int.toNat (W ((y16.length : Int) - 1))) (at' y16 (W ((y16.length : Int) - 1))) rfl ?_)
    intro a25 c26 l27 hl28
    obtain rfl : ([.slice a25 ((at' y16 (W ((y16.length : Int) - 1))).1).length c26, .int .i64 (at' y16 (W ((y16.length : Int) - 1))).2] : List Value) = l27 := Option.some.inj hl28
    refine JO.ofS (JS.know 2 rfl fun hs80 => JS.regionQ rfl (by kernel_rfl) (JQ.reg ttOk 9 [(W ((y16.length : Int) - 1))] [(24, .v (.bool (decide (0 < (y16.length : Int))))), (30, .cd [(24, true)] (.ep ⟨a18, y16.length, c19⟩ (Int.toNat (W ((y16.length : Int) - 1)) * 2)))] rfl ⟨(fun q79 => ⟨trivial, rfl⟩), (fun q81 => (hs80.cast (lentL_len _ _ _)).ix (g22 q81)), (fun q82 => (hs80.cast (lentL_len _ _ _)).fa (g22 q82)), (Es rfl)⟩ (JQ.loadV ttOk rfl rfl rfl rfl rfl rfl 2 rfl rfl (Int.toNat (W ((y16.length : Int) - 1))) 0 (Sum.inr [.slice a25 ((at' y16 (W ((y16.length : Int) - 1))).1).length c26, .int .i64 (at' y16 (W ((y16.length : Int) - 1))).2]) (fun q83 => ⟨lentL_at (at_some (g22 q83)), rfl⟩) rfl rfl rfl (JQ.reg ttOk 2 [] [(33, .cd [(24, true)] (.v (.slice a7 x1.1.length c8)))] rfl ⟨rfl, trivial⟩ (JQ.call rfl rfl rfl rfl (fun q84 => ok_i_sameInts ((at' y16 (W ((y16.length : Int) - 1))).1) x1.1 a25 c26 (((at' y16 (W ((y16.length : Int) - 1))).1).length) rfl a7 c8 x1.1.length rfl _ (hy31 q84)) rfl [3, 1] rfl rfl (JQ.reg ttOk 1 [] [(35, .v (.bool (bif (decide (0 < (y16.length : Int))) then y30 else false)))] rfl ⟨rfl, trivial⟩ (JQ.done rfl ?_)))))))
    refine JS.ofO (id := 0) (JO.unlend0 [0, 0] rfl (at' y16 (W ((y16.length : Int) - 1))) rfl ⟨rfl, rfl, rfl⟩ (JO.ofS ?_))
    refine JS.cond rfl (fun ht87 => ?_) (fun ht87 => ?_)
    · have h := condT h ht87
      refine JS.rgB ttOk 3 [] [] [(5, .v (.bool true))] (.new 5 44 [.slice a18 y16.length c19] .nil) ⟨⟨rfl, trivial⟩, (Bs rfl rfl)⟩ rfl rfl ?_
      cases h
      exact JS.ret ttOk (a18, c19) trivial rfl rfl [0] rfl
    have h := condF h ht87
    refine JS.skip (JS.seq ?_)
    obtain ⟨y45, hy46, h⟩ := bindO_some h
    obtain ⟨g50, h⟩ := guardO_some h
    refine JS.regionA rfl (.new 4 38 [.slice a7 x1.1.length c8, .int .i64 x1.2] (.new 15 44 [.slice a18 y16.length c19] .nil)) [] [5, 6, 7] ⟨rfl, rfl, rfl, rfl, rfl, rfl, rfl, rfl, trivial⟩ rfl (fun be53 => ?_)
    refine JA.reg ttOk panic_cx true 5 [0, 1, 2] rfl (by kernel_rfl) [] [(38, .v (.slice a18 y16.length c19)), (39, .v (.agg #[.slice a7 x1.1.length c8, .int .i64 x1.2]))] ⟨rfl, rfl, rfl, rfl, rfl, rfl, rfl, rfl, trivial⟩ [] rfl rfl (Es rfl) (JA.one 3 (by kernel_rfl) (JK.call rfl rfl rfl rfl (ok_i_copyLine x1 a7 c8 x1.1.length rfl _ hy46) rfl [1] rfl rfl ?_))
    rintro ⟨a47, c48⟩ -
    refine JA.next ⟨rfl, rfl, rfl, rfl, rfl, rfl, rfl, rfl, trivial⟩ [] rfl (JA.one 4 (by kernel_rfl) (JK.buildSlice ttOk rfl rfl rfl rfl rfl rfl rfl rfl rfl rfl rfl [0] rfl (.pair (.sl (.int .i64)) (.int .i64)) [y45] ⟨rfl, rfl, rfl⟩ rfl rfl fun a49 => JA.next ⟨rfl, rfl, rfl, rfl, rfl, rfl, rfl, rfl, trivial⟩ [] rfl (JA.one 5 (by kernel_rfl) (JK.appendO' ttOk rfl rfl rfl rfl ⟨rfl, rfl, rfl, rfl, trivial, rfl, rfl, rfl, rfl⟩ rfl rfl [1, 0] rfl g50 rfl fun a51 c52 => JA.nextL rfl (JA.regL ttOk panic_cx 1 [6] rfl (by kernel_rfl) [] [(43, .bp 15 0)] rfl ⟨rfl, trivial⟩ (JA.one 7 (by kernel_rfl) (JK.stBox ttOk rfl rfl rfl rfl rfl rfl rfl rfl (JA.nextL rfl (JA.done (by kernel_rfl) (JS.boxes (B' := (.new 5 44 [.slice none 0 0] (.new 15 44 [.slice a51 (y16 ++ ([y45] : List (List Int × Int))).length c52] .nil))) (Bs rfl rfl) ?_))))))))))
    obtain ⟨j61, hj86, h⟩ := joinO_some h
    refine JS.seqJ (ι := (List (List Int × Int)) × Option Addr × Nat) ⟨fun z => j61 z.1 = some r, fun z => [(4, .bp 5 0), (6, .bp 15 0)], fun z => (.new 5 44 [.slice none 0 0] (.new 15 44 [.slice z.2.1 z.1.length z.2.2] .nil)), fun z => [], fun z => [⟨(.pair (.sl (.int .i64)) (.int .i64)), ⟨z.2.1, z.1.length, z.2.2⟩, z.1⟩], fun z => 0⟩ ?_ ?_
    · refine JS.rg0 ttOk 4 [(47, .v (.bool (decide (20 < ((y16 ++ ([y45] : List (List Int × Int))).length : Int)))))] ⟨⟨rfl, trivial⟩, rfl⟩ rfl rfl ?_
      refine JS.cond rfl (fun ht85 => ?_) (fun ht85 => ?_)
      · have h := condT h ht85
        refine JS.region (JO.reg ttOk 2 [] [] [(49, .v (.slice a51 (y16 ++ ([y45] : List (List Int × Int))).length c52))] _ rfl ⟨⟨rfl, trivial⟩, rfl⟩ ?_)
        obtain ⟨g54, h⟩ := guardO_some h
        refine JO.sliceO' ttOk rfl rfl rfl rfl rfl rfl rfl rfl [0] rfl (1 : Int) ((y16 ++ ([y45] : List (List Int × Int))).length : Int) rfl rfl g54 rfl fun a55 c56 => JO.regB ttOk 2 [] [] [] (.new 5 44 [.slice none 0 0] (.new 15 44 [.slice a55 (sub' (y16 ++ ([y45] : List (List Int × Int))) 1 ((y16 ++ ([y45] : List (List Int × Int))).length : Int)).length c56] .nil)) rfl ⟨trivial, (Bs rfl rfl)⟩ (JO.done rfl (JS.endJ ((sub' (y16 ++ ([y45] : List (List Int × Int))) 1 ((y16 ++ ([y45] : List (List Int × Int))).length : Int)), a55, c56) h (Es rfl) (Bs rfl rfl) [] rfl [0] rfl))
      have h := condF h ht85
      refine JS.skip (JS.endJ ((y16 ++ ([y45] : List (List Int × Int))), a51, c52) h (Es rfl) (Bs rfl rfl) [] rfl [0] rfl)
    rintro ⟨x58, a59, c60⟩ h
    subst hj86
    refine JS.rgB ttOk 3 [] [] [(5, .v (.bool true))] (.new 5 44 [.slice a59 x58.length c60] .nil) ⟨⟨rfl, trivial⟩, (Bs rfl rfl)⟩ rfl rfl ?_
    cases h
    exact JS.ret ttOk (a59, c60) trivial rfl rfl [0] rfl

def M_i_inCommand (x0 : List Int × Int) (x1 : Int) : Option (List Int × Int) :=
  (joinO (fun (x11 : Int) =>
  some (x0.1, x11)) fun j12 =>
  (callO ((decide (x1 = 2)) = true) (M_i_isAtEnd x0) false fun (y7 : Bool) =>
  (bif (bif (decide (x1 = 2)) then y7 else false) then
  j12 (W (x0.2 - 1))
  else
  j12 x0.2)))

theorem ok_i_inCommand (x0 : List Int × Int) (x1 : Int) (a3 : Option Addr) (c4 : Nat) (l5 : Nat) (hl6 : x0.1.length = l5) (r : List Int × Int) (h : M_i_inCommand x0 x1 = some r) :
    FC Tryz.prog 158 [.agg #[.slice a3 l5 c4, .int .i64 x0.2], .int .i64 x1] [⟨(.int .i64), ⟨a3, l5, c4⟩, x0.1⟩] (fun _ : Unit => True) (fun _ => .agg #[.slice a3 l5 c4, .int .i64 r.2]) (fun _ => []) :=
  by
    subst hl6
    refine FC.of (T := TTx) Tryz.call158 Tryz.func158 rfl rfl fun w0 => ?_
    unfold M_i_inCommand at h
    refine JS.rgB ttOk 2 [] [2, 3] [(2, .bp 2 0), (4, .bp 3 0)] (.new 2 38 [.slice a3 x0.1.length c4, .int .i64 x0.2] (.new 3 38 [.slice none 0 0, .int .i64 0] .nil)) ⟨(Es rfl), (Bs rfl rfl)⟩ rfl rfl ?_
    obtain ⟨j12, hj18, h⟩ := joinO_some h
    refine JS.seqJ (ι := Int) ⟨fun z => j12 z = some r, fun z => [(2, .bp 2 0), (4, .bp 3 0)], fun z => (.new 2 38 [.slice a3 x0.1.length c4, .int .i64 z] (.new 3 38 [.slice none 0 0, .int .i64 0] .nil)), fun z => [⟨(.int .i64), ⟨a3, x0.1.length, c4⟩, x0.1⟩], fun z => [], fun z => 0⟩ ?_ ?_
    · refine JS.seq (JS.region (JO.reg ttOk 4 [] [] [(7, .v (.bool (decide (x1 = 2)))), (8, .cd [(7, true)] (.v (.agg #[.slice a3 x0.1.length c4, .int .i64 x0.2])))] _ rfl ⟨(Es rfl), rfl⟩ ?_))
      obtain ⟨y7, hy8, -, h⟩ := callO_some h
      refine JO.callg rfl rfl rfl rfl (fun q16 => ok_i_isAtEnd x0 a3 c4 x0.1.length rfl _ (hy8 q16)) rfl [0] rfl rfl (JO.reg ttOk 1 [] [] [(10, .v (.bool (bif (decide (x1 = 2)) then y7 else false)))] _ rfl ⟨⟨rfl, trivial⟩, rfl⟩ (JO.done rfl ?_))
      refine JS.cond rfl (fun ht17 => ?_) (fun ht17 => ?_)
      · have h := condT h ht17
        refine JS.reB ttOk 5 [(W (x0.2 - 1))] [] [] (.new 2 38 [.slice a3 x0.1.length c4, .int .i64 (W (x0.2 - 1))] (.new 3 38 [.slice none 0 0, .int .i64 0] .nil)) ⟨⟨trivial, rfl⟩, trivial, (Bs rfl rfl)⟩ rfl rfl (JS.endJ (W (x0.2 - 1)) h (Es rfl) (Bs rfl rfl) [0] rfl [] rfl)
      have h := condF h ht17
      refine JS.skip (JS.endJ x0.2 h (Es rfl) (Bs rfl rfl) [0] rfl [] rfl)
    rintro x11 h
    subst hj18
    refine JS.rgB ttOk 2 [] [] [] (.new 3 38 [.slice a3 x0.1.length c4, .int .i64 x11] .nil) ⟨trivial, (Bs rfl rfl)⟩ rfl rfl ?_
    cases h
    exact JS.ret ttOk () trivial rfl rfl [] rfl

def M_i_set (x0 : Bool × Int × (List Int × Int) × Int × Int × Int × Int × Int × Int × Int × List (List Int) × (List (List Int × Int)) × Int × (List Int × Int) × List Int × Int × List Int × Int) (x1 : List Int × Int) (x2 : Int) : Option (Bool × Int × (List Int × Int) × Int × Int × Int × Int × Int × Int × Int × List (List Int) × (List (List Int × Int)) × Int × (List Int × Int) × List Int × Int × List Int × Int) :=
  (bindO (M_i_settled x0 x2) fun (y32 : Bool × Int × (List Int × Int) × Int × Int × Int × Int × Int × Int × Int × List (List Int) × (List (List Int × Int)) × Int × (List Int × Int) × List Int × Int × List Int × Int) =>
  (joinO (fun (x54 : List (List Int × Int)) =>
  (bindO (M_i_copyLine x1) fun (y59 : List Int × Int) =>
  (bindO (M_i_inCommand y59 x0.2.1) fun (y63 : List Int × Int) =>
  some (y32.1, y32.2.1, (y59.1, y63.2), y32.2.2.2.1, y32.2.2.2.2.1, y32.2.2.2.2.2.1, y32.2.2.2.2.2.2.1, y32.2.2.2.2.2.2.2.1, y32.2.2.2.2.2.2.2.2.1, y32.2.2.2.2.2.2.2.2.2.1, y32.2.2.2.2.2.2.2.2.2.2.1, x54, y32.2.2.2.2.2.2.2.2.2.2.2.2.1, y32.2.2.2.2.2.2.2.2.2.2.2.2.2.1, y32.2.2.2.2.2.2.2.2.2.2.2.2.2.2.1, y32.2.2.2.2.2.2.2.2.2.2.2.2.2.2.2.1, y32.2.2.2.2.2.2.2.2.2.2.2.2.2.2.2.2)))) fun j57 =>
  (bindO (M_i_sameInts x1.1 x0.2.2.1.1) fun (y46 : Bool) =>
  (bif (bif (!y46) then (!(bif (decide (x2 = 1)) then (decide (x0.2.2.2.2.2.2.2.2.2.1 = 1)) else false)) else false) then
  (bindO (M_i_UndoPut x0.2.2.2.2.2.2.2.2.2.2.2.1 x0.2.2.1) fun (y48, y49) =>
  j57 y48)
  else
  j57 y32.2.2.2.2.2.2.2.2.2.2.2.1))))

theorem ok_i_set (x0 : Bool × Int × (List Int × Int) × Int × Int × Int × Int × Int × Int × Int × List (List Int) × (List (List Int × Int)) × Int × (List Int × Int) × List Int × Int × List Int × Int) (x1 : List Int × Int) (x2 : Int) (a4 : Option Addr) (c5 : Nat) (l6 : Nat) (hl7 : x0.2.2.1.1.length = l6) (a8 : Option Addr) (c9 : Nat) (l10 : Nat) (hl11 : x0.2.2.2.2.2.2.2.2.2.2.1.length = l10) (a12 : Option Addr) (c13 : Nat) (l14 : Nat) (hl15 : x0.2.2.2.2.2.2.2.2.2.2.2.1.length = l14) (a16 : Option Addr) (c17 : Nat) (l18 : Nat) (hl19 : x0.2.2.2.2.2.2.2.2.2.2.2.2.2.1.1.length = l18) (a20 : Option Addr) (c21 : Nat) (l22 : Nat) (hl23 : x0.2.2.2.2.2.2.2.2.2.2.2.2.2.2.1.length = l22) (a24 : Option Addr) (c25 : Nat) (l26 : Nat) (hl27 : x0.2.2.2.2.2.2.2.2.2.2.2.2.2.2.2.2.1.length = l26) (a28 : Option Addr) (c29 : Nat) (l30 : Nat) (hl31 : x1.1.length = l30) (r : Bool × Int × (List Int × Int) × Int × Int × Int × Int × Int × Int × Int × List (List Int) × (List (List Int × Int)) × Int × (List Int × Int) × List Int × Int × List Int × Int) (h : M_i_set x0 x1 x2 = some r) :
    FC Tryz.prog 203 [.agg #[.bool x0.1, .int .i64 x0.2.1, .slice a4 l6 c5, .int .i64 x0.2.2.1.2, .int .i64 x0.2.2.2.1, .int .i64 x0.2.2.2.2.1, .int .i64 x0.2.2.2.2.2.1, .int .i64 x0.2.2.2.2.2.2.1, .int .i64 x0.2.2.2.2.2.2.2.1, .int .i64 x0.2.2.2.2.2.2.2.2.1, .int .i64 x0.2.2.2.2.2.2.2.2.2.1, .slice a8 l10 c9, .slice a12 l14 c13, .int .i64 x0.2.2.2.2.2.2.2.2.2.2.2.2.1, .slice a16 l18 c17, .int .i64 x0.2.2.2.2.2.2.2.2.2.2.2.2.2.1.2, .slice a20 l22 c21, .int .i64 x0.2.2.2.2.2.2.2.2.2.2.2.2.2.2.2.1, .slice a24 l26 c25, .int .i64 x0.2.2.2.2.2.2.2.2.2.2.2.2.2.2.2.2.2], .agg #[.slice a28 l30 c29, .int .i64 x1.2], .int .i64 x2] [⟨(.int .i64), ⟨a4, l6, c5⟩, x0.2.2.1.1⟩, ⟨(.sl (.int .i64)), ⟨a8, l10, c9⟩, x0.2.2.2.2.2.2.2.2.2.2.1⟩, ⟨(.pair (.sl (.int .i64)) (.int .i64)), ⟨a12, l14, c13⟩, x0.2.2.2.2.2.2.2.2.2.2.2.1⟩, ⟨(.int .i64), ⟨a16, l18, c17⟩, x0.2.2.2.2.2.2.2.2.2.2.2.2.2.1.1⟩, ⟨(.int .i64), ⟨a20, l22, c21⟩, x0.2.2.2.2.2.2.2.2.2.2.2.2.2.2.1⟩, ⟨(.int .i64), ⟨a24, l26, c25⟩, x0.2.2.2.2.2.2.2.2.2.2.2.2.2.2.2.2.1⟩, ⟨(.int .i64), ⟨a28, l30, c29⟩, x1.1⟩] (fun _ : Option Addr × Nat × Option Addr × Nat × Option Addr × Nat × Option Addr × Nat × Option Addr × Nat × Option Addr × Nat => True) (fun q => .agg (cl46 r q.1 q.2.1 q.2.2.1 q.2.2.2.1 q.2.2.2.2.1 q.2.2.2.2.2.1 q.2.2.2.2.2.2.1 q.2.2.2.2.2.2.2.1 q.2.2.2.2.2.2.2.2.1 q.2.2.2.2.2.2.2.2.2.1 q.2.2.2.2.2.2.2.2.2.2.1 q.2.2.2.2.2.2.2.2.2.2.2).toArray) (fun q => [⟨(.int .i64), ⟨q.1, r.2.2.1.1.length, q.2.1⟩, r.2.2.1.1⟩, ⟨(.sl (.int .i64)), ⟨q.2.2.1, r.2.2.2.2.2.2.2.2.2.2.1.length, q.2.2.2.1⟩, r.2.2.2.2.2.2.2.2.2.2.1⟩, ⟨(.pair (.sl (.int .i64)) (.int .i64)), ⟨q.2.2.2.2.1, r.2.2.2.2.2.2.2.2.2.2.2.1.length, q.2.2.2.2.2.1⟩, r.2.2.2.2.2.2.2.2.2.2.2.1⟩, ⟨(.int .i64), ⟨q.2.2.2.2.2.2.1, r.2.2.2.2.2.2.2.2.2.2.2.2.2.1.1.length, q.2.2.2.2.2.2.2.1⟩, r.2.2.2.2.2.2.2.2.2.2.2.2.2.1.1⟩, ⟨(.int .i64), ⟨q.2.2.2.2.2.2.2.2.1, r.2.2.2.2.2.2.2.2.2.2.2.2.2.2.1.length, q.2.2.2.2.2.2.2.2.2.1⟩, r.2.2.2.2.2.2.2.2.2.2.2.2.2.2.1⟩, ⟨(.int .i64), ⟨q.2.2.2.2.2.2.2.2.2.2.1, r.2.2.2.2.2.2.2.2.2.2.2.2.2.2.2.2.1.length, q.2.2.2.2.2.2.2.2.2.2.2⟩, r.2.2.2.2.2.2.2.2.2.2.2.2.2.2.2.2.1⟩]) :=
  by
    subst hl7
    subst hl11
    subst hl15
    subst hl19
    subst hl23
    subst hl27
    subst hl31
    refine FC.of (T := TTx) Tryz.call203 Tryz.func203 rfl rfl fun w0 => ?_
    unfold M_i_set at h
    refine JS.rgB ttOk 3 [] [8, 9, 10] [(3, .bp 8 0), (4, .bp 9 0), (6, .bp 10 0)] (.new 8 46 (cl46 x0 a4 c5 a8 c9 a12 c13 a16 c17 a20 c21 a24 c25) (.new 9 38 [.slice a28 x1.1.length c29, .int .i64 x1.2] (.new 10 46 (cl46 (false, 0, ([], 0), 0, 0, 0, 0, 0, 0, 0, [], [], 0, ([], 0), [], 0, ([], 0)) none 0 none 0 none 0 none 0 none 0 none 0) .nil))) ⟨(Es rfl), (Bs rfl rfl)⟩ rfl rfl (JS.seq (JS.region (JO.reg ttOk 2 [] [] [(8, .v (.agg (cl46 x0 a4 c5 a8 c9 a12 c13 a16 c17 a20 c21 a24 c25).toArray)), (9, .v (.int .i64 x2))] _ rfl ⟨(Es rfl), rfl⟩ ?_)))
    obtain ⟨y32, hy33, h⟩ := bindO_some h
    refine JO.call rfl rfl rfl rfl (ok_i_settled x0 x2 a4 c5 x0.2.2.1.1.length rfl a8 c9 x0.2.2.2.2.2.2.2.2.2.2.1.length rfl a12 c13 x0.2.2.2.2.2.2.2.2.2.2.2.1.length rfl a16 c17 x0.2.2.2.2.2.2.2.2.2.2.2.2.2.1.1.length rfl a20 c21 x0.2.2.2.2.2.2.2.2.2.2.2.2.2.2.1.length rfl a24 c25 x0.2.2.2.2.2.2.2.2.2.2.2.2.2.2.2.2.1.length rfl _ hy33) rfl [0, 1, 2, 3, 4, 5] rfl rfl ?_
    rintro ⟨a34, c35, a36, c37, a38, c39, a40, c41, a42, c43, a44, c45⟩ -
    refine JO.regB ttOk 2 [] [31] [(7, .bp 31 0)] (.new 8 46 (cl46 x0 a4 c5 a8 c9 a12 c13 a16 c17 a20 c21 a24 c25) (.new 9 38 [.slice a28 x1.1.length c29, .int .i64 x1.2] (.new 10 46 (cl46 (false, 0, ([], 0), 0, 0, 0, 0, 0, 0, 0, [], [], 0, ([], 0), [], 0, ([], 0)) none 0 none 0 none 0 none 0 none 0 none 0) (.new 31 46 (cl46 y32 a34 c35 a36 c37 a38 c39 a40 c41 a42 c43 a44 c45) .nil)))) rfl ⟨⟨rfl, trivial⟩, (Bs rfl rfl)⟩ (JO.done rfl ?_)
    obtain ⟨j57, hj68, h⟩ := joinO_some h
    refine JS.seqJ (ι := (List (List Int × Int)) × Option Addr × Nat) ⟨fun z => j57 z.1 = some r, fun z => [(3, .bp 8 0), (4, .bp 9 0), (6, .bp 10 0), (7, .bp 31 0)], fun z => (.new 8 46 (cl46 x0 a4 c5 a8 c9 a12 c13 a16 c17 a20 c21 a24 c25) (.new 9 38 [.slice a28 x1.1.length c29, .int .i64 x1.2] (.new 10 46 (cl46 (false, 0, ([], 0), 0, 0, 0, 0, 0, 0, 0, [], [], 0, ([], 0), [], 0, ([], 0)) none 0 none 0 none 0 none 0 none 0 none 0) (.new 31 46 (cl46 (y32.1, y32.2.1, y32.2.2.1, y32.2.2.2.1, y32.2.2.2.2.1, y32.2.2.2.2.2.1, y32.2.2.2.2.2.2.1, y32.2.2.2.2.2.2.2.1, y32.2.2.2.2.2.2.2.2.1, y32.2.2.2.2.2.2.2.2.2.1, y32.2.2.2.2.2.2.2.2.2.2.1, z.1, y32.2.2.2.2.2.2.2.2.2.2.2.2.1, y32.2.2.2.2.2.2.2.2.2.2.2.2.2.1, y32.2.2.2.2.2.2.2.2.2.2.2.2.2.2.1, y32.2.2.2.2.2.2.2.2.2.2.2.2.2.2.2.1, y32.2.2.2.2.2.2.2.2.2.2.2.2.2.2.2.2) a34 c35 a36 c37 z.2.1 z.2.2 a40 c41 a42 c43 a44 c45) .nil)))), fun z => [⟨(.int .i64), ⟨a4, x0.2.2.1.1.length, c5⟩, x0.2.2.1.1⟩, ⟨(.sl (.int .i64)), ⟨a8, x0.2.2.2.2.2.2.2.2.2.2.1.length, c9⟩, x0.2.2.2.2.2.2.2.2.2.2.1⟩, ⟨(.pair (.sl (.int .i64)) (.int .i64)), ⟨a12, x0.2.2.2.2.2.2.2.2.2.2.2.1.length, c13⟩, x0.2.2.2.2.2.2.2.2.2.2.2.1⟩, ⟨(.int .i64), ⟨a16, x0.2.2.2.2.2.2.2.2.2.2.2.2.2.1.1.length, c17⟩, x0.2.2.2.2.2.2.2.2.2.2.2.2.2.1.1⟩, ⟨(.int .i64), ⟨a20, x0.2.2.2.2.2.2.2.2.2.2.2.2.2.2.1.length, c21⟩, x0.2.2.2.2.2.2.2.2.2.2.2.2.2.2.1⟩, ⟨(.int .i64), ⟨a24, x0.2.2.2.2.2.2.2.2.2.2.2.2.2.2.2.2.1.length, c25⟩, x0.2.2.2.2.2.2.2.2.2.2.2.2.2.2.2.2.1⟩, ⟨(.int .i64), ⟨a28, x1.1.length, c29⟩, x1.1⟩], fun z => [⟨(.pair (.sl (.int .i64)) (.int .i64)), ⟨z.2.1, z.1.length, z.2.2⟩, z.1⟩, ⟨(.int .i64), ⟨a34, y32.2.2.1.1.length, c35⟩, y32.2.2.1.1⟩, ⟨(.sl (.int .i64)), ⟨a36, y32.2.2.2.2.2.2.2.2.2.2.1.length, c37⟩, y32.2.2.2.2.2.2.2.2.2.2.1⟩, ⟨(.int .i64), ⟨a40, y32.2.2.2.2.2.2.2.2.2.2.2.2.2.1.1.length, c41⟩, y32.2.2.2.2.2.2.2.2.2.2.2.2.2.1.1⟩, ⟨(.int .i64), ⟨a42, y32.2.2.2.2.2.2.2.2.2.2.2.2.2.2.1.length, c43⟩, y32.2.2.2.2.2.2.2.2.2.2.2.2.2.2.1⟩, ⟨(.int .i64), ⟨a44, y32.2.2.2.2.2.2.2.2.2.2.2.2.2.2.2.2.1.length, c45⟩, y32.2.2.2.2.2.2.2.2.2.2.2.2.2.2.2.2.1⟩], fun z => 0⟩ ?_ ?_
    · refine JS.seq (JS.region (JO.reg ttOk 5 [] [] [(12, .v (.slice a28 x1.1.length c29)), (15, .v (.slice a4 x0.2.2.1.1.length c5))] _ rfl ⟨(Es rfl), rfl⟩ ?_))
      obtain ⟨y46, hy47, h⟩ := bindO_some h
      refine JO.call rfl rfl rfl rfl (ok_i_sameInts x1.1 x0.2.2.1.1 a28 c29 x1.1.length rfl a4 c5 x0.2.2.1.1.length rfl _ hy47) rfl [6, 0] rfl rfl fun _ _ => JO.reg ttOk 11 [] [] [(27, .v (.bool (bif (!y46) then (!(bif (decide (x2 = 1)) then (decide (x0.2.2.2.2.2.2.2.2.2.1 = 1)) else false)) else false)))] _ rfl ⟨⟨rfl, trivial⟩, rfl⟩ (JO.done rfl ?_)
      refine JS.cond rfl (fun ht67 => ?_) (fun ht67 => ?_)
      · have h := condT h ht67
        refine JS.region (JO.reg ttOk 4 [] [] [(30, .v (.agg #[.slice a12 x0.2.2.2.2.2.2.2.2.2.2.2.1.length c13])), (32, .v (.agg #[.slice a4 x0.2.2.1.1.length c5, .int .i64 x0.2.2.1.2]))] _ rfl ⟨(Es rfl), rfl⟩ ?_)
        obtain ⟨⟨y48, y49⟩, hy50, h⟩ := bindO_some h
        refine JO.call rfl rfl rfl rfl (ok_i_UndoPut x0.2.2.2.2.2.2.2.2.2.2.2.1 x0.2.2.1 a12 c13 x0.2.2.2.2.2.2.2.2.2.2.2.1.length rfl a4 c5 x0.2.2.1.1.length rfl _ hy50) rfl [2, 0] rfl rfl ?_
        rintro ⟨a51, c52⟩ -
        refine JO.regB ttOk 5 [] [] [] (.new 8 46 (cl46 x0 a4 c5 a8 c9 a12 c13 a16 c17 a20 c21 a24 c25) (.new 9 38 [.slice a28 x1.1.length c29, .int .i64 x1.2] (.new 10 46 (cl46 (false, 0, ([], 0), 0, 0, 0, 0, 0, 0, 0, [], [], 0, ([], 0), [], 0, ([], 0)) none 0 none 0 none 0 none 0 none 0 none 0) (.new 31 46 (cl46 (y32.1, y32.2.1, y32.2.2.1, y32.2.2.2.1, y32.2.2.2.2.1, y32.2.2.2.2.2.1, y32.2.2.2.2.2.2.1, y32.2.2.2.2.2.2.2.1, y32.2.2.2.2.2.2.2.2.1, y32.2.2.2.2.2.2.2.2.2.1, y32.2.2.2.2.2.2.2.2.2.2.1, y48, y32.2.2.2.2.2.2.2.2.2.2.2.2.1, y32.2.2.2.2.2.2.2.2.2.2.2.2.2.1, y32.2.2.2.2.2.2.2.2.2.2.2.2.2.2.1, y32.2.2.2.2.2.2.2.2.2.2.2.2.2.2.2.1, y32.2.2.2.2.2.2.2.2.2.2.2.2.2.2.2.2) a34 c35 a36 c37 a51 c52 a40 c41 a42 c43 a44 c45) .nil)))) rfl ⟨trivial, (Bs rfl rfl)⟩ (JO.done rfl (JS.endJA (y48, a51, c52) h (Es rfl) (Bs rfl rfl) [0, 1, 2, 3, 4, 5, 6] rfl [0, 1, 2, 4, 5, 6] rfl rfl))
      have h := condF h ht67
      refine JS.skip (JS.endJA (y32.2.2.2.2.2.2.2.2.2.2.2.1, a38, c39) h (Es rfl) (Bs rfl rfl) [0, 1, 2, 3, 4, 5, 6] rfl [2, 0, 1, 3, 4, 5] rfl rfl)
    rintro ⟨x54, a55, c56⟩ h
    subst hj68
    refine JS.seq ?_
    obtain ⟨y59, hy60, h⟩ := bindO_some h
    obtain ⟨y63, hy64, h⟩ := bindO_some h
    refine JS.regionA rfl (.new 8 46 (cl46 x0 a4 c5 a8 c9 a12 c13 a16 c17 a20 c21 a24 c25) (.new 9 38 [.slice a28 x1.1.length c29, .int .i64 x1.2] .nil)) [] [4, 5, 6] ⟨rfl, rfl, rfl, rfl, rfl, rfl, rfl, rfl, trivial⟩ rfl (fun be65 => ?_)
    refine JA.reg ttOk panic_cx true 4 [0, 2, 3] rfl (by kernel_rfl) [] [(37, .v (.agg #[.slice a28 x1.1.length c29, .int .i64 x1.2])), (40, .v (.int .i64 x0.2.1))] ⟨rfl, rfl, rfl, rfl, rfl, rfl, rfl, rfl, trivial⟩ [] rfl rfl (Es rfl) (JA.one 1 (by kernel_rfl) (JK.call rfl rfl rfl rfl (ok_i_copyLine x1 a28 c29 x1.1.length rfl _ hy60) rfl [6] rfl rfl ?_))
    rintro ⟨a61, c62⟩ -
    refine JA.next ⟨rfl, rfl, rfl, rfl, rfl, rfl, rfl, rfl, trivial⟩ [] rfl (JA.one 4 (by kernel_rfl) (JK.call rfl rfl rfl rfl (ok_i_inCommand y59 x0.2.1 a61 c62 y59.1.length rfl _ hy64) rfl [7] rfl rfl fun _ _ => JA.nextL rfl (JA.regL ttOk panic_cx 1 [5] rfl (by kernel_rfl) [] [(42, .bp 31 2)] rfl ⟨rfl, trivial⟩ (JA.one 6 (by kernel_rfl) (JK.stBox ttOk rfl rfl rfl rfl rfl rfl rfl rfl (JA.nextL rfl (JA.done (by kernel_rfl) (JS.boxes (B' := (.new 10 46 (cl46 (false, 0, ([], 0), 0, 0, 0, 0, 0, 0, 0, [], [], 0, ([], 0), [], 0, ([], 0)) none 0 none 0 none 0 none 0 none 0 none 0) (.new 31 46 (cl46 (y32.1, y32.2.1, (y59.1, y63.2), y32.2.2.2.1, y32.2.2.2.2.1, y32.2.2.2.2.2.1, y32.2.2.2.2.2.2.1, y32.2.2.2.2.2.2.2.1, y32.2.2.2.2.2.2.2.2.1, y32.2.2.2.2.2.2.2.2.2.1, y32.2.2.2.2.2.2.2.2.2.2.1, x54, y32.2.2.2.2.2.2.2.2.2.2.2.2.1, y32.2.2.2.2.2.2.2.2.2.2.2.2.2.1, y32.2.2.2.2.2.2.2.2.2.2.2.2.2.2.1, y32.2.2.2.2.2.2.2.2.2.2.2.2.2.2.2.1, y32.2.2.2.2.2.2.2.2.2.2.2.2.2.2.2.2) a61 c62 a36 c37 a55 c56 a40 c41 a42 c43 a44 c45) .nil))) (Bs rfl rfl) (JS.rgB ttOk 2 [] [] [] (.new 10 46 (cl46 (y32.1, y32.2.1, (y59.1, y63.2), y32.2.2.2.1, y32.2.2.2.2.1, y32.2.2.2.2.2.1, y32.2.2.2.2.2.2.1, y32.2.2.2.2.2.2.2.1, y32.2.2.2.2.2.2.2.2.1, y32.2.2.2.2.2.2.2.2.2.1, y32.2.2.2.2.2.2.2.2.2.2.1, x54, y32.2.2.2.2.2.2.2.2.2.2.2.2.1, y32.2.2.2.2.2.2.2.2.2.2.2.2.2.1, y32.2.2.2.2.2.2.2.2.2.2.2.2.2.2.1, y32.2.2.2.2.2.2.2.2.2.2.2.2.2.2.2.1, y32.2.2.2.2.2.2.2.2.2.2.2.2.2.2.2.2) a61 c62 a36 c37 a55 c56 a40 c41 a42 c43 a44 c45) .nil) ⟨trivial, (Bs rfl rfl)⟩ rfl rfl ?_)))))))))
    cases h
    exact JS.ret ttOk (a61, c62, a36, c37, a55, c56, a40, c41, a42, c43, a44, c45) trivial rfl rfl [0, 2, 0, 1, 1, 1] rfl

def M_i_insert (x0 : Bool × Int × (List Int × Int) × Int × Int × Int × Int × Int × Int × Int × List (List Int) × (List (List Int × Int)) × Int × (List Int × Int) × List Int × Int × List Int × Int) (x1 : List Int) (x2 : Int) : Option ((Bool × Int × (List Int × Int) × Int × Int × Int × Int × Int × Int × Int × List (List Int) × (List (List Int × Int)) × Int × (List Int × Int) × List Int × Int × List Int × Int) × Int) :=
  (bindO (M_i_LinePut x0.2.2.1 x1) fun (y32, y33) =>
  (bif (!y33) then
  (bindO (M_i_bell x0) fun (y37, y38) =>
  some (y37, y38))
  else
  (bindO (M_i_set x0 y32 x2) fun (y52 : Bool × Int × (List Int × Int) × Int × Int × Int × Int × Int × Int × Int × List (List Int) × (List (List Int × Int)) × Int × (List Int × Int) × List Int × Int × List Int × Int) =>
  some (y52, 0))))

theorem ok_i_insert (x0 : Bool × Int × (List Int × Int) × Int × Int × Int × Int × Int × Int × Int × List (List Int) × (List (List Int × Int)) × Int × (List Int × Int) × List Int × Int × List Int × Int) (x1 : List Int) (x2 : Int) (a4 : Option Addr) (c5 : Nat) (l6 : Nat) (hl7 : x0.2.2.1.1.length = l6) (a8 : Option Addr) (c9 : Nat) (l10 : Nat) (hl11 : x0.2.2.2.2.2.2.2.2.2.2.1.length = l10) (a12 : Option Addr) (c13 : Nat) (l14 : Nat) (hl15 : x0.2.2.2.2.2.2.2.2.2.2.2.1.length = l14) (a16 : Option Addr) (c17 : Nat) (l18 : Nat) (hl19 : x0.2.2.2.2.2.2.2.2.2.2.2.2.2.1.1.length = l18) (a20 : Option Addr) (c21 : Nat) (l22 : Nat) (hl23 : x0.2.2.2.2.2.2.2.2.2.2.2.2.2.2.1.length = l22) (a24 : Option Addr) (c25 : Nat) (l26 : Nat) (hl27 : x0.2.2.2.2.2.2.2.2.2.2.2.2.2.2.2.2.1.length = l26) (a28 : Option Addr) (c29 : Nat) (l30 : Nat) (hl31 : x1.length = l30) (r : (Bool × Int × (List Int × Int) × Int × Int × Int × Int × Int × Int × Int × List (List Int) × (List (List Int × Int)) × Int × (List Int × Int) × List Int × Int × List Int × Int) × Int) (h : M_i_insert x0 x1 x2 = some r) :
    FC Tryz.prog 165 [.agg #[.bool x0.1, .int .i64 x0.2.1, .slice a4 l6 c5, .int .i64 x0.2.2.1.2, .int .i64 x0.2.2.2.1, .int .i64 x0.2.2.2.2.1, .int .i64 x0.2.2.2.2.2.1, .int .i64 x0.2.2.2.2.2.2.1, .int .i64 x0.2.2.2.2.2.2.2.1, .int .i64 x0.2.2.2.2.2.2.2.2.1, .int .i64 x0.2.2.2.2.2.2.2.2.2.1, .slice a8 l10 c9, .slice a12 l14 c13, .int .i64 x0.2.2.2.2.2.2.2.2.2.2.2.2.1, .slice a16 l18 c17, .int .i64 x0.2.2.2.2.2.2.2.2.2.2.2.2.2.1.2, .slice a20 l22 c21, .int .i64 x0.2.2.2.2.2.2.2.2.2.2.2.2.2.2.2.1, .slice a24 l26 c25, .int .i64 x0.2.2.2.2.2.2.2.2.2.2.2.2.2.2.2.2.2], .slice a28 l30 c29, .int .i64 x2] [⟨(.int .i64), ⟨a4, l6, c5⟩, x0.2.2.1.1⟩, ⟨(.sl (.int .i64)), ⟨a8, l10, c9⟩, x0.2.2.2.2.2.2.2.2.2.2.1⟩, ⟨(.pair (.sl (.int .i64)) (.int .i64)), ⟨a12, l14, c13⟩, x0.2.2.2.2.2.2.2.2.2.2.2.1⟩, ⟨(.int .i64), ⟨a16, l18, c17⟩, x0.2.2.2.2.2.2.2.2.2.2.2.2.2.1.1⟩, ⟨(.int .i64), ⟨a20, l22, c21⟩, x0.2.2.2.2.2.2.2.2.2.2.2.2.2.2.1⟩, ⟨(.int .i64), ⟨a24, l26, c25⟩, x0.2.2.2.2.2.2.2.2.2.2.2.2.2.2.2.2.1⟩, ⟨(.int .i64), ⟨a28, l30, c29⟩, x1⟩] (fun _ : Option Addr × Nat × Option Addr × Nat × Option Addr × Nat × Option Addr × Nat × Option Addr × Nat × Option Addr × Nat => True) (fun q => .tuple #[.agg (cl46 r.1 q.1 q.2.1 q.2.2.1 q.2.2.2.1 q.2.2.2.2.1 q.2.2.2.2.2.1 q.2.2.2.2.2.2.1 q.2.2.2.2.2.2.2.1 q.2.2.2.2.2.2.2.2.1 q.2.2.2.2.2.2.2.2.2.1 q.2.2.2.2.2.2.2.2.2.2.1 q.2.2.2.2.2.2.2.2.2.2.2).toArray, .int .i64 r.2]) (fun q => [⟨(.int .i64), ⟨q.1, r.1.2.2.1.1.length, q.2.1⟩, r.1.2.2.1.1⟩, ⟨(.sl (.int .i64)), ⟨q.2.2.1, r.1.2.2.2.2.2.2.2.2.2.2.1.length, q.2.2.2.1⟩, r.1.2.2.2.2.2.2.2.2.2.2.1⟩, ⟨(.pair (.sl (.int .i64)) (.int .i64)), ⟨q.2.2.2.2.1, r.1.2.2.2.2.2.2.2.2.2.2.2.1.length, q.2.2.2.2.2.1⟩, r.1.2.2.2.2.2.2.2.2.2.2.2.1⟩, ⟨(.int .i64), ⟨q.2.2.2.2.2.2.1, r.1.2.2.2.2.2.2.2.2.2.2.2.2.2.1.1.length, q.2.2.2.2.2.2.2.1⟩, r.1.2.2.2.2.2.2.2.2.2.2.2.2.2.1.1⟩, ⟨(.int .i64), ⟨q.2.2.2.2.2.2.2.2.1, r.1.2.2.2.2.2.2.2.2.2.2.2.2.2.2.1.length, q.2.2.2.2.2.2.2.2.2.1⟩, r.1.2.2.2.2.2.2.2.2.2.2.2.2.2.2.1⟩, ⟨(.int .i64), ⟨q.2.2.2.2.2.2.2.2.2.2.1, r.1.2.2.2.2.2.2.2.2.2.2.2.2.2.2.2.2.1.length, q.2.2.2.2.2.2.2.2.2.2.2⟩, r.1.2.2.2.2.2.2.2.2.2.2.2.2.2.2.2.2.1⟩]) :=
  by
    subst hl7
    subst hl11
    subst hl15
    subst hl19
    subst hl23
    subst hl27
    subst hl31
    refine FC.of (T := TTx) Tryz.call165 Tryz.func165 rfl rfl fun w0 => ?_
    unfold M_i_insert at h
    refine JS.rgB ttOk 3 [] [8, 9] [(3, .bp 8 0), (6, .bp 9 0)] (.new 8 46 (cl46 x0 a4 c5 a8 c9 a12 c13 a16 c17 a20 c21 a24 c25) (.new 9 46 (cl46 (false, 0, ([], 0), 0, 0, 0, 0, 0, 0, 0, [], [], 0, ([], 0), [], 0, ([], 0)) none 0 none 0 none 0 none 0 none 0 none 0) .nil)) ⟨(Es rfl), (Bs rfl rfl)⟩ rfl rfl (JS.seq (JS.region (JO.reg ttOk 3 [] [] [(12, .v (.agg #[.slice a4 x0.2.2.1.1.length c5, .int .i64 x0.2.2.1.2])), (13, .v (.slice a28 x1.length c29))] _ rfl ⟨(Es rfl), rfl⟩ ?_)))
    obtain ⟨⟨y32, y33⟩, hy34, h⟩ := bindO_some h
    refine JO.call rfl rfl rfl rfl (ok_i_LinePut x0.2.2.1 x1 a4 c5 x0.2.2.1.1.length rfl a28 c29 x1.length rfl _ hy34) rfl [0, 6] rfl rfl ?_
    rintro ⟨a35, c36⟩ -
    refine JO.regB ttOk 6 [] [16] [(8, .bp 16 0), (9, .v (.bool y33))] (.new 8 46 (cl46 x0 a4 c5 a8 c9 a12 c13 a16 c17 a20 c21 a24 c25) (.new 9 46 (cl46 (false, 0, ([], 0), 0, 0, 0, 0, 0, 0, 0, [], [], 0, ([], 0), [], 0, ([], 0)) none 0 none 0 none 0 none 0 none 0 none 0) (.new 16 38 [.slice a35 y32.1.length c36, .int .i64 y32.2] .nil))) rfl ⟨(Es rfl), (Bs rfl rfl)⟩ (JO.done rfl (JS.seq (JS.rg0 ttOk 2 [(18, .v (.bool (!y33)))] ⟨⟨rfl, trivial⟩, rfl⟩ rfl rfl ?_)))
    refine JS.cond rfl (fun ht67 => ?_) (fun ht67 => ?_)
    · have h := condT h ht67
      refine JS.seq (JS.region (JO.reg ttOk 1 [] [] [(19, .v (.agg (cl46 x0 a4 c5 a8 c9 a12 c13 a16 c17 a20 c21 a24 c25).toArray))] _ rfl ⟨⟨rfl, trivial⟩, rfl⟩ ?_))
      obtain ⟨⟨y37, y38⟩, hy39, h⟩ := bindO_some h
      refine JO.call rfl rfl rfl rfl (ok_i_bell x0 a4 c5 x0.2.2.1.1.length rfl a8 c9 x0.2.2.2.2.2.2.2.2.2.2.1.length rfl a12 c13 x0.2.2.2.2.2.2.2.2.2.2.2.1.length rfl a16 c17 x0.2.2.2.2.2.2.2.2.2.2.2.2.2.1.1.length rfl a20 c21 x0.2.2.2.2.2.2.2.2.2.2.2.2.2.2.1.length rfl a24 c25 x0.2.2.2.2.2.2.2.2.2.2.2.2.2.2.2.2.1.length rfl _ hy39) rfl [0, 1, 2, 3, 4, 5] rfl rfl ?_
      rintro ⟨a40, c41, a42, c43, a44, c45, a46, c47, a48, c49, a50, c51⟩ -
      refine JO.regB ttOk 4 [] [] [(7, .v (.int .i64 y38))] (.new 9 46 (cl46 y37 a40 c41 a42 c43 a44 c45 a46 c47 a48 c49 a50 c51) .nil) rfl ⟨⟨rfl, trivial⟩, (Bs rfl rfl)⟩ (JO.done rfl ?_)
      cases h
      exact JS.ret ttOk (a40, c41, a42, c43, a44, c45, a46, c47, a48, c49, a50, c51) trivial rfl rfl [0, 0, 0, 0, 0, 0] rfl
    have h := condF h ht67
    refine JS.skip (JS.seq (JS.region (JO.reg ttOk 3 [] [] [(23, .v (.agg (cl46 x0 a4 c5 a8 c9 a12 c13 a16 c17 a20 c21 a24 c25).toArray)), (24, .v (.agg #[.slice a35 y32.1.length c36, .int .i64 y32.2])), (25, .v (.int .i64 x2))] _ rfl ⟨(Es rfl), rfl⟩ ?_)))
    obtain ⟨y52, hy53, h⟩ := bindO_some h
    refine JO.call rfl rfl rfl rfl (ok_i_set x0 y32 x2 a4 c5 x0.2.2.1.1.length rfl a8 c9 x0.2.2.2.2.2.2.2.2.2.2.1.length rfl a12 c13 x0.2.2.2.2.2.2.2.2.2.2.2.1.length rfl a16 c17 x0.2.2.2.2.2.2.2.2.2.2.2.2.2.1.1.length rfl a20 c21 x0.2.2.2.2.2.2.2.2.2.2.2.2.2.2.1.length rfl a24 c25 x0.2.2.2.2.2.2.2.2.2.2.2.2.2.2.2.2.1.length rfl a35 c36 y32.1.length rfl _ hy53) rfl [0, 1, 2, 3, 4, 5, 7] rfl rfl ?_
    rintro ⟨a54, c55, a56, c57, a58, c59, a60, c61, a62, c63, a64, c65⟩ -
    refine JO.regB ttOk 2 [] [] [(7, .v (.int .i64 0))] (.new 9 46 (cl46 y52 a54 c55 a56 c57 a58 c59 a60 c61 a62 c63 a64 c65) .nil) rfl ⟨⟨rfl, trivial⟩, (Bs rfl rfl)⟩ (JO.done rfl ?_)
    cases h
    exact JS.ret ttOk (a54, c55, a56, c57, a58, c59, a60, c61, a62, c63, a64, c65) trivial rfl rfl [0, 0, 0, 0, 0, 0] rfl

def M_i_plain (x0 : Bool × Int × (List Int × Int) × Int × Int × Int × Int × Int × Int × Int × List (List Int) × (List (List Int × Int)) × Int × (List Int × Int) × List Int × Int × List Int × Int) (x1 : Int × List (List UInt8)) (x2 : Int × Int) : Option ((Bool × Int × (List Int × Int) × Int × Int × Int × Int × Int × Int × Int × List (List Int) × (List (List Int × Int)) × Int × (List Int × Int) × List Int × Int × List Int × Int) × Int × Bool) :=
  (joinO (fun ((x100, x101) : Int × (Bool × Int × (List Int × Int) × Int × Int × Int × Int × Int × Int × Int × List (List Int) × (List (List Int × Int)) × Int × (List Int × Int) × List Int × Int × List Int × Int)) =>
  some (x101, x100, true)) fun j114 =>
  (bif (decide (x2.1 = 1)) then
  (bindO (M_i_times ([x2.2] : List Int) (max x0.2.2.2.1 1)) fun (y33 : List Int) =>
  (bindO (M_i_insert x0 y33 1) fun (y37, y38) =>
  j114 (y38, y37)))
  else
  (bif (decide (x2.1 = 6)) then
  (bindO (M_i_times ([9] : List Int) (max x0.2.2.2.1 1)) fun (y54 : List Int) =>
  (bindO (M_i_insert x0 y54 1) fun (y58, y59) =>
  j114 (y59, y58)))
  else
  (bif (decide (x2.1 = 4)) then
  (bindO (M_i_copyEd x0) fun (y74 : Bool × Int × (List Int × Int) × Int × Int × Int × Int × Int × Int × Int × List (List Int) × (List (List Int × Int)) × Int × (List Int × Int) × List Int × Int × List Int × Int) =>
  j114 (2, y74))
  else
  (bif (decide (x2.1 = 2)) then
  none
  else
  (bif (decide (x2.1 = 5)) then
  none
  else
  (bif (decide (x2.1 = 14)) then
  none
  else
  (bif (decide (x2.1 = 11)) then
  none
  else
  (bif (decide (x2.1 = 10)) then
  none
  else
  (bif (decide (x2.1 = 12)) then
  none
  else
  (bif (decide (x2.1 = 13)) then
  none
  else
  (bif (decide (x2.1 = 8)) then
  none
  else
  (bif (decide (x2.1 = 9)) then
  none
  else
  some ((false, 0, ([], 0), 0, 0, 0, 0, 0, 0, 0, [], [], 0, ([], 0), [], 0, ([], 0)), 0, false))))))))))))))

theorem ok_i_plain (x0 : Bool × Int × (List Int × Int) × Int × Int × Int × Int × Int × Int × Int × List (List Int) × (List (List Int × Int)) × Int × (List Int × Int) × List Int × Int × List Int × Int) (x1 : Int × List (List UInt8)) (x2 : Int × Int) (a4 : Option Addr) (c5 : Nat) (l6 : Nat) (hl7 : x0.2.2.1.1.length = l6) (a8 : Option Addr) (c9 : Nat) (l10 : Nat) (hl11 : x0.2.2.2.2.2.2.2.2.2.2.1.length = l10) (a12 : Option Addr) (c13 : Nat) (l14 : Nat) (hl15 : x0.2.2.2.2.2.2.2.2.2.2.2.1.length = l14) (a16 : Option Addr) (c17 : Nat) (l18 : Nat) (hl19 : x0.2.2.2.2.2.2.2.2.2.2.2.2.2.1.1.length = l18) (a20 : Option Addr) (c21 : Nat) (l22 : Nat) (hl23 : x0.2.2.2.2.2.2.2.2.2.2.2.2.2.2.1.length = l22) (a24 : Option Addr) (c25 : Nat) (l26 : Nat) (hl27 : x0.2.2.2.2.2.2.2.2.2.2.2.2.2.2.2.2.1.length = l26) (a28 : Option Addr) (c29 : Nat) (l30 : Nat) (hl31 : x1.2.length = l30) (r : (Bool × Int × (List Int × Int) × Int × Int × Int × Int × Int × Int × Int × List (List Int) × (List (List Int × Int)) × Int × (List Int × Int) × List Int × Int × List Int × Int) × Int × Bool) (h : M_i_plain x0 x1 x2 = some r) :
    FC Tryz.prog 88 [.agg #[.bool x0.1, .int .i64 x0.2.1, .slice a4 l6 c5, .int .i64 x0.2.2.1.2, .int .i64 x0.2.2.2.1, .int .i64 x0.2.2.2.2.1, .int .i64 x0.2.2.2.2.2.1, .int .i64 x0.2.2.2.2.2.2.1, .int .i64 x0.2.2.2.2.2.2.2.1, .int .i64 x0.2.2.2.2.2.2.2.2.1, .int .i64 x0.2.2.2.2.2.2.2.2.2.1, .slice a8 l10 c9, .slice a12 l14 c13, .int .i64 x0.2.2.2.2.2.2.2.2.2.2.2.2.1, .slice a16 l18 c17, .int .i64 x0.2.2.2.2.2.2.2.2.2.2.2.2.2.1.2, .slice a20 l22 c21, .int .i64 x0.2.2.2.2.2.2.2.2.2.2.2.2.2.2.2.1, .slice a24 l26 c25, .int .i64 x0.2.2.2.2.2.2.2.2.2.2.2.2.2.2.2.2.2], .agg #[.int .i64 x1.1, .slice a28 l30 c29], .agg #[.int .i64 x2.1, .int .i64 x2.2]] [⟨(.int .i64), ⟨a4, l6, c5⟩, x0.2.2.1.1⟩, ⟨(.sl (.int .i64)), ⟨a8, l10, c9⟩, x0.2.2.2.2.2.2.2.2.2.2.1⟩, ⟨(.pair (.sl (.int .i64)) (.int .i64)), ⟨a12, l14, c13⟩, x0.2.2.2.2.2.2.2.2.2.2.2.1⟩, ⟨(.int .i64), ⟨a16, l18, c17⟩, x0.2.2.2.2.2.2.2.2.2.2.2.2.2.1.1⟩, ⟨(.int .i64), ⟨a20, l22, c21⟩, x0.2.2.2.2.2.2.2.2.2.2.2.2.2.2.1⟩, ⟨(.int .i64), ⟨a24, l26, c25⟩, x0.2.2.2.2.2.2.2.2.2.2.2.2.2.2.2.2.1⟩, ⟨.str, ⟨a28, l30, c29⟩, x1.2⟩] (fun _ : Option Addr × Nat × Option Addr × Nat × Option Addr × Nat × Option Addr × Nat × Option Addr × Nat × Option Addr × Nat => True) (fun q => .tuple #[.agg (cl46 r.1 q.1 q.2.1 q.2.2.1 q.2.2.2.1 q.2.2.2.2.1 q.2.2.2.2.2.1 q.2.2.2.2.2.2.1 q.2.2.2.2.2.2.2.1 q.2.2.2.2.2.2.2.2.1 q.2.2.2.2.2.2.2.2.2.1 q.2.2.2.2.2.2.2.2.2.2.1 q.2.2.2.2.2.2.2.2.2.2.2).toArray, .int .i64 r.2.1, .bool r.2.2]) (fun q => [⟨(.int .i64), ⟨q.1, r.1.2.2.1.1.length, q.2.1⟩, r.1.2.2.1.1⟩, ⟨(.sl (.int .i64)), ⟨q.2.2.1, r.1.2.2.2.2.2.2.2.2.2.2.1.length, q.2.2.2.1⟩, r.1.2.2.2.2.2.2.2.2.2.2.1⟩, ⟨(.pair (.sl (.int .i64)) (.int .i64)), ⟨q.2.2.2.2.1, r.1.2.2.2.2.2.2.2.2.2.2.2.1.length, q.2.2.2.2.2.1⟩, r.1.2.2.2.2.2.2.2.2.2.2.2.1⟩, ⟨(.int .i64), ⟨q.2.2.2.2.2.2.1, r.1.2.2.2.2.2.2.2.2.2.2.2.2.2.1.1.length, q.2.2.2.2.2.2.2.1⟩, r.1.2.2.2.2.2.2.2.2.2.2.2.2.2.1.1⟩, ⟨(.int .i64), ⟨q.2.2.2.2.2.2.2.2.1, r.1.2.2.2.2.2.2.2.2.2.2.2.2.2.2.1.length, q.2.2.2.2.2.2.2.2.2.1⟩, r.1.2.2.2.2.2.2.2.2.2.2.2.2.2.2.1⟩, ⟨(.int .i64), ⟨q.2.2.2.2.2.2.2.2.2.2.1, r.1.2.2.2.2.2.2.2.2.2.2.2.2.2.2.2.2.1.length, q.2.2.2.2.2.2.2.2.2.2.2⟩, r.1.2.2.2.2.2.2.2.2.2.2.2.2.2.2.2.2.1⟩]) :=
  by
    subst hl7
    subst hl11
    subst hl15
    subst hl19
    subst hl23
    subst hl27
    subst hl31
    refine FC.of (T := TTx) Tryz.call88 Tryz.func88 rfl rfl fun w0 => ?_
    unfold M_i_plain at h
    refine JS.rgB ttOk 6 [] [8, 9, 10, 11] [(3, .bp 8 0), (4, .bp 9 0), (5, .bp 10 0), (6, .bp 11 0)] (.new 8 46 (cl46 x0 a4 c5 a8 c9 a12 c13 a16 c17 a20 c21 a24 c25) (.new 9 50 [.int .i64 x1.1, .slice a28 x1.2.length c29] (.new 10 64 [.int .i64 x2.1, .int .i64 x2.2] (.new 11 46 (cl46 (false, 0, ([], 0), 0, 0, 0, 0, 0, 0, 0, [], [], 0, ([], 0), [], 0, ([], 0)) none 0 none 0 none 0 none 0 none 0 none 0) .nil)))) ⟨(Es rfl), (Bs rfl rfl)⟩ rfl rfl (JS.seq (JS.regionQ rfl (by kernel_rfl) (JQ.reg ttOk 13 [] [(9, .v (.int .i64 x0.2.2.1.2)), (10, .v (.int .i64 (max x0.2.2.2.1 1))), (11, .v (.int .i64 (x0.2.2.1.1.length : Int)))] rfl (Es rfl) (JQ.done rfl (JS.rgB ttOk 1 [] [12] [(12, .bp 12 0)] (.new 8 46 (cl46 x0 a4 c5 a8 c9 a12 c13 a16 c17 a20 c21 a24 c25) (.new 9 50 [.int .i64 x1.1, .slice a28 x1.2.length c29] (.new 10 64 [.int .i64 x2.1, .int .i64 x2.2] (.new 11 46 (cl46 (false, 0, ([], 0), 0, 0, 0, 0, 0, 0, 0, [], [], 0, ([], 0), [], 0, ([], 0)) none 0 none 0 none 0 none 0 none 0 none 0) (.new 12 46 (cl46 (false, 0, ([], 0), 0, 0, 0, 0, 0, 0, 0, [], [], 0, ([], 0), [], 0, ([], 0)) none 0 none 0 none 0 none 0 none 0 none 0) .nil))))) ⟨⟨rfl, trivial⟩, (Bs rfl rfl)⟩ rfl rfl (JS.rg0 ttOk 1 [] ⟨trivial, rfl⟩ rfl rfl (JS.seq (JS.rg0 ttOk 2 [(25, .v (.int .i64 x2.1))] ⟨⟨rfl, trivial⟩, rfl⟩ rfl rfl ?_))))))))
    obtain ⟨j114, hj140, h⟩ := joinO_some h
    refine JS.blockJ (ι := Int × (Bool × Int × (List Int × Int) × Int × Int × Int × Int × Int × Int × Int × List (List Int) × (List (List Int × Int)) × Int × (List Int × Int) × List Int × Int × List Int × Int) × Option Addr × Nat × Option Addr × Nat × Option Addr × Nat × Option Addr × Nat × Option Addr × Nat × Option Addr × Nat) ⟨fun z => j114 (z.1, z.2.1) = some r, fun z => [(6, .bp 11 0), (12, .bp 12 0), (13, .v (.int .i64 z.1))], fun z => (.new 11 46 (cl46 (false, 0, ([], 0), 0, 0, 0, 0, 0, 0, 0, [], [], 0, ([], 0), [], 0, ([], 0)) none 0 none 0 none 0 none 0 none 0 none 0) (.new 12 46 (cl46 z.2.1 z.2.2.1 z.2.2.2.1 z.2.2.2.2.1 z.2.2.2.2.2.1 z.2.2.2.2.2.2.1 z.2.2.2.2.2.2.2.1 z.2.2.2.2.2.2.2.2.1 z.2.2.2.2.2.2.2.2.2.1 z.2.2.2.2.2.2.2.2.2.2.1 z.2.2.2.2.2.2.2.2.2.2.2.1 z.2.2.2.2.2.2.2.2.2.2.2.2.1 z.2.2.2.2.2.2.2.2.2.2.2.2.2) .nil)), fun z => [], fun z => [⟨(.int .i64), ⟨z.2.2.1, z.2.1.2.2.1.1.length, z.2.2.2.1⟩, z.2.1.2.2.1.1⟩, ⟨(.sl (.int .i64)), ⟨z.2.2.2.2.1, z.2.1.2.2.2.2.2.2.2.2.2.2.1.length, z.2.2.2.2.2.1⟩, z.2.1.2.2.2.2.2.2.2.2.2.2.1⟩, ⟨(.pair (.sl (.int .i64)) (.int .i64)), ⟨z.2.2.2.2.2.2.1, z.2.1.2.2.2.2.2.2.2.2.2.2.2.1.length, z.2.2.2.2.2.2.2.1⟩, z.2.1.2.2.2.2.2.2.2.2.2.2.2.1⟩, ⟨(.int .i64), ⟨z.2.2.2.2.2.2.2.2.1, z.2.1.2.2.2.2.2.2.2.2.2.2.2.2.2.1.1.length, z.2.2.2.2.2.2.2.2.2.1⟩, z.2.1.2.2.2.2.2.2.2.2.2.2.2.2.2.1.1⟩, ⟨(.int .i64), ⟨z.2.2.2.2.2.2.2.2.2.2.1, z.2.1.2.2.2.2.2.2.2.2.2.2.2.2.2.2.1.length, z.2.2.2.2.2.2.2.2.2.2.2.1⟩, z.2.1.2.2.2.2.2.2.2.2.2.2.2.2.2.2.1⟩, ⟨(.int .i64), ⟨z.2.2.2.2.2.2.2.2.2.2.2.2.1, z.2.1.2.2.2.2.2.2.2.2.2.2.2.2.2.2.2.2.1.length, z.2.2.2.2.2.2.2.2.2.2.2.2.2⟩, z.2.1.2.2.2.2.2.2.2.2.2.2.2.2.2.2.2.2.1⟩], fun z => 0⟩ ?_ ?_
    · refine JS.rg0 ttOk 2 [(27, .v (.bool (decide (x2.1 = 1))))] ⟨⟨rfl, trivial⟩, rfl⟩ rfl rfl ?_
      refine JS.cond rfl (fun ht139 => ?_) (fun ht139 => ?_)
      · have h := condT h ht139
        obtain ⟨y33, hy34, h⟩ := bindO_some h
        obtain ⟨⟨y37, y38⟩, hy39, h⟩ := bindO_some h
        refine JS.regionA rfl (.new 8 46 (cl46 x0 a4 c5 a8 c9 a12 c13 a16 c17 a20 c21 a24 c25) (.new 10 64 [.int .i64 x2.1, .int .i64 x2.2] .nil)) [] [6, 7, 8, 9, 10, 11] ⟨rfl, rfl, rfl, rfl, rfl, rfl, rfl, rfl, trivial⟩ rfl (fun be52 => ?_)
        refine JA.reg ttOk panic_cx true 10 [0, 4] rfl (by kernel_rfl) [] [(30, .v (.agg (cl46 x0 a4 c5 a8 c9 a12 c13 a16 c17 a20 c21 a24 c25).toArray)), (34, .v (.int .i64 (max x0.2.2.2.1 1)))] ⟨rfl, rfl, rfl, rfl, rfl, rfl, rfl, rfl, trivial⟩ [] rfl rfl (Es rfl) (JA.regL ttOk panic_cx 9 [1] rfl (by kernel_rfl) [] [(31, .bp 10 1)] rfl ⟨rfl, trivial⟩ (JA.reg ttOk panic_cx true 8 [2] rfl (by kernel_rfl) [] [(32, .v (.int .i64 x2.2))] ⟨rfl, rfl, rfl, rfl, rfl, rfl, rfl, rfl, trivial⟩ [] rfl rfl ⟨rfl, trivial⟩ (JA.one 3 (by kernel_rfl) (JK.buildSlice ttOk rfl rfl rfl rfl rfl rfl rfl rfl rfl rfl rfl [] rfl (.int .i64) [x2.2] ⟨rfl, rfl⟩ rfl rfl fun a32 => JA.next ⟨rfl, rfl, rfl, rfl, rfl, rfl, rfl, rfl, trivial⟩ [] rfl (JA.one 5 (by kernel_rfl) (JK.call rfl rfl rfl rfl (ok_i_times ([x2.2] : List Int) (max x0.2.2.2.1 1) a32 (([x2.2] : List Int).length) (([x2.2] : List Int).length) rfl _ hy34) rfl [7] rfl rfl ?_))))))
        rintro ⟨a35, c36⟩ -
        refine JA.next ⟨rfl, rfl, rfl, rfl, rfl, rfl, rfl, rfl, trivial⟩ [] rfl (JA.one 6 (by kernel_rfl) (JK.call rfl rfl rfl rfl (ok_i_insert x0 y33 1 a4 c5 x0.2.2.1.1.length rfl a8 c9 x0.2.2.2.2.2.2.2.2.2.2.1.length rfl a12 c13 x0.2.2.2.2.2.2.2.2.2.2.2.1.length rfl a16 c17 x0.2.2.2.2.2.2.2.2.2.2.2.2.2.1.1.length rfl a20 c21 x0.2.2.2.2.2.2.2.2.2.2.2.2.2.2.1.length rfl a24 c25 x0.2.2.2.2.2.2.2.2.2.2.2.2.2.2.2.2.1.length rfl a35 c36 y33.length rfl _ hy39) rfl [0, 1, 2, 3, 4, 5, 7] rfl rfl ?_))
        rintro ⟨a40, c41, a42, c43, a44, c45, a46, c47, a48, c49, a50, c51⟩ -
        refine JA.nextL rfl (JA.regL ttOk panic_cx 2 [7, 8, 9] rfl (by kernel_rfl) [] [(37, .v (.agg (cl46 y37 a40 c41 a42 c43 a44 c45 a46 c47 a48 c49 a50 c51).toArray)), (38, .v (.int .i64 y38))] rfl (Es rfl) (JA.one 10 (by kernel_rfl) (JK.stBox ttOk rfl rfl rfl rfl rfl rfl rfl rfl (JA.nextL rfl (JA.regL ttOk panic_cx 0 [11] rfl (by kernel_rfl) [] [(13, .v (.int .i64 y38))] rfl ⟨rfl, trivial⟩ (JA.done (by kernel_rfl) (JS.boxes (B' := (.new 11 46 (cl46 (false, 0, ([], 0), 0, 0, 0, 0, 0, 0, 0, [], [], 0, ([], 0), [], 0, ([], 0)) none 0 none 0 none 0 none 0 none 0 none 0) (.new 12 46 (cl46 y37 a40 c41 a42 c43 a44 c45 a46 c47 a48 c49 a50 c51) .nil))) (Bs rfl rfl) (JS.endB (JS.endJA (y38, y37, a40, c41, a42, c43, a44, c45, a46, c47, a48, c49, a50, c51) h (Es rfl) (Bs rfl rfl) [] rfl [0, 1, 2, 3, 4, 5] rfl rfl)))))))))
      have h := condF h ht139
      refine JS.rg0 ttOk 2 [(39, .v (.bool (decide (x2.1 = 6))))] ⟨⟨rfl, trivial⟩, rfl⟩ rfl rfl ?_
      refine JS.cond rfl (fun ht138 => ?_) (fun ht138 => ?_)
      · have h := condT h ht138
        obtain ⟨y54, hy55, h⟩ := bindO_some h
        obtain ⟨⟨y58, y59⟩, hy60, h⟩ := bindO_some h
        refine JS.regionA rfl (.new 8 46 (cl46 x0 a4 c5 a8 c9 a12 c13 a16 c17 a20 c21 a24 c25) .nil) [] [4, 5, 6, 7, 8, 9] ⟨rfl, rfl, rfl, rfl, trivial⟩ rfl (fun be73 => ?_)
        refine JA.reg ttOk panic_cx true 8 [0, 2] rfl (by kernel_rfl) [] [(42, .v (.agg (cl46 x0 a4 c5 a8 c9 a12 c13 a16 c17 a20 c21 a24 c25).toArray)), (44, .v (.int .i64 (max x0.2.2.2.1 1)))] ⟨rfl, rfl, rfl, rfl, trivial⟩ [] rfl rfl (Es rfl) (JA.one 1 (by kernel_rfl) (JK.buildSlice ttOk rfl rfl rfl rfl rfl rfl rfl rfl rfl rfl rfl [] rfl (.int .i64) [9] ⟨rfl, rfl⟩ rfl rfl fun a53 => JA.next ⟨rfl, rfl, rfl, rfl, trivial⟩ [] rfl (JA.one 3 (by kernel_rfl) (JK.call rfl rfl rfl rfl (ok_i_times ([9] : List Int) (max x0.2.2.2.1 1) a53 (([9] : List Int).length) (([9] : List Int).length) rfl _ hy55) rfl [7] rfl rfl ?_))))
        rintro ⟨a56, c57⟩ -
        refine JA.next ⟨rfl, rfl, rfl, rfl, trivial⟩ [] rfl (JA.one 4 (by kernel_rfl) (JK.call rfl rfl rfl rfl (ok_i_insert x0 y54 1 a4 c5 x0.2.2.1.1.length rfl a8 c9 x0.2.2.2.2.2.2.2.2.2.2.1.length rfl a12 c13 x0.2.2.2.2.2.2.2.2.2.2.2.1.length rfl a16 c17 x0.2.2.2.2.2.2.2.2.2.2.2.2.2.1.1.length rfl a20 c21 x0.2.2.2.2.2.2.2.2.2.2.2.2.2.2.1.length rfl a24 c25 x0.2.2.2.2.2.2.2.2.2.2.2.2.2.2.2.2.1.length rfl a56 c57 y54.length rfl _ hy60) rfl [0, 1, 2, 3, 4, 5, 7] rfl rfl ?_))
        rintro ⟨a61, c62, a63, c64, a65, c66, a67, c68, a69, c70, a71, c72⟩ -
        refine JA.nextL rfl (JA.regL ttOk panic_cx 2 [5, 6, 7] rfl (by kernel_rfl) [] [(47, .v (.agg (cl46 y58 a61 c62 a63 c64 a65 c66 a67 c68 a69 c70 a71 c72).toArray)), (48, .v (.int .i64 y59))] rfl (Es rfl) (JA.one 8 (by kernel_rfl) (JK.stBox ttOk rfl rfl rfl rfl rfl rfl rfl rfl (JA.nextL rfl (JA.regL ttOk panic_cx 0 [9] rfl (by kernel_rfl) [] [(13, .v (.int .i64 y59))] rfl ⟨rfl, trivial⟩ (JA.done (by kernel_rfl) (JS.boxes (B' := (.new 11 46 (cl46 (false, 0, ([], 0), 0, 0, 0, 0, 0, 0, 0, [], [], 0, ([], 0), [], 0, ([], 0)) none 0 none 0 none 0 none 0 none 0 none 0) (.new 12 46 (cl46 y58 a61 c62 a63 c64 a65 c66 a67 c68 a69 c70 a71 c72) .nil))) (Bs rfl rfl) (JS.endB (JS.endJA (y59, y58, a61, c62, a63, c64, a65, c66, a67, c68, a69, c70, a71, c72) h (Es rfl) (Bs rfl rfl) [] rfl [0, 1, 2, 3, 4, 5] rfl rfl)))))))))
      have h := condF h ht138
      refine JS.rg0 ttOk 2 [(49, .v (.bool (decide (x2.1 = 4))))] ⟨⟨rfl, trivial⟩, rfl⟩ rfl rfl ?_
      refine JS.cond rfl (fun ht137 => ?_) (fun ht137 => ?_)
      · have h := condT h ht137
        refine JS.region (JO.reg ttOk 1 [] [] [(51, .v (.agg (cl46 x0 a4 c5 a8 c9 a12 c13 a16 c17 a20 c21 a24 c25).toArray))] _ rfl ⟨⟨rfl, trivial⟩, rfl⟩ ?_)
        obtain ⟨y74, hy75, h⟩ := bindO_some h
        refine JO.call rfl rfl rfl rfl (ok_i_copyEd x0 a4 c5 x0.2.2.1.1.length rfl a8 c9 x0.2.2.2.2.2.2.2.2.2.2.1.length rfl a12 c13 x0.2.2.2.2.2.2.2.2.2.2.2.1.length rfl a16 c17 x0.2.2.2.2.2.2.2.2.2.2.2.2.2.1.1.length rfl a20 c21 x0.2.2.2.2.2.2.2.2.2.2.2.2.2.2.1.length rfl a24 c25 x0.2.2.2.2.2.2.2.2.2.2.2.2.2.2.2.2.1.length rfl _ hy75) rfl [0, 1, 2, 3, 4, 5] rfl rfl ?_
        rintro ⟨a76, c77, a78, c79, a80, c81, a82, c83, a84, c85, a86, c87⟩ -
        refine JO.regB ttOk 2 [] [] [(13, .v (.int .i64 2))] (.new 11 46 (cl46 (false, 0, ([], 0), 0, 0, 0, 0, 0, 0, 0, [], [], 0, ([], 0), [], 0, ([], 0)) none 0 none 0 none 0 none 0 none 0 none 0) (.new 12 46 (cl46 y74 a76 c77 a78 c79 a80 c81 a82 c83 a84 c85 a86 c87) .nil)) rfl ⟨⟨rfl, trivial⟩, (Bs rfl rfl)⟩ (JO.done rfl (JS.endB (JS.endJA (2, y74, a76, c77, a78, c79, a80, c81, a82, c83, a84, c85, a86, c87) h (Es rfl) (Bs rfl rfl) [] rfl [0, 1, 2, 3, 4, 5] rfl rfl)))
      have h := condF h ht137
      refine JS.rg0 ttOk 2 [(53, .v (.bool (decide (x2.1 = 2))))] ⟨⟨rfl, trivial⟩, rfl⟩ rfl rfl ?_
      refine JS.cond rfl (fun ht136 => ?_) (fun ht136 => ?_)
      · have h := condT h ht136
        refine JS.seq ?_
        cases h
      have h := condF h ht136
      refine JS.rg0 ttOk 2 [(62, .v (.bool (decide (x2.1 = 5))))] ⟨⟨rfl, trivial⟩, rfl⟩ rfl rfl ?_
      refine JS.cond rfl (fun ht135 => ?_) (fun ht135 => ?_)
      · have h := condT h ht135
        cases h
      have h := condF h ht135
      refine JS.rg0 ttOk 2 [(74, .v (.bool (decide (x2.1 = 14))))] ⟨⟨rfl, trivial⟩, rfl⟩ rfl rfl ?_
      refine JS.cond rfl (fun ht134 => ?_) (fun ht134 => ?_)
      · have h := condT h ht134
        cases h
      have h := condF h ht134
      refine JS.rg0 ttOk 2 [(87, .v (.bool (decide (x2.1 = 11))))] ⟨⟨rfl, trivial⟩, rfl⟩ rfl rfl ?_
      refine JS.cond rfl (fun ht133 => ?_) (fun ht133 => ?_)
      · have h := condT h ht133
        cases h
      have h := condF h ht133
      refine JS.rg0 ttOk 2 [(100, .v (.bool (decide (x2.1 = 10))))] ⟨⟨rfl, trivial⟩, rfl⟩ rfl rfl ?_
      refine JS.cond rfl (fun ht132 => ?_) (fun ht132 => ?_)
      · have h := condT h ht132
        cases h
      have h := condF h ht132
      refine JS.rg0 ttOk 2 [(113, .v (.bool (decide (x2.1 = 12))))] ⟨⟨rfl, trivial⟩, rfl⟩ rfl rfl ?_
      refine JS.cond rfl (fun ht131 => ?_) (fun ht131 => ?_)
      · have h := condT h ht131
        cases h
      have h := condF h ht131
      refine JS.rg0 ttOk 2 [(123, .v (.bool (decide (x2.1 = 13))))] ⟨⟨rfl, trivial⟩, rfl⟩ rfl rfl ?_
      refine JS.cond rfl (fun ht130 => ?_) (fun ht130 => ?_)
      · have h := condT h ht130
        cases h
      have h := condF h ht130
      refine JS.rg0 ttOk 2 [(134, .v (.bool (decide (x2.1 = 8))))] ⟨⟨rfl, trivial⟩, rfl⟩ rfl rfl ?_
      refine JS.cond rfl (fun ht129 => ?_) (fun ht129 => ?_)
      · have h := condT h ht129
        cases h
      have h := condF h ht129
      refine JS.rg0 ttOk 2 [(142, .v (.bool (decide (x2.1 = 9))))] ⟨⟨rfl, trivial⟩, rfl⟩ rfl rfl ?_
      refine JS.cond rfl (fun ht128 => ?_) (fun ht128 => ?_)
      · have h := condT h ht128
        cases h
      have h := condF h ht128
      refine JS.rgB ttOk 4 [] [] [(7, .v (.int .i64 0)), (8, .v (.bool false))] (.new 11 46 (cl46 (false, 0, ([], 0), 0, 0, 0, 0, 0, 0, 0, [], [], 0, ([], 0), [], 0, ([], 0)) none 0 none 0 none 0 none 0 none 0 none 0) .nil) ⟨(Es rfl), (Bs rfl rfl)⟩ rfl rfl ?_
      cases h
      refine JS.nilO (.int .i64) Sl.nil rfl rfl (JS.nilO (.sl (.int .i64)) Sl.nil rfl rfl (JS.nilO (.pair (.sl (.int .i64)) (.int .i64)) Sl.nil rfl rfl (JS.nilO (.int .i64) Sl.nil rfl rfl (JS.nilO (.int .i64) Sl.nil rfl rfl (JS.nilO (.int .i64) Sl.nil rfl rfl (JS.ret ttOk (none, 0, none, 0, none, 0, none, 0, none, 0, none, 0) trivial rfl rfl [5, 4, 3, 2, 1, 0] rfl))))))
    rintro ⟨x100, x101, a102, c103, a104, c105, a106, c107, a108, c109, a110, c111, a112, c113⟩ h
    subst hj140
    refine JS.rgB ttOk 5 [] [] [(7, .v (.int .i64 x100)), (8, .v (.bool true))] (.new 11 46 (cl46 x101 a102 c103 a104 c105 a106 c107 a108 c109 a110 c111 a112 c113) .nil) ⟨(Es rfl), (Bs rfl rfl)⟩ rfl rfl ?_
    cases h
    exact JS.ret ttOk (a102, c103, a104, c105, a106, c107, a108, c109, a110, c111, a112, c113) trivial rfl rfl [0, 0, 0, 0, 0, 0] rfl

def M_i_EmacsKey (x0 : Bool × Int × (List Int × Int) × Int × Int × Int × Int × Int × Int × Int × List (List Int) × (List (List Int × Int)) × Int × (List Int × Int) × List Int × Int × List Int × Int) (x1 : Int × List (List UInt8)) (x2 : Int × Int) : Option ((Bool × Int × (List Int × Int) × Int × Int × Int × Int × Int × Int × Int × List (List Int) × (List (List Int × Int)) × Int × (List Int × Int) × List Int × Int × List Int × Int) × Int) :=
  (bindO (M_i_canKey x0 x1 x2) fun (y32 : Bool) =>
  (bif (bif (!y32) then true else (!(decide (x0.2.1 = 0)))) then
  some ((false, 0, ([], 0), 0, 0, 0, 0, 0, 0, 0, [], [], 0, ([], 0), [], 0, ([], 0)), 0)
  else
  (bindO (M_i_plain x0 x1 x2) fun (y34, y35, y36) =>
  (bif y36 then
  some (y34, y35)
  else
  (bif (decide (x2.1 = 3)) then
  none
  else
  (bif (decide (x2.1 = 15)) then
  none
  else
  (bif (decide (x2.1 = 2)) then
  none
  else
  (bindO (M_i_bell x0) fun (y51, y52) =>
  some (y51, y52)))))))))

theorem ok_i_EmacsKey (x0 : Bool × Int × (List Int × Int) × Int × Int × Int × Int × Int × Int × Int × List (List Int) × (List (List Int × Int)) × Int × (List Int × Int) × List Int × Int × List Int × Int) (x1 : Int × List (List UInt8)) (x2 : Int × Int) (a4 : Option Addr) (c5 : Nat) (l6 : Nat) (hl7 : x0.2.2.1.1.length = l6) (a8 : Option Addr) (c9 : Nat) (l10 : Nat) (hl11 : x0.2.2.2.2.2.2.2.2.2.2.1.length = l10) (a12 : Option Addr) (c13 : Nat) (l14 : Nat) (hl15 : x0.2.2.2.2.2.2.2.2.2.2.2.1.length = l14) (a16 : Option Addr) (c17 : Nat) (l18 : Nat) (hl19 : x0.2.2.2.2.2.2.2.2.2.2.2.2.2.1.1.length = l18) (a20 : Option Addr) (c21 : Nat) (l22 : Nat) (hl23 : x0.2.2.2.2.2.2.2.2.2.2.2.2.2.2.1.length = l22) (a24 : Option Addr) (c25 : Nat) (l26 : Nat) (hl27 : x0.2.2.2.2.2.2.2.2.2.2.2.2.2.2.2.2.1.length = l26) (a28 : Option Addr) (c29 : Nat) (l30 : Nat) (hl31 : x1.2.length = l30) (r : (Bool × Int × (List Int × Int) × Int × Int × Int × Int × Int × Int × Int × List (List Int) × (List (List Int × Int)) × Int × (List Int × Int) × List Int × Int × List Int × Int) × Int) (h : M_i_EmacsKey x0 x1 x2 = some r) :
    FC Tryz.prog 38 [.agg #[.bool x0.1, .int .i64 x0.2.1, .slice a4 l6 c5, .int .i64 x0.2.2.1.2, .int .i64 x0.2.2.2.1, .int .i64 x0.2.2.2.2.1, .int .i64 x0.2.2.2.2.2.1, .int .i64 x0.2.2.2.2.2.2.1, .int .i64 x0.2.2.2.2.2.2.2.1, .int .i64 x0.2.2.2.2.2.2.2.2.1, .int .i64 x0.2.2.2.2.2.2.2.2.2.1, .slice a8 l10 c9, .slice a12 l14 c13, .int .i64 x0.2.2.2.2.2.2.2.2.2.2.2.2.1, .slice a16 l18 c17, .int .i64 x0.2.2.2.2.2.2.2.2.2.2.2.2.2.1.2, .slice a20 l22 c21, .int .i64 x0.2.2.2.2.2.2.2.2.2.2.2.2.2.2.2.1, .slice a24 l26 c25, .int .i64 x0.2.2.2.2.2.2.2.2.2.2.2.2.2.2.2.2.2], .agg #[.int .i64 x1.1, .slice a28 l30 c29], .agg #[.int .i64 x2.1, .int .i64 x2.2]] [⟨(.int .i64), ⟨a4, l6, c5⟩, x0.2.2.1.1⟩, ⟨(.sl (.int .i64)), ⟨a8, l10, c9⟩, x0.2.2.2.2.2.2.2.2.2.2.1⟩, ⟨(.pair (.sl (.int .i64)) (.int .i64)), ⟨a12, l14, c13⟩, x0.2.2.2.2.2.2.2.2.2.2.2.1⟩, ⟨(.int .i64), ⟨a16, l18, c17⟩, x0.2.2.2.2.2.2.2.2.2.2.2.2.2.1.1⟩, ⟨(.int .i64), ⟨a20, l22, c21⟩, x0.2.2.2.2.2.2.2.2.2.2.2.2.2.2.1⟩, ⟨(.int .i64), ⟨a24, l26, c25⟩, x0.2.2.2.2.2.2.2.2.2.2.2.2.2.2.2.2.1⟩, ⟨.str, ⟨a28, l30, c29⟩, x1.2⟩] (fun _ : Option Addr × Nat × Option Addr × Nat × Option Addr × Nat × Option Addr × Nat × Option Addr × Nat × Option Addr × Nat => True) (fun q => .tuple #[.agg (cl46 r.1 q.1 q.2.1 q.2.2.1 q.2.2.2.1 q.2.2.2.2.1 q.2.2.2.2.2.1 q.2.2.2.2.2.2.1 q.2.2.2.2.2.2.2.1 q.2.2.2.2.2.2.2.2.1 q.2.2.2.2.2.2.2.2.2.1 q.2.2.2.2.2.2.2.2.2.2.1 q.2.2.2.2.2.2.2.2.2.2.2).toArray, .int .i64 r.2]) (fun q => [⟨(.int .i64), ⟨q.1, r.1.2.2.1.1.length, q.2.1⟩, r.1.2.2.1.1⟩, ⟨(.sl (.int .i64)), ⟨q.2.2.1, r.1.2.2.2.2.2.2.2.2.2.2.1.length, q.2.2.2.1⟩, r.1.2.2.2.2.2.2.2.2.2.2.1⟩, ⟨(.pair (.sl (.int .i64)) (.int .i64)), ⟨q.2.2.2.2.1, r.1.2.2.2.2.2.2.2.2.2.2.2.1.length, q.2.2.2.2.2.1⟩, r.1.2.2.2.2.2.2.2.2.2.2.2.1⟩, ⟨(.int .i64), ⟨q.2.2.2.2.2.2.1, r.1.2.2.2.2.2.2.2.2.2.2.2.2.2.1.1.length, q.2.2.2.2.2.2.2.1⟩, r.1.2.2.2.2.2.2.2.2.2.2.2.2.2.1.1⟩, ⟨(.int .i64), ⟨q.2.2.2.2.2.2.2.2.1, r.1.2.2.2.2.2.2.2.2.2.2.2.2.2.2.1.length, q.2.2.2.2.2.2.2.2.2.1⟩, r.1.2.2.2.2.2.2.2.2.2.2.2.2.2.2.1⟩, ⟨(.int .i64), ⟨q.2.2.2.2.2.2.2.2.2.2.1, r.1.2.2.2.2.2.2.2.2.2.2.2.2.2.2.2.2.1.length, q.2.2.2.2.2.2.2.2.2.2.2⟩, r.1.2.2.2.2.2.2.2.2.2.2.2.2.2.2.2.2.1⟩]) :=
  by
    subst hl7
    subst hl11
    subst hl15
    subst hl19
    subst hl23
    subst hl27
    subst hl31
    refine FC.of (T := TTx) Tryz.call38 Tryz.func38 rfl rfl fun w0 => ?_
    unfold M_i_EmacsKey at h
    refine JS.rgB ttOk 5 [] [8, 9, 10, 11] [(3, .bp 8 0), (4, .bp 9 0), (5, .bp 10 0), (6, .bp 11 0)] (.new 8 46 (cl46 x0 a4 c5 a8 c9 a12 c13 a16 c17 a20 c21 a24 c25) (.new 9 50 [.int .i64 x1.1, .slice a28 x1.2.length c29] (.new 10 64 [.int .i64 x2.1, .int .i64 x2.2] (.new 11 46 (cl46 (false, 0, ([], 0), 0, 0, 0, 0, 0, 0, 0, [], [], 0, ([], 0), [], 0, ([], 0)) none 0 none 0 none 0 none 0 none 0 none 0) .nil)))) ⟨(Es rfl), (Bs rfl rfl)⟩ rfl rfl (JS.seq (JS.seq (JS.region (JO.reg ttOk 3 [] [] [(13, .v (.agg (cl46 x0 a4 c5 a8 c9 a12 c13 a16 c17 a20 c21 a24 c25).toArray)), (14, .v (.agg #[.int .i64 x1.1, .slice a28 x1.2.length c29])), (15, .v (.agg #[.int .i64 x2.1, .int .i64 x2.2]))] _ rfl ⟨(Es rfl), rfl⟩ ?_))))
    obtain ⟨y32, hy33, h⟩ := bindO_some h
    refine JO.call rfl rfl rfl rfl (ok_i_canKey x0 x1 x2 a4 c5 x0.2.2.1.1.length rfl a8 c9 x0.2.2.2.2.2.2.2.2.2.2.1.length rfl a12 c13 x0.2.2.2.2.2.2.2.2.2.2.2.1.length rfl a16 c17 x0.2.2.2.2.2.2.2.2.2.2.2.2.2.1.1.length rfl a20 c21 x0.2.2.2.2.2.2.2.2.2.2.2.2.2.2.1.length rfl a24 c25 x0.2.2.2.2.2.2.2.2.2.2.2.2.2.2.2.2.1.length rfl a28 c29 x1.2.length rfl _ hy33) rfl [0, 1, 2, 3, 4, 5, 6] rfl rfl fun _ _ => JO.reg ttOk 6 [] [] [(22, .v (.bool (bif (!y32) then true else (!(decide (x0.2.1 = 0))))))] _ rfl ⟨⟨rfl, trivial⟩, rfl⟩ (JO.done rfl ?_)
    refine JS.cond rfl (fun ht75 => ?_) (fun ht75 => ?_)
    · have h := condT h ht75
      refine JS.rgB ttOk 3 [] [] [(7, .v (.int .i64 0))] (.new 11 46 (cl46 (false, 0, ([], 0), 0, 0, 0, 0, 0, 0, 0, [], [], 0, ([], 0), [], 0, ([], 0)) none 0 none 0 none 0 none 0 none 0 none 0) .nil) ⟨⟨rfl, trivial⟩, (Bs rfl rfl)⟩ rfl rfl ?_
      cases h
      refine JS.nilO (.int .i64) Sl.nil rfl rfl (JS.nilO (.sl (.int .i64)) Sl.nil rfl rfl (JS.nilO (.pair (.sl (.int .i64)) (.int .i64)) Sl.nil rfl rfl (JS.nilO (.int .i64) Sl.nil rfl rfl (JS.nilO (.int .i64) Sl.nil rfl rfl (JS.nilO (.int .i64) Sl.nil rfl rfl (JS.ret ttOk (none, 0, none, 0, none, 0, none, 0, none, 0, none, 0) trivial rfl rfl [5, 4, 3, 2, 1, 0] rfl))))))
    have h := condF h ht75
    refine JS.skip (JS.seq (JS.seq (JS.region (JO.reg ttOk 3 [] [] [(25, .v (.agg (cl46 x0 a4 c5 a8 c9 a12 c13 a16 c17 a20 c21 a24 c25).toArray)), (26, .v (.agg #[.int .i64 x1.1, .slice a28 x1.2.length c29])), (27, .v (.agg #[.int .i64 x2.1, .int .i64 x2.2]))] _ rfl ⟨(Es rfl), rfl⟩ ?_))))
    obtain ⟨⟨y34, y35, y36⟩, hy37, h⟩ := bindO_some h
    refine JO.call rfl rfl rfl rfl (ok_i_plain x0 x1 x2 a4 c5 x0.2.2.1.1.length rfl a8 c9 x0.2.2.2.2.2.2.2.2.2.2.1.length rfl a12 c13 x0.2.2.2.2.2.2.2.2.2.2.2.1.length rfl a16 c17 x0.2.2.2.2.2.2.2.2.2.2.2.2.2.1.1.length rfl a20 c21 x0.2.2.2.2.2.2.2.2.2.2.2.2.2.2.1.length rfl a24 c25 x0.2.2.2.2.2.2.2.2.2.2.2.2.2.2.2.2.1.length rfl a28 c29 x1.2.length rfl _ hy37) rfl [0, 1, 2, 3, 4, 5, 6] rfl rfl ?_
    rintro ⟨a38, c39, a40, c41, a42, c43, a44, c45, a46, c47, a48, c49⟩ -
    refine JO.regB ttOk 8 [] [36] [(8, .bp 36 0), (9, .v (.int .i64 y35)), (10, .v (.bool y36))] (.new 8 46 (cl46 x0 a4 c5 a8 c9 a12 c13 a16 c17 a20 c21 a24 c25) (.new 9 50 [.int .i64 x1.1, .slice a28 x1.2.length c29] (.new 10 64 [.int .i64 x2.1, .int .i64 x2.2] (.new 11 46 (cl46 (false, 0, ([], 0), 0, 0, 0, 0, 0, 0, 0, [], [], 0, ([], 0), [], 0, ([], 0)) none 0 none 0 none 0 none 0 none 0 none 0) (.new 36 46 (cl46 y34 a38 c39 a40 c41 a42 c43 a44 c45 a46 c47 a48 c49) .nil))))) rfl ⟨(Es rfl), (Bs rfl rfl)⟩ (JO.done rfl (JS.rg0 ttOk 1 [(32, .v (.bool y36))] ⟨⟨rfl, trivial⟩, rfl⟩ rfl rfl ?_))
    refine JS.cond rfl (fun ht74 => ?_) (fun ht74 => ?_)
    · have h := condT h ht74
      refine JS.rgB ttOk 4 [] [] [(7, .v (.int .i64 y35))] (.new 11 46 (cl46 y34 a38 c39 a40 c41 a42 c43 a44 c45 a46 c47 a48 c49) .nil) ⟨⟨rfl, trivial⟩, (Bs rfl rfl)⟩ rfl rfl ?_
      cases h
      exact JS.ret ttOk (a38, c39, a40, c41, a42, c43, a44, c45, a46, c47, a48, c49) trivial rfl rfl [0, 0, 0, 0, 0, 0] rfl
    have h := condF h ht74
    refine JS.skip (JS.seq (JS.rg0 ttOk 2 [(36, .v (.int .i64 x2.1))] ⟨⟨rfl, trivial⟩, rfl⟩ rfl rfl (JS.block (JS.rg0 ttOk 2 [(37, .v (.bool (decide (x2.1 = 3))))] ⟨⟨rfl, trivial⟩, rfl⟩ rfl rfl ?_))))
    refine JS.cond rfl (fun ht73 => ?_) (fun ht73 => ?_)
    · have h := condT h ht73
      refine JS.seq ?_
      cases h
    have h := condF h ht73
    refine JS.rg0 ttOk 2 [(45, .v (.bool (decide (x2.1 = 15))))] ⟨⟨rfl, trivial⟩, rfl⟩ rfl rfl ?_
    refine JS.cond rfl (fun ht72 => ?_) (fun ht72 => ?_)
    · have h := condT h ht72
      refine JS.rgB ttOk 5 [] [37] [(11, .bp 37 0)] (.new 8 46 (cl46 x0 a4 c5 a8 c9 a12 c13 a16 c17 a20 c21 a24 c25) (.new 11 46 (cl46 (false, 0, ([], 0), 0, 0, 0, 0, 0, 0, 0, [], [], 0, ([], 0), [], 0, ([], 0)) none 0 none 0 none 0 none 0 none 0 none 0) (.new 37 22 [.slice a4 x0.2.2.1.1.length c5] .nil))) ⟨⟨rfl, trivial⟩, (Bs rfl rfl)⟩ rfl rfl (JS.seq ?_)
      cases h
    have h := condF h ht72
    refine JS.rg0 ttOk 2 [(66, .v (.bool (decide (x2.1 = 2))))] ⟨⟨rfl, trivial⟩, rfl⟩ rfl rfl ?_
    refine JS.cond rfl (fun ht71 => ?_) (fun ht71 => ?_)
    · have h := condT h ht71
      refine JS.seq ?_
      cases h
    have h := condF h ht71
    refine JS.skip (JS.endB (JS.seq (JS.region (JO.reg ttOk 1 [] [] [(75, .v (.agg (cl46 x0 a4 c5 a8 c9 a12 c13 a16 c17 a20 c21 a24 c25).toArray))] _ rfl ⟨⟨rfl, trivial⟩, rfl⟩ ?_))))
    obtain ⟨⟨y51, y52⟩, hy53, h⟩ := bindO_some h
    refine JO.call rfl rfl rfl rfl (ok_i_bell x0 a4 c5 x0.2.2.1.1.length rfl a8 c9 x0.2.2.2.2.2.2.2.2.2.2.1.length rfl a12 c13 x0.2.2.2.2.2.2.2.2.2.2.2.1.length rfl a16 c17 x0.2.2.2.2.2.2.2.2.2.2.2.2.2.1.1.length rfl a20 c21 x0.2.2.2.2.2.2.2.2.2.2.2.2.2.2.1.length rfl a24 c25 x0.2.2.2.2.2.2.2.2.2.2.2.2.2.2.2.2.1.length rfl _ hy53) rfl [0, 1, 2, 3, 4, 5] rfl rfl ?_
    rintro ⟨a54, c55, a56, c57, a58, c59, a60, c61, a62, c63, a64, c65⟩ -
    refine JO.regB ttOk 4 [] [] [(7, .v (.int .i64 y52))] (.new 11 46 (cl46 y51 a54 c55 a56 c57 a58 c59 a60 c61 a62 c63 a64 c65) .nil) rfl ⟨⟨rfl, trivial⟩, (Bs rfl rfl)⟩ (JO.done rfl ?_)
    cases h
    exact JS.ret ttOk (a54, c55, a56, c57, a58, c59, a60, c61, a62, c63, a64, c65) trivial rfl rfl [0, 0, 0, 0, 0, 0] rfl

def M_i_ViKey (x0 : Bool × Int × (List Int × Int) × Int × Int × Int × Int × Int × Int × Int × List (List Int) × (List (List Int × Int)) × Int × (List Int × Int) × List Int × Int × List Int × Int) (x1 : Int × List (List UInt8)) (x2 : Int × Int) : Option ((Bool × Int × (List Int × Int) × Int × Int × Int × Int × Int × Int × Int × List (List Int) × (List (List Int × Int)) × Int × (List Int × Int) × List Int × Int × List Int × Int) × Int) :=
  (bindO (M_i_canKey x0 x1 x2) fun (y32 : Bool) =>
  (bif (bif (!y32) then true else (bif (!(decide (x0.2.1 = 1))) then (!(decide (x0.2.1 = 2))) else false)) then
  some ((false, 0, ([], 0), 0, 0, 0, 0, 0, 0, 0, [], [], 0, ([], 0), [], 0, ([], 0)), 0)
  else
  (bif (decide (x0.2.1 = 1)) then
  (bindO (M_i_plain x0 x1 x2) fun (y34, y35, y36) =>
  (bif y36 then
  some (y34, y35)
  else
  (bif (!(decide (x2.1 = 7))) then
  (bindO (M_i_bell x0) fun (y50, y51) =>
  some (y50, y51))
  else
  (bindO (M_i_copyEd x0) fun (y65 : Bool × Int × (List Int × Int) × Int × Int × Int × Int × Int × Int × Int × List (List Int) × (List (List Int × Int)) × Int × (List Int × Int) × List Int × Int × List Int × Int) =>
  some ((y65.1, 2, (y65.2.2.1.1, (max (W (y65.2.2.1.2 - 1)) 0)), 0, y65.2.2.2.2.1, y65.2.2.2.2.2.1, y65.2.2.2.2.2.2.1, y65.2.2.2.2.2.2.2.1, y65.2.2.2.2.2.2.2.2.1, 0, y65.2.2.2.2.2.2.2.2.2.2.1, y65.2.2.2.2.2.2.2.2.2.2.2.1, y65.2.2.2.2.2.2.2.2.2.2.2.2.1, y65.2.2.2.2.2.2.2.2.2.2.2.2.2.1, y65.2.2.2.2.2.2.2.2.2.2.2.2.2.2.1, y65.2.2.2.2.2.2.2.2.2.2.2.2.2.2.2.1, y65.2.2.2.2.2.2.2.2.2.2.2.2.2.2.2.2), 0)))))
  else
  (bif (!(decide (x0.2.2.2.2.2.2.1 = 0))) then
  none
  else
  (bif (!(decide (x2.1 = 1))) then
  none
  else
  none)))))

theorem ok_i_ViKey (x0 : Bool × Int × (List Int × Int) × Int × Int × Int × Int × Int × Int × Int × List (List Int) × (List (List Int × Int)) × Int × (List Int × Int) × List Int × Int × List Int × Int) (x1 : Int × List (List UInt8)) (x2 : Int × Int) (a4 : Option Addr) (c5 : Nat) (l6 : Nat) (hl7 : x0.2.2.1.1.length = l6) (a8 : Option Addr) (c9 : Nat) (l10 : Nat) (hl11 : x0.2.2.2.2.2.2.2.2.2.2.1.length = l10) (a12 : Option Addr) (c13 : Nat) (l14 : Nat) (hl15 : x0.2.2.2.2.2.2.2.2.2.2.2.1.length = l14) (a16 : Option Addr) (c17 : Nat) (l18 : Nat) (hl19 : x0.2.2.2.2.2.2.2.2.2.2.2.2.2.1.1.length = l18) (a20 : Option Addr) (c21 : Nat) (l22 : Nat) (hl23 : x0.2.2.2.2.2.2.2.2.2.2.2.2.2.2.1.length = l22) (a24 : Option Addr) (c25 : Nat) (l26 : Nat) (hl27 : x0.2.2.2.2.2.2.2.2.2.2.2.2.2.2.2.2.1.length = l26) (a28 : Option Addr) (c29 : Nat) (l30 : Nat) (hl31 : x1.2.length = l30) (r : (Bool × Int × (List Int × Int) × Int × Int × Int × Int × Int × Int × Int × List (List Int) × (List (List Int × Int)) × Int × (List Int × Int) × List Int × Int × List Int × Int) × Int) (h : M_i_ViKey x0 x1 x2 = some r) :
    FC Tryz.prog 40 [.agg #[.bool x0.1, .int .i64 x0.2.1, .slice a4 l6 c5, .int .i64 x0.2.2.1.2, .int .i64 x0.2.2.2.1, .int .i64 x0.2.2.2.2.1, .int .i64 x0.2.2.2.2.2.1, .int .i64 x0.2.2.2.2.2.2.1, .int .i64 x0.2.2.2.2.2.2.2.1, .int .i64 x0.2.2.2.2.2.2.2.2.1, .int .i64 x0.2.2.2.2.2.2.2.2.2.1, .slice a8 l10 c9, .slice a12 l14 c13, .int .i64 x0.2.2.2.2.2.2.2.2.2.2.2.2.1, .slice a16 l18 c17, .int .i64 x0.2.2.2.2.2.2.2.2.2.2.2.2.2.1.2, .slice a20 l22 c21, .int .i64 x0.2.2.2.2.2.2.2.2.2.2.2.2.2.2.2.1, .slice a24 l26 c25, .int .i64 x0.2.2.2.2.2.2.2.2.2.2.2.2.2.2.2.2.2], .agg #[.int .i64 x1.1, .slice a28 l30 c29], .agg #[.int .i64 x2.1, .int .i64 x2.2]] [⟨(.int .i64), ⟨a4, l6, c5⟩, x0.2.2.1.1⟩, ⟨(.sl (.int .i64)), ⟨a8, l10, c9⟩, x0.2.2.2.2.2.2.2.2.2.2.1⟩, ⟨(.pair (.sl (.int .i64)) (.int .i64)), ⟨a12, l14, c13⟩, x0.2.2.2.2.2.2.2.2.2.2.2.1⟩, ⟨(.int .i64), ⟨a16, l18, c17⟩, x0.2.2.2.2.2.2.2.2.2.2.2.2.2.1.1⟩, ⟨(.int .i64), ⟨a20, l22, c21⟩, x0.2.2.2.2.2.2.2.2.2.2.2.2.2.2.1⟩, ⟨(.int .i64), ⟨a24, l26, c25⟩, x0.2.2.2.2.2.2.2.2.2.2.2.2.2.2.2.2.1⟩, ⟨.str, ⟨a28, l30, c29⟩, x1.2⟩] (fun _ : Option Addr × Nat × Option Addr × Nat × Option Addr × Nat × Option Addr × Nat × Option Addr × Nat × Option Addr × Nat => True) (fun q => .tuple #[.agg (cl46 r.1 q.1 q.2.1 q.2.2.1 q.2.2.2.1 q.2.2.2.2.1 q.2.2.2.2.2.1 q.2.2.2.2.2.2.1 q.2.2.2.2.2.2.2.1 q.2.2.2.2.2.2.2.2.1 q.2.2.2.2.2.2.2.2.2.1 q.2.2.2.2.2.2.2.2.2.2.1 q.2.2.2.2.2.2.2.2.2.2.2).toArray, .int .i64 r.2]) (fun q => [⟨(.int .i64), ⟨q.1, r.1.2.2.1.1.length, q.2.1⟩, r.1.2.2.1.1⟩, ⟨(.sl (.int .i64)), ⟨q.2.2.1, r.1.2.2.2.2.2.2.2.2.2.2.1.length, q.2.2.2.1⟩, r.1.2.2.2.2.2.2.2.2.2.2.1⟩, ⟨(.pair (.sl (.int .i64)) (.int .i64)), ⟨q.2.2.2.2.1, r.1.2.2.2.2.2.2.2.2.2.2.2.1.length, q.2.2.2.2.2.1⟩, r.1.2.2.2.2.2.2.2.2.2.2.2.1⟩, ⟨(.int .i64), ⟨q.2.2.2.2.2.2.1, r.1.2.2.2.2.2.2.2.2.2.2.2.2.2.1.1.length, q.2.2.2.2.2.2.2.1⟩, r.1.2.2.2.2.2.2.2.2.2.2.2.2.2.1.1⟩, ⟨(.int .i64), ⟨q.2.2.2.2.2.2.2.2.1, r.1.2.2.2.2.2.2.2.2.2.2.2.2.2.2.1.length, q.2.2.2.2.2.2.2.2.2.1⟩, r.1.2.2.2.2.2.2.2.2.2.2.2.2.2.2.1⟩, ⟨(.int .i64), ⟨q.2.2.2.2.2.2.2.2.2.2.1, r.1.2.2.2.2.2.2.2.2.2.2.2.2.2.2.2.2.1.length, q.2.2.2.2.2.2.2.2.2.2.2⟩, r.1.2.2.2.2.2.2.2.2.2.2.2.2.2.2.2.2.1⟩]) :=
  by
    subst hl7
    subst hl11
    subst hl15
    subst hl19
    subst hl23
    subst hl27
    subst hl31
    refine FC.of (T := TTx) Tryz.call40 Tryz.func40 rfl rfl fun w0 => ?_
    unfold M_i_ViKey at h
    refine JS.rgB ttOk 5 [] [8, 9, 10, 11] [(3, .bp 8 0), (4, .bp 9 0), (5, .bp 10 0), (6, .bp 11 0)] (.new 8 46 (cl46 x0 a4 c5 a8 c9 a12 c13 a16 c17 a20 c21 a24 c25) (.new 9 50 [.int .i64 x1.1, .slice a28 x1.2.length c29] (.new 10 64 [.int .i64 x2.1, .int .i64 x2.2] (.new 11 46 (cl46 (false, 0, ([], 0), 0, 0, 0, 0, 0, 0, 0, [], [], 0, ([], 0), [], 0, ([], 0)) none 0 none 0 none 0 none 0 none 0 none 0) .nil)))) ⟨(Es rfl), (Bs rfl rfl)⟩ rfl rfl (JS.seq (JS.seq (JS.region (JO.reg ttOk 3 [] [] [(13, .v (.agg (cl46 x0 a4 c5 a8 c9 a12 c13 a16 c17 a20 c21 a24 c25).toArray)), (14, .v (.agg #[.int .i64 x1.1, .slice a28 x1.2.length c29])), (15, .v (.agg #[.int .i64 x2.1, .int .i64 x2.2]))] _ rfl ⟨(Es rfl), rfl⟩ ?_))))
    obtain ⟨y32, hy33, h⟩ := bindO_some h
    refine JO.call rfl rfl rfl rfl (ok_i_canKey x0 x1 x2 a4 c5 x0.2.2.1.1.length rfl a8 c9 x0.2.2.2.2.2.2.2.2.2.2.1.length rfl a12 c13 x0.2.2.2.2.2.2.2.2.2.2.2.1.length rfl a16 c17 x0.2.2.2.2.2.2.2.2.2.2.2.2.2.1.1.length rfl a20 c21 x0.2.2.2.2.2.2.2.2.2.2.2.2.2.2.1.length rfl a24 c25 x0.2.2.2.2.2.2.2.2.2.2.2.2.2.2.2.2.1.length rfl a28 c29 x1.2.length rfl _ hy33) rfl [0, 1, 2, 3, 4, 5, 6] rfl rfl fun _ _ => JO.reg ttOk 11 [] [] [(27, .v (.bool (bif (!y32) then true else (bif (!(decide (x0.2.1 = 1))) then (!(decide (x0.2.1 = 2))) else false))))] _ rfl ⟨⟨rfl, trivial⟩, rfl⟩ (JO.done rfl ?_)
    refine JS.cond rfl (fun ht90 => ?_) (fun ht90 => ?_)
    · have h := condT h ht90
      refine JS.rgB ttOk 3 [] [] [(7, .v (.int .i64 0))] (.new 11 46 (cl46 (false, 0, ([], 0), 0, 0, 0, 0, 0, 0, 0, [], [], 0, ([], 0), [], 0, ([], 0)) none 0 none 0 none 0 none 0 none 0 none 0) .nil) ⟨⟨rfl, trivial⟩, (Bs rfl rfl)⟩ rfl rfl ?_
      cases h
      refine JS.nilO (.int .i64) Sl.nil rfl rfl (JS.nilO (.sl (.int .i64)) Sl.nil rfl rfl (JS.nilO (.pair (.sl (.int .i64)) (.int .i64)) Sl.nil rfl rfl (JS.nilO (.int .i64) Sl.nil rfl rfl (JS.nilO (.int .i64) Sl.nil rfl rfl (JS.nilO (.int .i64) Sl.nil rfl rfl (JS.ret ttOk (none, 0, none, 0, none, 0, none, 0, none, 0, none, 0) trivial rfl rfl [5, 4, 3, 2, 1, 0] rfl))))))
    have h := condF h ht90
    refine JS.skip (JS.seq (JS.rg0 ttOk 3 [(31, .v (.bool (decide (x0.2.1 = 1))))] ⟨⟨rfl, trivial⟩, rfl⟩ rfl rfl ?_))
    refine JS.cond rfl (fun ht89 => ?_) (fun ht89 => ?_)
    · have h := condT h ht89
      refine JS.seq (JS.seq (JS.region (JO.reg ttOk 3 [] [] [(33, .v (.agg (cl46 x0 a4 c5 a8 c9 a12 c13 a16 c17 a20 c21 a24 c25).toArray)), (34, .v (.agg #[.int .i64 x1.1, .slice a28 x1.2.length c29])), (35, .v (.agg #[.int .i64 x2.1, .int .i64 x2.2]))] _ rfl ⟨(Es rfl), rfl⟩ ?_)))
      obtain ⟨⟨y34, y35, y36⟩, hy37, h⟩ := bindO_some h
      refine JO.call rfl rfl rfl rfl (ok_i_plain x0 x1 x2 a4 c5 x0.2.2.1.1.length rfl a8 c9 x0.2.2.2.2.2.2.2.2.2.2.1.length rfl a12 c13 x0.2.2.2.2.2.2.2.2.2.2.2.1.length rfl a16 c17 x0.2.2.2.2.2.2.2.2.2.2.2.2.2.1.1.length rfl a20 c21 x0.2.2.2.2.2.2.2.2.2.2.2.2.2.2.1.length rfl a24 c25 x0.2.2.2.2.2.2.2.2.2.2.2.2.2.2.2.2.1.length rfl a28 c29 x1.2.length rfl _ hy37) rfl [0, 1, 2, 3, 4, 5, 6] rfl rfl ?_
      rintro ⟨a38, c39, a40, c41, a42, c43, a44, c45, a46, c47, a48, c49⟩ -
      refine JO.regB ttOk 8 [] [36] [(8, .bp 36 0), (9, .v (.int .i64 y35)), (10, .v (.bool y36))] (.new 8 46 (cl46 x0 a4 c5 a8 c9 a12 c13 a16 c17 a20 c21 a24 c25) (.new 10 64 [.int .i64 x2.1, .int .i64 x2.2] (.new 11 46 (cl46 (false, 0, ([], 0), 0, 0, 0, 0, 0, 0, 0, [], [], 0, ([], 0), [], 0, ([], 0)) none 0 none 0 none 0 none 0 none 0 none 0) (.new 36 46 (cl46 y34 a38 c39 a40 c41 a42 c43 a44 c45 a46 c47 a48 c49) .nil)))) rfl ⟨(Es rfl), (Bs rfl rfl)⟩ (JO.done rfl (JS.rg0 ttOk 1 [(40, .v (.bool y36))] ⟨⟨rfl, trivial⟩, rfl⟩ rfl rfl ?_))
      refine JS.cond rfl (fun ht86 => ?_) (fun ht86 => ?_)
      · have h := condT h ht86
        refine JS.rgB ttOk 4 [] [] [(7, .v (.int .i64 y35))] (.new 11 46 (cl46 y34 a38 c39 a40 c41 a42 c43 a44 c45 a46 c47 a48 c49) .nil) ⟨⟨rfl, trivial⟩, (Bs rfl rfl)⟩ rfl rfl ?_
        cases h
        exact JS.ret ttOk (a38, c39, a40, c41, a42, c43, a44, c45, a46, c47, a48, c49) trivial rfl rfl [0, 0, 0, 0, 0, 0] rfl
      have h := condF h ht86
      refine JS.skip (JS.seq (JS.rg0 ttOk 3 [(45, .v (.bool (!(decide (x2.1 = 7)))))] ⟨⟨rfl, trivial⟩, rfl⟩ rfl rfl ?_))
      refine JS.cond rfl (fun ht85 => ?_) (fun ht85 => ?_)
      · have h := condT h ht85
        refine JS.seq (JS.region (JO.reg ttOk 1 [] [] [(46, .v (.agg (cl46 x0 a4 c5 a8 c9 a12 c13 a16 c17 a20 c21 a24 c25).toArray))] _ rfl ⟨⟨rfl, trivial⟩, rfl⟩ ?_))
        obtain ⟨⟨y50, y51⟩, hy52, h⟩ := bindO_some h
        refine JO.call rfl rfl rfl rfl (ok_i_bell x0 a4 c5 x0.2.2.1.1.length rfl a8 c9 x0.2.2.2.2.2.2.2.2.2.2.1.length rfl a12 c13 x0.2.2.2.2.2.2.2.2.2.2.2.1.length rfl a16 c17 x0.2.2.2.2.2.2.2.2.2.2.2.2.2.1.1.length rfl a20 c21 x0.2.2.2.2.2.2.2.2.2.2.2.2.2.2.1.length rfl a24 c25 x0.2.2.2.2.2.2.2.2.2.2.2.2.2.2.2.2.1.length rfl _ hy52) rfl [0, 1, 2, 3, 4, 5] rfl rfl ?_
        rintro ⟨a53, c54, a55, c56, a57, c58, a59, c60, a61, c62, a63, c64⟩ -
        refine JO.regB ttOk 4 [] [] [(7, .v (.int .i64 y51))] (.new 11 46 (cl46 y50 a53 c54 a55 c56 a57 c58 a59 c60 a61 c62 a63 c64) .nil) rfl ⟨⟨rfl, trivial⟩, (Bs rfl rfl)⟩ (JO.done rfl ?_)
        cases h
        exact JS.ret ttOk (a53, c54, a55, c56, a57, c58, a59, c60, a61, c62, a63, c64) trivial rfl rfl [0, 0, 0, 0, 0, 0] rfl
      have h := condF h ht85
      refine JS.skip (JS.seq (JS.region (JO.reg ttOk 1 [] [] [(50, .v (.agg (cl46 x0 a4 c5 a8 c9 a12 c13 a16 c17 a20 c21 a24 c25).toArray))] _ rfl ⟨⟨rfl, trivial⟩, rfl⟩ ?_)))
      obtain ⟨y65, hy66, h⟩ := bindO_some h
      refine JO.call rfl rfl rfl rfl (ok_i_copyEd x0 a4 c5 x0.2.2.1.1.length rfl a8 c9 x0.2.2.2.2.2.2.2.2.2.2.1.length rfl a12 c13 x0.2.2.2.2.2.2.2.2.2.2.2.1.length rfl a16 c17 x0.2.2.2.2.2.2.2.2.2.2.2.2.2.1.1.length rfl a20 c21 x0.2.2.2.2.2.2.2.2.2.2.2.2.2.2.1.length rfl a24 c25 x0.2.2.2.2.2.2.2.2.2.2.2.2.2.2.2.2.1.length rfl _ hy66) rfl [0, 1, 2, 3, 4, 5] rfl rfl ?_
      rintro ⟨a67, c68, a69, c70, a71, c72, a73, c74, a75, c76, a77, c78⟩ -
      refine JO.regB ttOk 2 [] [78] [(11, .bp 78 0)] (.new 11 46 (cl46 (false, 0, ([], 0), 0, 0, 0, 0, 0, 0, 0, [], [], 0, ([], 0), [], 0, ([], 0)) none 0 none 0 none 0 none 0 none 0 none 0) (.new 78 46 (cl46 y65 a67 c68 a69 c70 a71 c72 a73 c74 a75 c76 a77 c78) .nil)) rfl ⟨⟨rfl, trivial⟩, (Bs rfl rfl)⟩ (JO.done rfl (JS.seq (JS.norm [true, true, true, true, true, true, false, false, false, false, false, false] [⟨(.int .i64), ⟨a4, x0.2.2.1.1.length, c5⟩, x0.2.2.1.1⟩, ⟨(.sl (.int .i64)), ⟨a8, x0.2.2.2.2.2.2.2.2.2.2.1.length, c9⟩, x0.2.2.2.2.2.2.2.2.2.2.1⟩, ⟨(.pair (.sl (.int .i64)) (.int .i64)), ⟨a12, x0.2.2.2.2.2.2.2.2.2.2.2.1.length, c13⟩, x0.2.2.2.2.2.2.2.2.2.2.2.1⟩, ⟨(.int .i64), ⟨a16, x0.2.2.2.2.2.2.2.2.2.2.2.2.2.1.1.length, c17⟩, x0.2.2.2.2.2.2.2.2.2.2.2.2.2.1.1⟩, ⟨(.int .i64), ⟨a20, x0.2.2.2.2.2.2.2.2.2.2.2.2.2.2.1.length, c21⟩, x0.2.2.2.2.2.2.2.2.2.2.2.2.2.2.1⟩, ⟨(.int .i64), ⟨a24, x0.2.2.2.2.2.2.2.2.2.2.2.2.2.2.2.2.1.length, c25⟩, x0.2.2.2.2.2.2.2.2.2.2.2.2.2.2.2.2.1⟩, ⟨.str, ⟨a28, x1.2.length, c29⟩, x1.2⟩] [⟨(.int .i64), ⟨a67, y65.2.2.1.1.length, c68⟩, y65.2.2.1.1⟩, ⟨(.sl (.int .i64)), ⟨a69, y65.2.2.2.2.2.2.2.2.2.2.1.length, c70⟩, y65.2.2.2.2.2.2.2.2.2.2.1⟩, ⟨(.pair (.sl (.int .i64)) (.int .i64)), ⟨a71, y65.2.2.2.2.2.2.2.2.2.2.2.1.length, c72⟩, y65.2.2.2.2.2.2.2.2.2.2.2.1⟩, ⟨(.int .i64), ⟨a73, y65.2.2.2.2.2.2.2.2.2.2.2.2.2.1.1.length, c74⟩, y65.2.2.2.2.2.2.2.2.2.2.2.2.2.1.1⟩, ⟨(.int .i64), ⟨a75, y65.2.2.2.2.2.2.2.2.2.2.2.2.2.2.1.length, c76⟩, y65.2.2.2.2.2.2.2.2.2.2.2.2.2.2.1⟩, ⟨(.int .i64), ⟨a77, y65.2.2.2.2.2.2.2.2.2.2.2.2.2.2.2.2.1.length, c78⟩, y65.2.2.2.2.2.2.2.2.2.2.2.2.2.2.2.2.1⟩] rfl rfl (JS.reB ttOk 6 [] [] [] (.new 11 46 (cl46 (false, 0, ([], 0), 0, 0, 0, 0, 0, 0, 0, [], [], 0, ([], 0), [], 0, ([], 0)) none 0 none 0 none 0 none 0 none 0 none 0) (.new 78 46 (cl46 (y65.1, 2, y65.2.2.1, 0, y65.2.2.2.2.1, y65.2.2.2.2.2.1, y65.2.2.2.2.2.2.1, y65.2.2.2.2.2.2.2.1, y65.2.2.2.2.2.2.2.2.1, 0, y65.2.2.2.2.2.2.2.2.2.2.1, y65.2.2.2.2.2.2.2.2.2.2.2.1, y65.2.2.2.2.2.2.2.2.2.2.2.2.1, y65.2.2.2.2.2.2.2.2.2.2.2.2.2.1, y65.2.2.2.2.2.2.2.2.2.2.2.2.2.2.1, y65.2.2.2.2.2.2.2.2.2.2.2.2.2.2.2.1, y65.2.2.2.2.2.2.2.2.2.2.2.2.2.2.2.2) a67 c68 a69 c70 a71 c72 a73 c74 a75 c76 a77 c78) .nil)) ⟨trivial, (Bs rfl rfl)⟩ rfl rfl (JS.rgB ttOk 8 [(W (y65.2.2.1.2 - 1))] [] [] (.new 11 46 (cl46 (false, 0, ([], 0), 0, 0, 0, 0, 0, 0, 0, [], [], 0, ([], 0), [], 0, ([], 0)) none 0 none 0 none 0 none 0 none 0 none 0) (.new 78 46 (cl46 (y65.1, 2, (y65.2.2.1.1, (max (W (y65.2.2.1.2 - 1)) 0)), 0, y65.2.2.2.2.1, y65.2.2.2.2.2.1, y65.2.2.2.2.2.2.1, y65.2.2.2.2.2.2.2.1, y65.2.2.2.2.2.2.2.2.1, 0, y65.2.2.2.2.2.2.2.2.2.2.1, y65.2.2.2.2.2.2.2.2.2.2.2.1, y65.2.2.2.2.2.2.2.2.2.2.2.2.1, y65.2.2.2.2.2.2.2.2.2.2.2.2.2.1, y65.2.2.2.2.2.2.2.2.2.2.2.2.2.2.1, y65.2.2.2.2.2.2.2.2.2.2.2.2.2.2.2.1, y65.2.2.2.2.2.2.2.2.2.2.2.2.2.2.2.2) a67 c68 a69 c70 a71 c72 a73 c74 a75 c76 a77 c78) .nil)) ⟨⟨trivial, rfl⟩, trivial, (Bs rfl rfl)⟩ rfl rfl (JS.rgB ttOk 3 [] [] [(7, .v (.int .i64 0))] (.new 11 46 (cl46 (y65.1, 2, (y65.2.2.1.1, (max (W (y65.2.2.1.2 - 1)) 0)), 0, y65.2.2.2.2.1, y65.2.2.2.2.2.1, y65.2.2.2.2.2.2.1, y65.2.2.2.2.2.2.2.1, y65.2.2.2.2.2.2.2.2.1, 0, y65.2.2.2.2.2.2.2.2.2.2.1, y65.2.2.2.2.2.2.2.2.2.2.2.1, y65.2.2.2.2.2.2.2.2.2.2.2.2.1, y65.2.2.2.2.2.2.2.2.2.2.2.2.2.1, y65.2.2.2.2.2.2.2.2.2.2.2.2.2.2.1, y65.2.2.2.2.2.2.2.2.2.2.2.2.2.2.2.1, y65.2.2.2.2.2.2.2.2.2.2.2.2.2.2.2.2) a67 c68 a69 c70 a71 c72 a73 c74 a75 c76 a77 c78) .nil) ⟨⟨rfl, trivial⟩, (Bs rfl rfl)⟩ rfl rfl ?_))))))
      cases h
      exact JS.ret ttOk (a67, c68, a69, c70, a71, c72, a73, c74, a75, c76, a77, c78) trivial rfl rfl [0, 0, 0, 0, 0, 0] rfl
    have h := condF h ht89
    refine JS.skip (JS.rg ttOk 9 [(W ((max x0.2.2.2.1 1) * (max x0.2.2.2.2.2.1 1)))] [] [(12, .v (.int .i64 (min (W ((max x0.2.2.2.1 1) * (max x0.2.2.2.2.2.1 1))) 999)))] _ ⟨⟨trivial, rfl⟩, ⟨rfl, trivial⟩, rfl⟩ rfl rfl (JS.seq (JS.block (JS.rg0 ttOk 4 [(71, .v (.bool (!(decide (x0.2.2.2.2.2.2.1 = 0)))))] ⟨⟨rfl, trivial⟩, rfl⟩ rfl rfl ?_))))
    refine JS.cond rfl (fun ht88 => ?_) (fun ht88 => ?_)
    · have h := condT h ht88
      refine JS.seq ?_
      cases h
    have h := condF h ht88
    refine JS.rg0 ttOk 4 [(81, .v (.bool (!(decide (x2.1 = 1)))))] ⟨⟨rfl, trivial⟩, rfl⟩ rfl rfl ?_
    refine JS.cond rfl (fun ht87 => ?_) (fun ht87 => ?_)
    · have h := condT h ht87
      refine JS.seq ?_
      cases h
    have h := condF h ht87
    refine JS.skip (JS.endB (JS.seq ?_))
    cases h

def M_i_EdKey (x0 : Bool × Int × (List Int × Int) × Int × Int × Int × Int × Int × Int × Int × List (List Int) × (List (List Int × Int)) × Int × (List Int × Int) × List Int × Int × List Int × Int) (x1 : Int × List (List UInt8)) (x2 : Int × Int) : Option ((Bool × Int × (List Int × Int) × Int × Int × Int × Int × Int × Int × Int × List (List Int) × (List (List Int × Int)) × Int × (List Int × Int) × List Int × Int × List Int × Int) × Int) :=
  (bif (decide (x0.2.1 = 0)) then
  (bindO (M_i_EmacsKey x0 x1 x2) fun (y32, y33) =>
  some (y32, y33))
  else
  (bif (decide (x0.2.1 = 3)) then
  none
  else
  (bindO (M_i_ViKey x0 x1 x2) fun (y47, y48) =>
  some (y47, y48))))

theorem ok_i_EdKey (x0 : Bool × Int × (List Int × Int) × Int × Int × Int × Int × Int × Int × Int × List (List Int) × (List (List Int × Int)) × Int × (List Int × Int) × List Int × Int × List Int × Int) (x1 : Int × List (List UInt8)) (x2 : Int × Int) (a4 : Option Addr) (c5 : Nat) (l6 : Nat) (hl7 : x0.2.2.1.1.length = l6) (a8 : Option Addr) (c9 : Nat) (l10 : Nat) (hl11 : x0.2.2.2.2.2.2.2.2.2.2.1.length = l10) (a12 : Option Addr) (c13 : Nat) (l14 : Nat) (hl15 : x0.2.2.2.2.2.2.2.2.2.2.2.1.length = l14) (a16 : Option Addr) (c17 : Nat) (l18 : Nat) (hl19 : x0.2.2.2.2.2.2.2.2.2.2.2.2.2.1.1.length = l18) (a20 : Option Addr) (c21 : Nat) (l22 : Nat) (hl23 : x0.2.2.2.2.2.2.2.2.2.2.2.2.2.2.1.length = l22) (a24 : Option Addr) (c25 : Nat) (l26 : Nat) (hl27 : x0.2.2.2.2.2.2.2.2.2.2.2.2.2.2.2.2.1.length = l26) (a28 : Option Addr) (c29 : Nat) (l30 : Nat) (hl31 : x1.2.length = l30) (r : (Bool × Int × (List Int × Int) × Int × Int × Int × Int × Int × Int × Int × List (List Int) × (List (List Int × Int)) × Int × (List Int × Int) × List Int × Int × List Int × Int) × Int) (h : M_i_EdKey x0 x1 x2 = some r) :
    FC Tryz.prog 36 [.agg #[.bool x0.1, .int .i64 x0.2.1, .slice a4 l6 c5, .int .i64 x0.2.2.1.2, .int .i64 x0.2.2.2.1, .int .i64 x0.2.2.2.2.1, .int .i64 x0.2.2.2.2.2.1, .int .i64 x0.2.2.2.2.2.2.1, .int .i64 x0.2.2.2.2.2.2.2.1, .int .i64 x0.2.2.2.2.2.2.2.2.1, .int .i64 x0.2.2.2.2.2.2.2.2.2.1, .slice a8 l10 c9, .slice a12 l14 c13, .int .i64 x0.2.2.2.2.2.2.2.2.2.2.2.2.1, .slice a16 l18 c17, .int .i64 x0.2.2.2.2.2.2.2.2.2.2.2.2.2.1.2, .slice a20 l22 c21, .int .i64 x0.2.2.2.2.2.2.2.2.2.2.2.2.2.2.2.1, .slice a24 l26 c25, .int .i64 x0.2.2.2.2.2.2.2.2.2.2.2.2.2.2.2.2.2], .agg #[.int .i64 x1.1, .slice a28 l30 c29], .agg #[.int .i64 x2.1, .int .i64 x2.2]] [⟨(.int .i64), ⟨a4, l6, c5⟩, x0.2.2.1.1⟩, ⟨(.sl (.int .i64)), ⟨a8, l10, c9⟩, x0.2.2.2.2.2.2.2.2.2.2.1⟩, ⟨(.pair (.sl (.int .i64)) (.int .i64)), ⟨a12, l14, c13⟩, x0.2.2.2.2.2.2.2.2.2.2.2.1⟩, ⟨(.int .i64), ⟨a16, l18, c17⟩, x0.2.2.2.2.2.2.2.2.2.2.2.2.2.1.1⟩, ⟨(.int .i64), ⟨a20, l22, c21⟩, x0.2.2.2.2.2.2.2.2.2.2.2.2.2.2.1⟩, ⟨(.int .i64), ⟨a24, l26, c25⟩, x0.2.2.2.2.2.2.2.2.2.2.2.2.2.2.2.2.1⟩, ⟨.str, ⟨a28, l30, c29⟩, x1.2⟩] (fun _ : Option Addr × Nat × Option Addr × Nat × Option Addr × Nat × Option Addr × Nat × Option Addr × Nat × Option Addr × Nat => True) (fun q => .tuple #[.agg (cl46 r.1 q.1 q.2.1 q.2.2.1 q.2.2.2.1 q.2.2.2.2.1 q.2.2.2.2.2.1 q.2.2.2.2.2.2.1 q.2.2.2.2.2.2.2.1 q.2.2.2.2.2.2.2.2.1 q.2.2.2.2.2.2.2.2.2.1 q.2.2.2.2.2.2.2.2.2.2.1 q.2.2.2.2.2.2.2.2.2.2.2).toArray, .int .i64 r.2]) (fun q => [⟨(.int .i64), ⟨q.1, r.1.2.2.1.1.length, q.2.1⟩, r.1.2.2.1.1⟩, ⟨(.sl (.int .i64)), ⟨q.2.2.1, r.1.2.2.2.2.2.2.2.2.2.2.1.length, q.2.2.2.1⟩, r.1.2.2.2.2.2.2.2.2.2.2.1⟩, ⟨(.pair (.sl (.int .i64)) (.int .i64)), ⟨q.2.2.2.2.1, r.1.2.2.2.2.2.2.2.2.2.2.2.1.length, q.2.2.2.2.2.1⟩, r.1.2.2.2.2.2.2.2.2.2.2.2.1⟩, ⟨(.int .i64), ⟨q.2.2.2.2.2.2.1, r.1.2.2.2.2.2.2.2.2.2.2.2.2.2.1.1.length, q.2.2.2.2.2.2.2.1⟩, r.1.2.2.2.2.2.2.2.2.2.2.2.2.2.1.1⟩, ⟨(.int .i64), ⟨q.2.2.2.2.2.2.2.2.1, r.1.2.2.2.2.2.2.2.2.2.2.2.2.2.2.1.length, q.2.2.2.2.2.2.2.2.2.1⟩, r.1.2.2.2.2.2.2.2.2.2.2.2.2.2.2.1⟩, ⟨(.int .i64), ⟨q.2.2.2.2.2.2.2.2.2.2.1, r.1.2.2.2.2.2.2.2.2.2.2.2.2.2.2.2.2.1.length, q.2.2.2.2.2.2.2.2.2.2.2⟩, r.1.2.2.2.2.2.2.2.2.2.2.2.2.2.2.2.2.1⟩]) :=
  by
    subst hl7
    subst hl11
    subst hl15
    subst hl19
    subst hl23
    subst hl27
    subst hl31
    refine FC.of (T := TTx) Tryz.call36 Tryz.func36 rfl rfl fun w0 => ?_
    unfold M_i_EdKey at h
    refine JS.rgB ttOk 5 [] [8, 9, 10, 11] [(3, .bp 8 0), (4, .bp 9 0), (5, .bp 10 0), (6, .bp 11 0)] (.new 8 46 (cl46 x0 a4 c5 a8 c9 a12 c13 a16 c17 a20 c21 a24 c25) (.new 9 50 [.int .i64 x1.1, .slice a28 x1.2.length c29] (.new 10 64 [.int .i64 x2.1, .int .i64 x2.2] (.new 11 46 (cl46 (false, 0, ([], 0), 0, 0, 0, 0, 0, 0, 0, [], [], 0, ([], 0), [], 0, ([], 0)) none 0 none 0 none 0 none 0 none 0 none 0) .nil)))) ⟨(Es rfl), (Bs rfl rfl)⟩ rfl rfl (JS.seq (JS.rg0 ttOk 2 [(9, .v (.int .i64 x0.2.1))] ⟨⟨rfl, trivial⟩, rfl⟩ rfl rfl (JS.block (JS.rg0 ttOk 2 [(10, .v (.bool (decide (x0.2.1 = 0))))] ⟨⟨rfl, trivial⟩, rfl⟩ rfl rfl ?_))))
    refine JS.cond rfl (fun ht65 => ?_) (fun ht65 => ?_)
    · have h := condT h ht65
      refine JS.seq (JS.region (JO.reg ttOk 3 [] [] [(12, .v (.agg (cl46 x0 a4 c5 a8 c9 a12 c13 a16 c17 a20 c21 a24 c25).toArray)), (13, .v (.agg #[.int .i64 x1.1, .slice a28 x1.2.length c29])), (14, .v (.agg #[.int .i64 x2.1, .int .i64 x2.2]))] _ rfl ⟨(Es rfl), rfl⟩ ?_))
      obtain ⟨⟨y32, y33⟩, hy34, h⟩ := bindO_some h
      refine JO.call rfl rfl rfl rfl (ok_i_EmacsKey x0 x1 x2 a4 c5 x0.2.2.1.1.length rfl a8 c9 x0.2.2.2.2.2.2.2.2.2.2.1.length rfl a12 c13 x0.2.2.2.2.2.2.2.2.2.2.2.1.length rfl a16 c17 x0.2.2.2.2.2.2.2.2.2.2.2.2.2.1.1.length rfl a20 c21 x0.2.2.2.2.2.2.2.2.2.2.2.2.2.2.1.length rfl a24 c25 x0.2.2.2.2.2.2.2.2.2.2.2.2.2.2.2.2.1.length rfl a28 c29 x1.2.length rfl _ hy34) rfl [0, 1, 2, 3, 4, 5, 6] rfl rfl ?_
      rintro ⟨a35, c36, a37, c38, a39, c40, a41, c42, a43, c44, a45, c46⟩ -
      refine JO.regB ttOk 4 [] [] [(7, .v (.int .i64 y33))] (.new 11 46 (cl46 y32 a35 c36 a37 c38 a39 c40 a41 c42 a43 c44 a45 c46) .nil) rfl ⟨⟨rfl, trivial⟩, (Bs rfl rfl)⟩ (JO.done rfl ?_)
      cases h
      exact JS.ret ttOk (a35, c36, a37, c38, a39, c40, a41, c42, a43, c44, a45, c46) trivial rfl rfl [0, 0, 0, 0, 0, 0] rfl
    have h := condF h ht65
    refine JS.rg0 ttOk 2 [(18, .v (.bool (decide (x0.2.1 = 3))))] ⟨⟨rfl, trivial⟩, rfl⟩ rfl rfl ?_
    refine JS.cond rfl (fun ht64 => ?_) (fun ht64 => ?_)
    · have h := condT h ht64
      refine JS.seq ?_
      cases h
    have h := condF h ht64
    refine JS.skip (JS.endB (JS.seq (JS.region (JO.reg ttOk 3 [] [] [(26, .v (.agg (cl46 x0 a4 c5 a8 c9 a12 c13 a16 c17 a20 c21 a24 c25).toArray)), (27, .v (.agg #[.int .i64 x1.1, .slice a28 x1.2.length c29])), (28, .v (.agg #[.int .i64 x2.1, .int .i64 x2.2]))] _ rfl ⟨(Es rfl), rfl⟩ ?_))))
    obtain ⟨⟨y47, y48⟩, hy49, h⟩ := bindO_some h
    refine JO.call rfl rfl rfl rfl (ok_i_ViKey x0 x1 x2 a4 c5 x0.2.2.1.1.length rfl a8 c9 x0.2.2.2.2.2.2.2.2.2.2.1.length rfl a12 c13 x0.2.2.2.2.2.2.2.2.2.2.2.1.length rfl a16 c17 x0.2.2.2.2.2.2.2.2.2.2.2.2.2.1.1.length rfl a20 c21 x0.2.2.2.2.2.2.2.2.2.2.2.2.2.2.1.length rfl a24 c25 x0.2.2.2.2.2.2.2.2.2.2.2.2.2.2.2.2.1.length rfl a28 c29 x1.2.length rfl _ hy49) rfl [0, 1, 2, 3, 4, 5, 6] rfl rfl ?_
    rintro ⟨a50, c51, a52, c53, a54, c55, a56, c57, a58, c59, a60, c61⟩ -
    refine JO.regB ttOk 4 [] [] [(7, .v (.int .i64 y48))] (.new 11 46 (cl46 y47 a50 c51 a52 c53 a54 c55 a56 c57 a58 c59 a60 c61) .nil) rfl ⟨⟨rfl, trivial⟩, (Bs rfl rfl)⟩ (JO.done rfl ?_)
    cases h
    exact JS.ret ttOk (a50, c51, a52, c53, a54, c55, a56, c57, a58, c59, a60, c61) trivial rfl rfl [0, 0, 0, 0, 0, 0] rfl

def M_i_EdKeys_L1 (x2 : List (Int × Int)) (j124 : Unit → Option ((Bool × Int × (List Int × Int) × Int × Int × Int × Int × Int × Int × Int × List (List Int) × (List (List Int × Int)) × Int × (List Int × Int) × List Int × Int × List Int × Int) × List Int)) (k119 : Int → Option ((Bool × Int × (List Int × Int) × Int × Int × Int × Int × Int × Int × Int × List (List Int) × (List (List Int × Int)) × Int × (List Int × Int) × List Int × Int × List Int × Int) × List Int)) : Int → Option ((Bool × Int × (List Int × Int) × Int × Int × Int × Int × Int × Int × Int × List (List Int) × (List (List Int × Int)) × Int × (List Int × Int) × List Int × Int × List Int × Int) × List Int) := fun x41 =>
  (bif (decide (x41 < (x2.length : Int))) then
  (guardO (0 ≤ x41 ∧ x41 < (x2.length : Int)) <|
  (bindO (M_i_KeyOk (at' x2 x41)) fun (y112 : Bool) =>
  (bif (!y112) then
  some ((false, 0, ([], 0), 0, 0, 0, 0, 0, 0, 0, [], [], 0, ([], 0), [], 0, ([], 0)), [])
  else
  k119 (W (x41 + 1)))))
  else
  j124 ())

def M_i_EdKeys_L2 (x1 : Int × List (List UInt8)) (x2 : List (Int × Int)) (j258 : (List Int × (Bool × Int × (List Int × Int) × Int × Int × Int × Int × Int × Int × Int × List (List Int) × (List (List Int × Int)) × Int × (List Int × Int) × List Int × Int × List Int × Int)) → Option ((Bool × Int × (List Int × Int) × Int × Int × Int × Int × Int × Int × Int × List (List Int) × (List (List Int × Int)) × Int × (List Int × Int) × List Int × Int × List Int × Int) × List Int)) (k238 : (List Int × Int × Bool × Int × List Int × Int × Int × Int × Int × Int × Int × Int × Int × List (List Int) × (List (List Int × Int)) × Int × List Int × Int × List Int × Int × List Int × Int) → Option ((Bool × Int × (List Int × Int) × Int × Int × Int × Int × Int × Int × Int × List (List Int) × (List (List Int × Int)) × Int × (List Int × Int) × List Int × Int × List Int × Int) × List Int)) : (List Int × Int × Bool × Int × List Int × Int × Int × Int × Int × Int × Int × Int × Int × List (List Int) × (List (List Int × Int)) × Int × List Int × Int × List Int × Int × List Int × Int) → Option ((Bool × Int × (List Int × Int) × Int × Int × Int × Int × Int × Int × Int × List (List Int) × (List (List Int × Int)) × Int × (List Int × Int) × List Int × Int × List Int × Int) × List Int) := fun (x142, x145, x182, x183, x184, x187, x188, x189, x190, x191, x192, x193, x194, x195, x198, x201, x202, x205, x206, x209, x210, x213) =>
  (bif (decide (x145 < (x2.length : Int))) then
  (guardO (0 ≤ x145 ∧ x145 < (x2.length : Int)) <|
  (bindO (M_i_EdKey (x182, x183, (x184, x187), x188, x189, x190, x191, x192, x193, x194, x195, x198, x201, (x202, x205), x206, x209, (x210, x213)) x1 (at' x2 x145)) fun (y216, y217) =>
  (guardO (x142.length + ([y217] : List Int).length ≤ 536870912) <|
  k238 ((x142 ++ ([y217] : List Int)), (W (x145 + 1)), y216.1, y216.2.1, y216.2.2.1.1, y216.2.2.1.2, y216.2.2.2.1, y216.2.2.2.2.1, y216.2.2.2.2.2.1, y216.2.2.2.2.2.2.1, y216.2.2.2.2.2.2.2.1, y216.2.2.2.2.2.2.2.2.1, y216.2.2.2.2.2.2.2.2.2.1, y216.2.2.2.2.2.2.2.2.2.2.1, y216.2.2.2.2.2.2.2.2.2.2.2.1, y216.2.2.2.2.2.2.2.2.2.2.2.2.1, y216.2.2.2.2.2.2.2.2.2.2.2.2.2.1.1, y216.2.2.2.2.2.2.2.2.2.2.2.2.2.1.2, y216.2.2.2.2.2.2.2.2.2.2.2.2.2.2.1, y216.2.2.2.2.2.2.2.2.2.2.2.2.2.2.2.1, y216.2.2.2.2.2.2.2.2.2.2.2.2.2.2.2.2.1, y216.2.2.2.2.2.2.2.2.2.2.2.2.2.2.2.2.2))))
  else
  j258 (x142, (x182, x183, (x184, x187), x188, x189, x190, x191, x192, x193, x194, x195, x198, x201, (x202, x205), x206, x209, (x210, x213))))

def M_i_EdKeys (x0 : Bool × Int × (List Int × Int) × Int × Int × Int × Int × Int × Int × Int × List (List Int) × (List (List Int × Int)) × Int × (List Int × Int) × List Int × Int × List Int × Int) (x1 : Int × List (List UInt8)) (x2 : List (Int × Int)) : Option ((Bool × Int × (List Int × Int) × Int × Int × Int × Int × Int × Int × Int × List (List Int) × (List (List Int × Int)) × Int × (List Int × Int) × List Int × Int × List Int × Int) × List Int) :=
  (bindO (M_i_EdOk x0) fun (y36 : Bool) =>
  (callO ((!y36) = false) (M_i_HistOk x1) false fun (y38 : Bool) =>
  (bif (bif (!y36) then true else (!y38)) then
  some ((false, 0, ([], 0), 0, 0, 0, 0, 0, 0, 0, [], [], 0, ([], 0), [], 0, ([], 0)), [])
  else
  (joinO (fun (_ : Unit) =>
  (bindO (M_i_copyEd x0) fun (y128 : Bool × Int × (List Int × Int) × Int × Int × Int × Int × Int × Int × Int × List (List Int) × (List (List Int × Int)) × Int × (List Int × Int) × List Int × Int × List Int × Int) =>
  (joinO (fun ((x242, x245) : List Int × (Bool × Int × (List Int × Int) × Int × Int × Int × Int × Int × Int × Int × List (List Int) × (List (List Int × Int)) × Int × (List Int × Int) × List Int × Int × List Int × Int)) =>
  some (x245, x242)) fun j258 =>
  (fixF (M_i_EdKeys_L2 x1 x2 j258) FUEL (([] : List Int), 0, y128.1, y128.2.1, y128.2.2.1.1, y128.2.2.1.2, y128.2.2.2.1, y128.2.2.2.2.1, y128.2.2.2.2.2.1, y128.2.2.2.2.2.2.1, y128.2.2.2.2.2.2.2.1, y128.2.2.2.2.2.2.2.2.1, y128.2.2.2.2.2.2.2.2.2.1, y128.2.2.2.2.2.2.2.2.2.2.1, y128.2.2.2.2.2.2.2.2.2.2.2.1, y128.2.2.2.2.2.2.2.2.2.2.2.2.1, y128.2.2.2.2.2.2.2.2.2.2.2.2.2.1.1, y128.2.2.2.2.2.2.2.2.2.2.2.2.2.1.2, y128.2.2.2.2.2.2.2.2.2.2.2.2.2.2.1, y128.2.2.2.2.2.2.2.2.2.2.2.2.2.2.2.1, y128.2.2.2.2.2.2.2.2.2.2.2.2.2.2.2.2.1, y128.2.2.2.2.2.2.2.2.2.2.2.2.2.2.2.2.2))))) fun j124 =>
  (fixF (M_i_EdKeys_L1 x2 j124) FUEL 0)))))

theorem ok_i_EdKeys (x0 : Bool × Int × (List Int × Int) × Int × Int × Int × Int × Int × Int × Int × List (List Int) × (List (List Int × Int)) × Int × (List Int × Int) × List Int × Int × List Int × Int) (x1 : Int × List (List UInt8)) (x2 : List (Int × Int)) (a4 : Option Addr) (c5 : Nat) (l6 : Nat) (hl7 : x0.2.2.1.1.length = l6) (a8 : Option Addr) (c9 : Nat) (l10 : Nat) (hl11 : x0.2.2.2.2.2.2.2.2.2.2.1.length = l10) (a12 : Option Addr) (c13 : Nat) (l14 : Nat) (hl15 : x0.2.2.2.2.2.2.2.2.2.2.2.1.length = l14) (a16 : Option Addr) (c17 : Nat) (l18 : Nat) (hl19 : x0.2.2.2.2.2.2.2.2.2.2.2.2.2.1.1.length = l18) (a20 : Option Addr) (c21 : Nat) (l22 : Nat) (hl23 : x0.2.2.2.2.2.2.2.2.2.2.2.2.2.2.1.length = l22) (a24 : Option Addr) (c25 : Nat) (l26 : Nat) (hl27 : x0.2.2.2.2.2.2.2.2.2.2.2.2.2.2.2.2.1.length = l26) (a28 : Option Addr) (c29 : Nat) (l30 : Nat) (hl31 : x1.2.length = l30) (a32 : Option Addr) (c33 : Nat) (l34 : Nat) (hl35 : x2.length = l34) (r : (Bool × Int × (List Int × Int) × Int × Int × Int × Int × Int × Int × Int × List (List Int) × (List (List Int × Int)) × Int × (List Int × Int) × List Int × Int × List Int × Int) × List Int) (h : M_i_EdKeys x0 x1 x2 = some r) :
    FC Tryz.prog 31 [.agg #[.bool x0.1, .int .i64 x0.2.1, .slice a4 l6 c5, .int .i64 x0.2.2.1.2, .int .i64 x0.2.2.2.1, .int .i64 x0.2.2.2.2.1, .int .i64 x0.2.2.2.2.2.1, .int .i64 x0.2.2.2.2.2.2.1, .int .i64 x0.2.2.2.2.2.2.2.1, .int .i64 x0.2.2.2.2.2.2.2.2.1, .int .i64 x0.2.2.2.2.2.2.2.2.2.1, .slice a8 l10 c9, .slice a12 l14 c13, .int .i64 x0.2.2.2.2.2.2.2.2.2.2.2.2.1, .slice a16 l18 c17, .int .i64 x0.2.2.2.2.2.2.2.2.2.2.2.2.2.1.2, .slice a20 l22 c21, .int .i64 x0.2.2.2.2.2.2.2.2.2.2.2.2.2.2.2.1, .slice a24 l26 c25, .int .i64 x0.2.2.2.2.2.2.2.2.2.2.2.2.2.2.2.2.2], .agg #[.int .i64 x1.1, .slice a28 l30 c29], .slice a32 l34 c33] [⟨(.int .i64), ⟨a4, l6, c5⟩, x0.2.2.1.1⟩, ⟨(.sl (.int .i64)), ⟨a8, l10, c9⟩, x0.2.2.2.2.2.2.2.2.2.2.1⟩, ⟨(.pair (.sl (.int .i64)) (.int .i64)), ⟨a12, l14, c13⟩, x0.2.2.2.2.2.2.2.2.2.2.2.1⟩, ⟨(.int .i64), ⟨a16, l18, c17⟩, x0.2.2.2.2.2.2.2.2.2.2.2.2.2.1.1⟩, ⟨(.int .i64), ⟨a20, l22, c21⟩, x0.2.2.2.2.2.2.2.2.2.2.2.2.2.2.1⟩, ⟨(.int .i64), ⟨a24, l26, c25⟩, x0.2.2.2.2.2.2.2.2.2.2.2.2.2.2.2.2.1⟩, ⟨.str, ⟨a28, l30, c29⟩, x1.2⟩, ⟨(.pair (.int .i64) (.int .i64)), ⟨a32, l34, c33⟩, x2⟩] (fun _ : Option Addr × Nat × Option Addr × Nat × Option Addr × Nat × Option Addr × Nat × Option Addr × Nat × Option Addr × Nat × Option Addr × Nat => True) (fun q => .tuple #[.agg (cl46 r.1 q.1 q.2.1 q.2.2.1 q.2.2.2.1 q.2.2.2.2.1 q.2.2.2.2.2.1 q.2.2.2.2.2.2.1 q.2.2.2.2.2.2.2.1 q.2.2.2.2.2.2.2.2.1 q.2.2.2.2.2.2.2.2.2.1 q.2.2.2.2.2.2.2.2.2.2.1 q.2.2.2.2.2.2.2.2.2.2.2.1).toArray, .slice q.2.2.2.2.2.2.2.2.2.2.2.2.1 r.2.length q.2.2.2.2.2.2.2.2.2.2.2.2.2]) (fun q => [⟨(.int .i64), ⟨q.1, r.1.2.2.1.1.length, q.2.1⟩, r.1.2.2.1.1⟩, ⟨(.sl (.int .i64)), ⟨q.2.2.1, r.1.2.2.2.2.2.2.2.2.2.2.1.length, q.2.2.2.1⟩, r.1.2.2.2.2.2.2.2.2.2.2.1⟩, ⟨(.pair (.sl (.int .i64)) (.int .i64)), ⟨q.2.2.2.2.1, r.1.2.2.2.2.2.2.2.2.2.2.2.1.length, q.2.2.2.2.2.1⟩, r.1.2.2.2.2.2.2.2.2.2.2.2.1⟩, ⟨(.int .i64), ⟨q.2.2.2.2.2.2.1, r.1.2.2.2.2.2.2.2.2.2.2.2.2.2.1.1.length, q.2.2.2.2.2.2.2.1⟩, r.1.2.2.2.2.2.2.2.2.2.2.2.2.2.1.1⟩, ⟨(.int .i64), ⟨q.2.2.2.2.2.2.2.2.1, r.1.2.2.2.2.2.2.2.2.2.2.2.2.2.2.1.length, q.2.2.2.2.2.2.2.2.2.1⟩, r.1.2.2.2.2.2.2.2.2.2.2.2.2.2.2.1⟩, ⟨(.int .i64), ⟨q.2.2.2.2.2.2.2.2.2.2.1, r.1.2.2.2.2.2.2.2.2.2.2.2.2.2.2.2.2.1.length, q.2.2.2.2.2.2.2.2.2.2.2.1⟩, r.1.2.2.2.2.2.2.2.2.2.2.2.2.2.2.2.2.1⟩, ⟨(.int .i64), ⟨q.2.2.2.2.2.2.2.2.2.2.2.2.1, r.2.length, q.2.2.2.2.2.2.2.2.2.2.2.2.2⟩, r.2⟩]) :=
  by
    subst hl7
    subst hl11
    subst hl15
    subst hl19
    subst hl23
    subst hl27
    subst hl31
    subst hl35
    refine FC.of (T := TTx) Tryz.call31 Tryz.func31 rfl rfl fun w0 => ?_
    unfold M_i_EdKeys at h
    refine JS.rgB ttOk 4 [] [9, 10, 11] [(3, .bp 9 0), (4, .bp 10 0), (6, .bp 11 0)] (.new 9 46 (cl46 x0 a4 c5 a8 c9 a12 c13 a16 c17 a20 c21 a24 c25) (.new 10 50 [.int .i64 x1.1, .slice a28 x1.2.length c29] (.new 11 46 (cl46 (false, 0, ([], 0), 0, 0, 0, 0, 0, 0, 0, [], [], 0, ([], 0), [], 0, ([], 0)) none 0 none 0 none 0 none 0 none 0 none 0) .nil))) ⟨(Es rfl), (Bs rfl rfl)⟩ rfl rfl (JS.seq (JS.seq (JS.region (JO.reg ttOk 1 [] [] [(16, .v (.agg (cl46 x0 a4 c5 a8 c9 a12 c13 a16 c17 a20 c21 a24 c25).toArray))] _ rfl ⟨⟨rfl, trivial⟩, rfl⟩ ?_))))
    obtain ⟨y36, hy37, h⟩ := bindO_some h
    refine JO.call rfl rfl rfl rfl (ok_i_EdOk x0 a4 c5 x0.2.2.1.1.length rfl a8 c9 x0.2.2.2.2.2.2.2.2.2.2.1.length rfl a12 c13 x0.2.2.2.2.2.2.2.2.2.2.2.1.length rfl a16 c17 x0.2.2.2.2.2.2.2.2.2.2.2.2.2.1.1.length rfl a20 c21 x0.2.2.2.2.2.2.2.2.2.2.2.2.2.2.1.length rfl a24 c25 x0.2.2.2.2.2.2.2.2.2.2.2.2.2.2.2.2.1.length rfl _ hy37) rfl [0, 1, 2, 3, 4, 5] rfl rfl fun _ _ => JO.reg ttOk 3 [] [] [(19, .v (.bool (!y36))), (20, .cd [(19, false)] (.v (.agg #[.int .i64 x1.1, .slice a28 x1.2.length c29])))] _ rfl ⟨(Es rfl), rfl⟩ ?_
    obtain ⟨y38, hy39, -, h⟩ := callO_some h
    refine JO.callg rfl rfl rfl rfl (fun q264 => ok_i_HistOk x1 a28 c29 x1.2.length rfl _ (hy39 q264)) rfl [6] rfl rfl (JO.reg ttOk 2 [] [] [(23, .v (.bool (bif (!y36) then true else (!y38))))] _ rfl ⟨⟨rfl, trivial⟩, rfl⟩ (JO.done rfl ?_))
    refine JS.cond rfl (fun ht272 => ?_) (fun ht272 => ?_)
    · have h := condT h ht272
      refine JS.rgB ttOk 3 [] [] [(7, .v (.slice none 0 0))] (.new 11 46 (cl46 (false, 0, ([], 0), 0, 0, 0, 0, 0, 0, 0, [], [], 0, ([], 0), [], 0, ([], 0)) none 0 none 0 none 0 none 0 none 0 none 0) .nil) ⟨⟨rfl, trivial⟩, (Bs rfl rfl)⟩ rfl rfl ?_
      cases h
      refine JS.nilO (.int .i64) Sl.nil rfl rfl (JS.nilO (.sl (.int .i64)) Sl.nil rfl rfl (JS.nilO (.pair (.sl (.int .i64)) (.int .i64)) Sl.nil rfl rfl (JS.nilO (.int .i64) Sl.nil rfl rfl (JS.nilO (.int .i64) Sl.nil rfl rfl (JS.nilO (.int .i64) Sl.nil rfl rfl (JS.nilO (.int .i64) Sl.nil rfl rfl (JS.ret ttOk (none, 0, none, 0, none, 0, none, 0, none, 0, none, 0, none, 0) trivial rfl rfl [6, 5, 4, 3, 2, 1, 0] rfl)))))))
    have h := condF h ht272
    refine JS.skip (JS.seq (JS.rg0 ttOk 3 [(25, .v (.slice a32 x2.length c33)), (26, .v (.int .i64 (x2.length : Int))), (27, .v (.int .i64 0))] ⟨(Es rfl), rfl⟩ rfl rfl ?_))
    obtain ⟨j124, hj271, h⟩ := joinO_some h
    refine JS.blockJ (ι := Unit) ⟨fun _ => j124 () = some r, fun _ => [(2, .v (.slice a32 x2.length c33)), (3, .bp 9 0), (4, .bp 10 0), (6, .bp 11 0)], fun _ => (.new 9 46 (cl46 x0 a4 c5 a8 c9 a12 c13 a16 c17 a20 c21 a24 c25) (.new 10 50 [.int .i64 x1.1, .slice a28 x1.2.length c29] (.new 11 46 (cl46 (false, 0, ([], 0), 0, 0, 0, 0, 0, 0, 0, [], [], 0, ([], 0), [], 0, ([], 0)) none 0 none 0 none 0 none 0 none 0 none 0) .nil))), fun _ => [⟨(.pair (.int .i64) (.int .i64)), ⟨a32, x2.length, c33⟩, x2⟩, ⟨(.int .i64), ⟨a4, x0.2.2.1.1.length, c5⟩, x0.2.2.1.1⟩, ⟨(.sl (.int .i64)), ⟨a8, x0.2.2.2.2.2.2.2.2.2.2.1.length, c9⟩, x0.2.2.2.2.2.2.2.2.2.2.1⟩, ⟨(.pair (.sl (.int .i64)) (.int .i64)), ⟨a12, x0.2.2.2.2.2.2.2.2.2.2.2.1.length, c13⟩, x0.2.2.2.2.2.2.2.2.2.2.2.1⟩, ⟨(.int .i64), ⟨a16, x0.2.2.2.2.2.2.2.2.2.2.2.2.2.1.1.length, c17⟩, x0.2.2.2.2.2.2.2.2.2.2.2.2.2.1.1⟩, ⟨(.int .i64), ⟨a20, x0.2.2.2.2.2.2.2.2.2.2.2.2.2.2.1.length, c21⟩, x0.2.2.2.2.2.2.2.2.2.2.2.2.2.2.1⟩, ⟨(.int .i64), ⟨a24, x0.2.2.2.2.2.2.2.2.2.2.2.2.2.2.2.2.1.length, c25⟩, x0.2.2.2.2.2.2.2.2.2.2.2.2.2.2.2.2.1⟩, ⟨.str, ⟨a28, x1.2.length, c29⟩, x1.2⟩], fun _ => [], fun _ => 0⟩ ?_ ?_
    · refine JS.loop (ι := Nat × Int) ⟨fun z => fixF (M_i_EdKeys_L1 x2 j124) z.1 z.2 = some r, fun z => [(2, .v (.slice a32 x2.length c33)), (3, .bp 9 0), (4, .bp 10 0), (6, .bp 11 0), (25, .v (.slice a32 x2.length c33)), (26, .v (.int .i64 (x2.length : Int))), (27, .v (.int .i64 z.2))], fun z => (.new 9 46 (cl46 x0 a4 c5 a8 c9 a12 c13 a16 c17 a20 c21 a24 c25) (.new 10 50 [.int .i64 x1.1, .slice a28 x1.2.length c29] (.new 11 46 (cl46 (false, 0, ([], 0), 0, 0, 0, 0, 0, 0, 0, [], [], 0, ([], 0), [], 0, ([], 0)) none 0 none 0 none 0 none 0 none 0 none 0) .nil))), fun z => [⟨(.pair (.int .i64) (.int .i64)), ⟨a32, x2.length, c33⟩, x2⟩, ⟨(.int .i64), ⟨a4, x0.2.2.1.1.length, c5⟩, x0.2.2.1.1⟩, ⟨(.sl (.int .i64)), ⟨a8, x0.2.2.2.2.2.2.2.2.2.2.1.length, c9⟩, x0.2.2.2.2.2.2.2.2.2.2.1⟩, ⟨(.pair (.sl (.int .i64)) (.int .i64)), ⟨a12, x0.2.2.2.2.2.2.2.2.2.2.2.1.length, c13⟩, x0.2.2.2.2.2.2.2.2.2.2.2.1⟩, ⟨(.int .i64), ⟨a16, x0.2.2.2.2.2.2.2.2.2.2.2.2.2.1.1.length, c17⟩, x0.2.2.2.2.2.2.2.2.2.2.2.2.2.1.1⟩, ⟨(.int .i64), ⟨a20, x0.2.2.2.2.2.2.2.2.2.2.2.2.2.2.1.length, c21⟩, x0.2.2.2.2.2.2.2.2.2.2.2.2.2.2.1⟩, ⟨(.int .i64), ⟨a24, x0.2.2.2.2.2.2.2.2.2.2.2.2.2.2.2.2.1.length, c25⟩, x0.2.2.2.2.2.2.2.2.2.2.2.2.2.2.2.2.1⟩, ⟨.str, ⟨a28, x1.2.length, c29⟩, x1.2⟩], fun z => [], fun z => z.1⟩ (FUEL, 0) h (Es rfl) (Bs rfl rfl) [7, 0, 1, 2, 3, 4, 5, 6] rfl [] rfl ?_
      rintro ⟨n120, x41⟩ h
      obtain ⟨n120, rfl, h⟩ := fixF_some h
      rw [M_i_EdKeys_L1] at h
      refine JS.rg0 ttOk 1 [(28, .v (.bool (decide (x41 < (x2.length : Int)))))] ⟨⟨rfl, trivial⟩, rfl⟩ rfl rfl (JS.seq ?_)
      refine JS.cond rfl (fun ht267 => ?_) (fun ht267 => ?_)
      · have h := condT h ht267
        refine JS.skip (JS.seq (JS.block (JS.seq (JS.region (JO.know 0 rfl fun hs265 => ?_)))))
        obtain ⟨g111, h⟩ := guardO_some h
        refine JO.reg ttOk 1 [] [] [(29, .ep ⟨a32, x2.length, c33⟩ (Int.toNat x41 * 2))] _ rfl ⟨hs265.ix g111, ⟨rfl, trivial⟩, rfl⟩ (JO.loadV ttOk rfl rfl rfl rfl rfl rfl 0 rfl rfl (Int.toNat x41) 0 (at' x2 x41) ⟨at_some g111, rfl⟩ rfl rfl rfl (JO.regB ttOk 2 [] [99] [(9, .bp 99 0)] (.new 9 46 (cl46 x0 a4 c5 a8 c9 a12 c13 a16 c17 a20 c21 a24 c25) (.new 10 50 [.int .i64 x1.1, .slice a28 x1.2.length c29] (.new 11 46 (cl46 (false, 0, ([], 0), 0, 0, 0, 0, 0, 0, 0, [], [], 0, ([], 0), [], 0, ([], 0)) none 0 none 0 none 0 none 0 none 0 none 0) (.new 99 64 [.int .i64 (at' x2 x41).1, .int .i64 (at' x2 x41).2] .nil)))) rfl ⟨⟨rfl, trivial⟩, (Bs rfl rfl)⟩ (JO.done rfl (JS.seq (JS.region (JO.reg ttOk 1 [] [] [(31, .v (.agg #[.int .i64 (at' x2 x41).1, .int .i64 (at' x2 x41).2]))] _ rfl ⟨⟨rfl, trivial⟩, rfl⟩ ?_))))))
        obtain ⟨y112, hy113, h⟩ := bindO_some h
        refine JO.call rfl rfl rfl rfl (ok_i_KeyOk (at' x2 x41) _ hy113) rfl [] rfl rfl fun _ _ => JO.reg ttOk 1 [] [] [(33, .v (.bool (!y112)))] _ rfl ⟨⟨rfl, trivial⟩, rfl⟩ (JO.done rfl ?_)
        refine JS.cond rfl (fun ht266 => ?_) (fun ht266 => ?_)
        · have h := condT h ht266
          refine JS.rgB ttOk 3 [] [] [(7, .v (.slice none 0 0))] (.new 11 46 (cl46 (false, 0, ([], 0), 0, 0, 0, 0, 0, 0, 0, [], [], 0, ([], 0), [], 0, ([], 0)) none 0 none 0 none 0 none 0 none 0 none 0) .nil) ⟨⟨rfl, trivial⟩, (Bs rfl rfl)⟩ rfl rfl ?_
          cases h
          refine JS.nilO (.int .i64) Sl.nil rfl rfl (JS.nilO (.sl (.int .i64)) Sl.nil rfl rfl (JS.nilO (.pair (.sl (.int .i64)) (.int .i64)) Sl.nil rfl rfl (JS.nilO (.int .i64) Sl.nil rfl rfl (JS.nilO (.int .i64) Sl.nil rfl rfl (JS.nilO (.int .i64) Sl.nil rfl rfl (JS.nilO (.int .i64) Sl.nil rfl rfl (JS.ret ttOk (none, 0, none, 0, none, 0, none, 0, none, 0, none, 0, none, 0) trivial rfl rfl [6, 5, 4, 3, 2, 1, 0] rfl)))))))
        have h := condF h ht266
        refine JS.skip (JS.endB (JS.re ttOk 2 [(W (x41 + 1))] [] [(27, .v (.int .i64 (W (x41 + 1))))] _ ⟨⟨trivial, rfl⟩, ⟨rfl, trivial⟩, rfl⟩ rfl rfl (JS.endL (n120, (W (x41 + 1))) h (Nat.lt_succ_self _) (Es rfl) (Bs rfl rfl) [0, 1, 2, 3, 4, 5, 6, 7] rfl [] rfl)))
      have h := condF h ht267
      refine JS.exit rfl (JS.endJ () h (Es rfl) (Bs rfl rfl) [0, 1, 2, 3, 4, 5, 6, 7] rfl [] rfl)
    rintro _ h
    subst hj271
    refine JS.seq (JS.region (JO.reg ttOk 1 [] [] [(36, .v (.agg (cl46 x0 a4 c5 a8 c9 a12 c13 a16 c17 a20 c21 a24 c25).toArray))] _ rfl ⟨⟨rfl, trivial⟩, rfl⟩ ?_))
    obtain ⟨y128, hy129, h⟩ := bindO_some h
    refine JO.call rfl rfl rfl rfl (ok_i_copyEd x0 a4 c5 x0.2.2.1.1.length rfl a8 c9 x0.2.2.2.2.2.2.2.2.2.2.1.length rfl a12 c13 x0.2.2.2.2.2.2.2.2.2.2.2.1.length rfl a16 c17 x0.2.2.2.2.2.2.2.2.2.2.2.2.2.1.1.length rfl a20 c21 x0.2.2.2.2.2.2.2.2.2.2.2.2.2.2.1.length rfl a24 c25 x0.2.2.2.2.2.2.2.2.2.2.2.2.2.2.2.2.1.length rfl _ hy129) rfl [1, 2, 3, 4, 5, 6] rfl rfl ?_
    rintro ⟨a130, c131, a132, c133, a134, c135, a136, c137, a138, c139, a140, c141⟩ -
    refine JO.regB ttOk 2 [] [125] [(10, .bp 125 0)] (.new 10 50 [.int .i64 x1.1, .slice a28 x1.2.length c29] (.new 11 46 (cl46 (false, 0, ([], 0), 0, 0, 0, 0, 0, 0, 0, [], [], 0, ([], 0), [], 0, ([], 0)) none 0 none 0 none 0 none 0 none 0 none 0) (.new 125 46 (cl46 y128 a130 c131 a132 c133 a134 c135 a136 c137 a138 c139 a140 c141) .nil))) rfl ⟨⟨rfl, trivial⟩, (Bs rfl rfl)⟩ (JO.done rfl (JS.rg0 ttOk 1 [(11, .v (.slice none 0 0))] ⟨⟨rfl, trivial⟩, rfl⟩ rfl rfl (JS.seq (JS.rg0 ttOk 3 [(38, .v (.slice a32 x2.length c33)), (39, .v (.int .i64 (x2.length : Int))), (40, .v (.int .i64 0))] ⟨(Es rfl), rfl⟩ rfl rfl ?_))))
    obtain ⟨j258, hj270, h⟩ := joinO_some h
    refine JS.blockJ (ι := List Int × (Bool × Int × (List Int × Int) × Int × Int × Int × Int × Int × Int × Int × List (List Int) × (List (List Int × Int)) × Int × (List Int × Int) × List Int × Int × List Int × Int) × Option Addr × Nat × Option Addr × Nat × Option Addr × Nat × Option Addr × Nat × Option Addr × Nat × Option Addr × Nat × Option Addr × Nat) ⟨fun z => j258 (z.1, z.2.1) = some r, fun z => [(6, .bp 11 0), (10, .bp 125 0), (11, .v (.slice z.2.2.1 z.1.length z.2.2.2.1))], fun z => (.new 11 46 (cl46 (false, 0, ([], 0), 0, 0, 0, 0, 0, 0, 0, [], [], 0, ([], 0), [], 0, ([], 0)) none 0 none 0 none 0 none 0 none 0 none 0) (.new 125 46 (cl46 z.2.1 z.2.2.2.2.1 z.2.2.2.2.2.1 z.2.2.2.2.2.2.1 z.2.2.2.2.2.2.2.1 z.2.2.2.2.2.2.2.2.1 z.2.2.2.2.2.2.2.2.2.1 z.2.2.2.2.2.2.2.2.2.2.1 z.2.2.2.2.2.2.2.2.2.2.2.1 z.2.2.2.2.2.2.2.2.2.2.2.2.1 z.2.2.2.2.2.2.2.2.2.2.2.2.2.1 z.2.2.2.2.2.2.2.2.2.2.2.2.2.2.1 z.2.2.2.2.2.2.2.2.2.2.2.2.2.2.2) .nil)), fun z => [], fun z => [⟨(.int .i64), ⟨z.2.2.1, z.1.length, z.2.2.2.1⟩, z.1⟩, ⟨(.int .i64), ⟨z.2.2.2.2.1, z.2.1.2.2.1.1.length, z.2.2.2.2.2.1⟩, z.2.1.2.2.1.1⟩, ⟨(.sl (.int .i64)), ⟨z.2.2.2.2.2.2.1, z.2.1.2.2.2.2.2.2.2.2.2.2.1.length, z.2.2.2.2.2.2.2.1⟩, z.2.1.2.2.2.2.2.2.2.2.2.2.1⟩, ⟨(.pair (.sl (.int .i64)) (.int .i64)), ⟨z.2.2.2.2.2.2.2.2.1, z.2.1.2.2.2.2.2.2.2.2.2.2.2.1.length, z.2.2.2.2.2.2.2.2.2.1⟩, z.2.1.2.2.2.2.2.2.2.2.2.2.2.1⟩, ⟨(.int .i64), ⟨z.2.2.2.2.2.2.2.2.2.2.1, z.2.1.2.2.2.2.2.2.2.2.2.2.2.2.2.1.1.length, z.2.2.2.2.2.2.2.2.2.2.2.1⟩, z.2.1.2.2.2.2.2.2.2.2.2.2.2.2.2.1.1⟩, ⟨(.int .i64), ⟨z.2.2.2.2.2.2.2.2.2.2.2.2.1, z.2.1.2.2.2.2.2.2.2.2.2.2.2.2.2.2.1.length, z.2.2.2.2.2.2.2.2.2.2.2.2.2.1⟩, z.2.1.2.2.2.2.2.2.2.2.2.2.2.2.2.2.1⟩, ⟨(.int .i64), ⟨z.2.2.2.2.2.2.2.2.2.2.2.2.2.2.1, z.2.1.2.2.2.2.2.2.2.2.2.2.2.2.2.2.2.2.1.length, z.2.2.2.2.2.2.2.2.2.2.2.2.2.2.2⟩, z.2.1.2.2.2.2.2.2.2.2.2.2.2.2.2.2.2.2.1⟩], fun z => 0⟩ ?_ ?_
    · refine JS.nilO (.int .i64) Sl.nil rfl rfl (JS.loop (ι := Nat × List Int × Int × Bool × Int × List Int × Int × Int × Int × Int × Int × Int × Int × Int × List (List Int) × (List (List Int × Int)) × Int × List Int × Int × List Int × Int × List Int × Int × Option Addr × Nat × Option Addr × Nat × Option Addr × Nat × Option Addr × Nat × Option Addr × Nat × Option Addr × Nat × Option Addr × Nat) ⟨fun z => fixF (M_i_EdKeys_L2 x1 x2 j258) z.1 (z.2.1, z.2.2.1, z.2.2.2.1, z.2.2.2.2.1, z.2.2.2.2.2.1, z.2.2.2.2.2.2.1, z.2.2.2.2.2.2.2.1, z.2.2.2.2.2.2.2.2.1, z.2.2.2.2.2.2.2.2.2.1, z.2.2.2.2.2.2.2.2.2.2.1, z.2.2.2.2.2.2.2.2.2.2.2.1, z.2.2.2.2.2.2.2.2.2.2.2.2.1, z.2.2.2.2.2.2.2.2.2.2.2.2.2.1, z.2.2.2.2.2.2.2.2.2.2.2.2.2.2.1, z.2.2.2.2.2.2.2.2.2.2.2.2.2.2.2.1, z.2.2.2.2.2.2.2.2.2.2.2.2.2.2.2.2.1, z.2.2.2.2.2.2.2.2.2.2.2.2.2.2.2.2.2.1, z.2.2.2.2.2.2.2.2.2.2.2.2.2.2.2.2.2.2.1, z.2.2.2.2.2.2.2.2.2.2.2.2.2.2.2.2.2.2.2.1, z.2.2.2.2.2.2.2.2.2.2.2.2.2.2.2.2.2.2.2.2.1, z.2.2.2.2.2.2.2.2.2.2.2.2.2.2.2.2.2.2.2.2.2.1, z.2.2.2.2.2.2.2.2.2.2.2.2.2.2.2.2.2.2.2.2.2.2.1) = some r, fun z => [(4, .bp 10 0), (6, .bp 11 0), (10, .bp 125 0), (11, .v (.slice z.2.2.2.2.2.2.2.2.2.2.2.2.2.2.2.2.2.2.2.2.2.2.2.1 z.2.1.length z.2.2.2.2.2.2.2.2.2.2.2.2.2.2.2.2.2.2.2.2.2.2.2.2.1)), (38, .v (.slice a32 x2.length c33)), (39, .v (.int .i64 (x2.length : Int))), (40, .v (.int .i64 z.2.2.1))], fun z => (.new 10 50 [.int .i64 x1.1, .slice a28 x1.2.length c29] (.new 11 46 (cl46 (false, 0, ([], 0), 0, 0, 0, 0, 0, 0, 0, [], [], 0, ([], 0), [], 0, ([], 0)) none 0 none 0 none 0 none 0 none 0 none 0) (.new 125 46 (cl46 (z.2.2.2.1, z.2.2.2.2.1, (z.2.2.2.2.2.1, z.2.2.2.2.2.2.1), z.2.2.2.2.2.2.2.1, z.2.2.2.2.2.2.2.2.1, z.2.2.2.2.2.2.2.2.2.1, z.2.2.2.2.2.2.2.2.2.2.1, z.2.2.2.2.2.2.2.2.2.2.2.1, z.2.2.2.2.2.2.2.2.2.2.2.2.1, z.2.2.2.2.2.2.2.2.2.2.2.2.2.1, z.2.2.2.2.2.2.2.2.2.2.2.2.2.2.1, z.2.2.2.2.2.2.2.2.2.2.2.2.2.2.2.1, z.2.2.2.2.2.2.2.2.2.2.2.2.2.2.2.2.1, (z.2.2.2.2.2.2.2.2.2.2.2.2.2.2.2.2.2.1, z.2.2.2.2.2.2.2.2.2.2.2.2.2.2.2.2.2.2.1), z.2.2.2.2.2.2.2.2.2.2.2.2.2.2.2.2.2.2.2.1, z.2.2.2.2.2.2.2.2.2.2.2.2.2.2.2.2.2.2.2.2.1, (z.2.2.2.2.2.2.2.2.2.2.2.2.2.2.2.2.2.2.2.2.2.1, z.2.2.2.2.2.2.2.2.2.2.2.2.2.2.2.2.2.2.2.2.2.2.1)) z.2.2.2.2.2.2.2.2.2.2.2.2.2.2.2.2.2.2.2.2.2.2.2.2.2.1 z.2.2.2.2.2.2.2.2.2.2.2.2.2.2.2.2.2.2.2.2.2.2.2.2.2.2.1 z.2.2.2.2.2.2.2.2.2.2.2.2.2.2.2.2.2.2.2.2.2.2.2.2.2.2.2.1 z.2.2.2.2.2.2.2.2.2.2.2.2.2.2.2.2.2.2.2.2.2.2.2.2.2.2.2.2.1 z.2.2.2.2.2.2.2.2.2.2.2.2.2.2.2.2.2.2.2.2.2.2.2.2.2.2.2.2.2.1 z.2.2.2.2.2.2.2.2.2.2.2.2.2.2.2.2.2.2.2.2.2.2.2.2.2.2.2.2.2.2.1 z.2.2.2.2.2.2.2.2.2.2.2.2.2.2.2.2.2.2.2.2.2.2.2.2.2.2.2.2.2.2.2.1 z.2.2.2.2.2.2.2.2.2.2.2.2.2.2.2.2.2.2.2.2.2.2.2.2.2.2.2.2.2.2.2.2.1 z.2.2.2.2.2.2.2.2.2.2.2.2.2.2.2.2.2.2.2.2.2.2.2.2.2.2.2.2.2.2.2.2.2.1 z.2.2.2.2.2.2.2.2.2.2.2.2.2.2.2.2.2.2.2.2.2.2.2.2.2.2.2.2.2.2.2.2.2.2.1 z.2.2.2.2.2.2.2.2.2.2.2.2.2.2.2.2.2.2.2.2.2.2.2.2.2.2.2.2.2.2.2.2.2.2.2.1 z.2.2.2.2.2.2.2.2.2.2.2.2.2.2.2.2.2.2.2.2.2.2.2.2.2.2.2.2.2.2.2.2.2.2.2.2) .nil))), fun z => [⟨(.pair (.int .i64) (.int .i64)), ⟨a32, x2.length, c33⟩, x2⟩, ⟨.str, ⟨a28, x1.2.length, c29⟩, x1.2⟩], fun z => [⟨(.int .i64), ⟨z.2.2.2.2.2.2.2.2.2.2.2.2.2.2.2.2.2.2.2.2.2.2.2.1, z.2.1.length, z.2.2.2.2.2.2.2.2.2.2.2.2.2.2.2.2.2.2.2.2.2.2.2.2.1⟩, z.2.1⟩, ⟨(.int .i64), ⟨z.2.2.2.2.2.2.2.2.2.2.2.2.2.2.2.2.2.2.2.2.2.2.2.2.2.1, z.2.2.2.2.2.1.length, z.2.2.2.2.2.2.2.2.2.2.2.2.2.2.2.2.2.2.2.2.2.2.2.2.2.2.1⟩, z.2.2.2.2.2.1⟩, ⟨(.sl (.int .i64)), ⟨z.2.2.2.2.2.2.2.2.2.2.2.2.2.2.2.2.2.2.2.2.2.2.2.2.2.2.2.1, z.2.2.2.2.2.2.2.2.2.2.2.2.2.2.1.length, z.2.2.2.2.2.2.2.2.2.2.2.2.2.2.2.2.2.2.2.2.2.2.2.2.2.2.2.2.1⟩, z.2.2.2.2.2.2.2.2.2.2.2.2.2.2.1⟩, ⟨(.pair (.sl (.int .i64)) (.int .i64)), ⟨z.2.2.2.2.2.2.2.2.2.2.2.2.2.2.2.2.2.2.2.2.2.2.2.2.2.2.2.2.2.1, z.2.2.2.2.2.2.2.2.2.2.2.2.2.2.2.1.length, z.2.2.2.2.2.2.2.2.2.2.2.2.2.2.2.2.2.2.2.2.2.2.2.2.2.2.2.2.2.2.1⟩, z.2.2.2.2.2.2.2.2.2.2.2.2.2.2.2.1⟩, ⟨(.int .i64), ⟨z.2.2.2.2.2.2.2.2.2.2.2.2.2.2.2.2.2.2.2.2.2.2.2.2.2.2.2.2.2.2.2.1, z.2.2.2.2.2.2.2.2.2.2.2.2.2.2.2.2.2.1.length, z.2.2.2.2.2.2.2.2.2.2.2.2.2.2.2.2.2.2.2.2.2.2.2.2.2.2.2.2.2.2.2.2.1⟩, z.2.2.2.2.2.2.2.2.2.2.2.2.2.2.2.2.2.1⟩, ⟨(.int .i64), ⟨z.2.2.2.2.2.2.2.2.2.2.2.2.2.2.2.2.2.2.2.2.2.2.2.2.2.2.2.2.2.2.2.2.2.1, z.2.2.2.2.2.2.2.2.2.2.2.2.2.2.2.2.2.2.2.1.length, z.2.2.2.2.2.2.2.2.2.2.2.2.2.2.2.2.2.2.2.2.2.2.2.2.2.2.2.2.2.2.2.2.2.2.1⟩, z.2.2.2.2.2.2.2.2.2.2.2.2.2.2.2.2.2.2.2.1⟩, ⟨(.int .i64), ⟨z.2.2.2.2.2.2.2.2.2.2.2.2.2.2.2.2.2.2.2.2.2.2.2.2.2.2.2.2.2.2.2.2.2.2.2.1, z.2.2.2.2.2.2.2.2.2.2.2.2.2.2.2.2.2.2.2.2.2.1.length, z.2.2.2.2.2.2.2.2.2.2.2.2.2.2.2.2.2.2.2.2.2.2.2.2.2.2.2.2.2.2.2.2.2.2.2.2⟩, z.2.2.2.2.2.2.2.2.2.2.2.2.2.2.2.2.2.2.2.2.2.1⟩], fun z => z.1⟩ (FUEL, ([] : List Int), 0, y128.1, y128.2.1, y128.2.2.1.1, y128.2.2.1.2, y128.2.2.2.1, y128.2.2.2.2.1, y128.2.2.2.2.2.1, y128.2.2.2.2.2.2.1, y128.2.2.2.2.2.2.2.1, y128.2.2.2.2.2.2.2.2.1, y128.2.2.2.2.2.2.2.2.2.1, y128.2.2.2.2.2.2.2.2.2.2.1, y128.2.2.2.2.2.2.2.2.2.2.2.1, y128.2.2.2.2.2.2.2.2.2.2.2.2.1, y128.2.2.2.2.2.2.2.2.2.2.2.2.2.1.1, y128.2.2.2.2.2.2.2.2.2.2.2.2.2.1.2, y128.2.2.2.2.2.2.2.2.2.2.2.2.2.2.1, y128.2.2.2.2.2.2.2.2.2.2.2.2.2.2.2.1, y128.2.2.2.2.2.2.2.2.2.2.2.2.2.2.2.2.1, y128.2.2.2.2.2.2.2.2.2.2.2.2.2.2.2.2.2, none, 0, a130, c131, a132, c133, a134, c135, a136, c137, a138, c139, a140, c141) h (Es rfl) (Bs rfl rfl) [0, 7] rfl [0, 0, 0, 0, 0, 0, 0] rfl ?_)
      rintro ⟨n239, x142, x145, x182, x183, x184, x187, x188, x189, x190, x191, x192, x193, x194, x195, x198, x201, x202, x205, x206, x209, x210, x213, a143, c144, a185, c186, a196, c197, a199, c200, a203, c204, a207, c208, a211, c212⟩ h
      obtain ⟨n239, rfl, h⟩ := fixF_some h
      rw [M_i_EdKeys_L2] at h
      refine JS.rg0 ttOk 1 [(41, .v (.bool (decide (x145 < (x2.length : Int)))))] ⟨⟨rfl, trivial⟩, rfl⟩ rfl rfl (JS.seq ?_)
      refine JS.cond rfl (fun ht269 => ?_) (fun ht269 => ?_)
      · have h := condT h ht269
        refine JS.skip (JS.seq (JS.block (JS.seq (JS.region (JO.know 0 rfl fun hs268 => ?_)))))
        obtain ⟨g215, h⟩ := guardO_some h
        refine JO.reg ttOk 1 [] [] [(42, .ep ⟨a32, x2.length, c33⟩ (Int.toNat x145 * 2))] _ rfl ⟨hs268.ix g215, ⟨rfl, trivial⟩, rfl⟩ (JO.loadV ttOk rfl rfl rfl rfl rfl rfl 0 rfl rfl (Int.toNat x145) 0 (at' x2 x145) ⟨at_some g215, rfl⟩ rfl rfl rfl (JO.regB ttOk 2 [] [213] [(13, .bp 213 0)] (.new 10 50 [.int .i64 x1.1, .slice a28 x1.2.length c29] (.new 11 46 (cl46 (false, 0, ([], 0), 0, 0, 0, 0, 0, 0, 0, [], [], 0, ([], 0), [], 0, ([], 0)) none 0 none 0 none 0 none 0 none 0 none 0) (.new 125 46 (cl46 (x182, x183, (x184, x187), x188, x189, x190, x191, x192, x193, x194, x195, x198, x201, (x202, x205), x206, x209, (x210, x213)) a185 c186 a196 c197 a199 c200 a203 c204 a207 c208 a211 c212) (.new 213 64 [.int .i64 (at' x2 x145).1, .int .i64 (at' x2 x145).2] .nil)))) rfl ⟨⟨rfl, trivial⟩, (Bs rfl rfl)⟩ (JO.done rfl (JS.seq (JS.region (JO.reg ttOk 3 [] [] [(45, .v (.agg (cl46 (x182, x183, (x184, x187), x188, x189, x190, x191, x192, x193, x194, x195, x198, x201, (x202, x205), x206, x209, (x210, x213)) a185 c186 a196 c197 a199 c200 a203 c204 a207 c208 a211 c212).toArray)), (46, .v (.agg #[.int .i64 x1.1, .slice a28 x1.2.length c29])), (47, .v (.agg #[.int .i64 (at' x2 x145).1, .int .i64 (at' x2 x145).2]))] _ rfl ⟨(Es rfl), rfl⟩ ?_))))))
        obtain ⟨⟨y216, y217⟩, hy218, h⟩ := bindO_some h
        refine JO.call rfl rfl rfl rfl (ok_i_EdKey (x182, x183, (x184, x187), x188, x189, x190, x191, x192, x193, x194, x195, x198, x201, (x202, x205), x206, x209, (x210, x213)) x1 (at' x2 x145) a185 c186 x184.length rfl a196 c197 x195.length rfl a199 c200 x198.length rfl a203 c204 x202.length rfl a207 c208 x206.length rfl a211 c212 x210.length rfl a28 c29 x1.2.length rfl _ hy218) rfl [3, 4, 5, 6, 7, 8, 1] rfl rfl ?_
        rintro ⟨a219, c220, a221, c222, a223, c224, a225, c226, a227, c228, a229, c230⟩ -
        refine JO.regB ttOk 6 [] [235] [(14, .bp 235 0), (15, .v (.int .i64 y217))] (.new 10 50 [.int .i64 x1.1, .slice a28 x1.2.length c29] (.new 11 46 (cl46 (false, 0, ([], 0), 0, 0, 0, 0, 0, 0, 0, [], [], 0, ([], 0), [], 0, ([], 0)) none 0 none 0 none 0 none 0 none 0 none 0) (.new 125 46 (cl46 (x182, x183, (x184, x187), x188, x189, x190, x191, x192, x193, x194, x195, x198, x201, (x202, x205), x206, x209, (x210, x213)) a185 c186 a196 c197 a199 c200 a203 c204 a207 c208 a211 c212) (.new 235 46 (cl46 y216 a219 c220 a221 c222 a223 c224 a225 c226 a227 c228 a229 c230) .nil)))) rfl ⟨(Es rfl), (Bs rfl rfl)⟩ (JO.done rfl (JS.rgB ttOk 2 [] [] [] (.new 10 50 [.int .i64 x1.1, .slice a28 x1.2.length c29] (.new 11 46 (cl46 (false, 0, ([], 0), 0, 0, 0, 0, 0, 0, 0, [], [], 0, ([], 0), [], 0, ([], 0)) none 0 none 0 none 0 none 0 none 0 none 0) (.new 125 46 (cl46 y216 a219 c220 a221 c222 a223 c224 a225 c226 a227 c228 a229 c230) .nil))) ⟨trivial, (Bs rfl rfl)⟩ rfl rfl (JS.norm [true, true, true, true, true, true, true, false, false, false, false, false, false] [⟨(.pair (.int .i64) (.int .i64)), ⟨a32, x2.length, c33⟩, x2⟩, ⟨.str, ⟨a28, x1.2.length, c29⟩, x1.2⟩] [⟨(.int .i64), ⟨a219, y216.2.2.1.1.length, c220⟩, y216.2.2.1.1⟩, ⟨(.sl (.int .i64)), ⟨a221, y216.2.2.2.2.2.2.2.2.2.2.1.length, c222⟩, y216.2.2.2.2.2.2.2.2.2.2.1⟩, ⟨(.pair (.sl (.int .i64)) (.int .i64)), ⟨a223, y216.2.2.2.2.2.2.2.2.2.2.2.1.length, c224⟩, y216.2.2.2.2.2.2.2.2.2.2.2.1⟩, ⟨(.int .i64), ⟨a225, y216.2.2.2.2.2.2.2.2.2.2.2.2.2.1.1.length, c226⟩, y216.2.2.2.2.2.2.2.2.2.2.2.2.2.1.1⟩, ⟨(.int .i64), ⟨a227, y216.2.2.2.2.2.2.2.2.2.2.2.2.2.2.1.length, c228⟩, y216.2.2.2.2.2.2.2.2.2.2.2.2.2.2.1⟩, ⟨(.int .i64), ⟨a229, y216.2.2.2.2.2.2.2.2.2.2.2.2.2.2.2.2.1.length, c230⟩, y216.2.2.2.2.2.2.2.2.2.2.2.2.2.2.2.2.1⟩, ⟨(.int .i64), ⟨a143, x142.length, c144⟩, x142⟩] rfl rfl (JS.region (JO.reg ttOk 2 [] [] [(52, .v (.slice a143 x142.length c144)), (53, .v (.int .i64 y217))] _ rfl ⟨(Es rfl), rfl⟩ ?_)))))
        refine JO.ofK rfl (JK.buildSlice ttOk rfl rfl rfl rfl rfl rfl rfl rfl rfl rfl rfl [] rfl (.int .i64) [y217] ⟨rfl, rfl⟩ rfl rfl fun a231 => JO.toK ?_)
        obtain ⟨g232, h⟩ := guardO_some h
        refine JO.appendR' ttOk rfl rfl rfl rfl ⟨rfl, rfl, rfl, rfl, trivial, rfl, rfl, rfl, rfl⟩ rfl rfl rfl [7] rfl 2 rfl g232 rfl fun a233 c234 => JO.reg ttOk 1 [] [] [(11, .v (.slice a233 (x142 ++ ([y217] : List Int)).length c234))] _ rfl ⟨⟨rfl, trivial⟩, rfl⟩ (JO.done rfl (JS.endB (JS.re ttOk 2 [(W (x145 + 1))] [] [(40, .v (.int .i64 (W (x145 + 1))))] _ ⟨⟨trivial, rfl⟩, ⟨rfl, trivial⟩, rfl⟩ rfl rfl (JS.endLA (n239, (x142 ++ ([y217] : List Int)), (W (x145 + 1)), y216.1, y216.2.1, y216.2.2.1.1, y216.2.2.1.2, y216.2.2.2.1, y216.2.2.2.2.1, y216.2.2.2.2.2.1, y216.2.2.2.2.2.2.1, y216.2.2.2.2.2.2.2.1, y216.2.2.2.2.2.2.2.2.1, y216.2.2.2.2.2.2.2.2.2.1, y216.2.2.2.2.2.2.2.2.2.2.1, y216.2.2.2.2.2.2.2.2.2.2.2.1, y216.2.2.2.2.2.2.2.2.2.2.2.2.1, y216.2.2.2.2.2.2.2.2.2.2.2.2.2.1.1, y216.2.2.2.2.2.2.2.2.2.2.2.2.2.1.2, y216.2.2.2.2.2.2.2.2.2.2.2.2.2.2.1, y216.2.2.2.2.2.2.2.2.2.2.2.2.2.2.2.1, y216.2.2.2.2.2.2.2.2.2.2.2.2.2.2.2.2.1, y216.2.2.2.2.2.2.2.2.2.2.2.2.2.2.2.2.2, a233, c234, a219, c220, a221, c222, a223, c224, a225, c226, a227, c228, a229, c230) h (Nat.lt_succ_self _) (Es rfl) (Bs rfl rfl) [0, 1] rfl [0, 2, 3, 4, 5, 6, 7] rfl rfl))))
      have h := condF h ht269
      refine JS.exit rfl (JS.endJA (x142, (x182, x183, (x184, x187), x188, x189, x190, x191, x192, x193, x194, x195, x198, x201, (x202, x205), x206, x209, (x210, x213)), a143, c144, a185, c186, a196, c197, a199, c200, a203, c204, a207, c208, a211, c212) h (Es rfl) (Bs rfl rfl) [] rfl [0, 1, 2, 3, 4, 5, 6] rfl rfl)
    rintro ⟨x242, x245, a243, c244, a246, c247, a248, c249, a250, c251, a252, c253, a254, c255, a256, c257⟩ h
    subst hj270
    refine JS.rgB ttOk 4 [] [] [(7, .v (.slice a243 x242.length c244))] (.new 11 46 (cl46 x245 a246 c247 a248 c249 a250 c251 a252 c253 a254 c255 a256 c257) .nil) ⟨⟨rfl, trivial⟩, (Bs rfl rfl)⟩ rfl rfl ?_
    cases h
    exact JS.ret ttOk (a246, c247, a248, c249, a250, c251, a252, c253, a254, c255, a256, c257, a243, c244) trivial rfl rfl [1, 1, 1, 1, 1, 1, 0] rfl

def M_l_sameInts_L1 (x0 : List Int) (x1 : List Int) (j28 : Unit → Option Bool) (k20 : Int → Option Bool) : Int → Option Bool := fun x11 =>
  (bif (decide (x11 < (x0.length : Int))) then
  (guardO (0 ≤ x11 ∧ x11 < (x0.length : Int)) <|
  (guardO (0 ≤ x11 ∧ x11 < (x1.length : Int)) <|
  (bif (!(decide ((at' x0 x11) = (at' x1 x11)))) then
  some false
  else
  k20 (W (x11 + 1)))))
  else
  j28 ())

def M_l_sameInts (x0 : List Int) (x1 : List Int) : Option Bool :=
  (bif (!(decide ((x0.length : Int) = (x1.length : Int)))) then
  some false
  else
  (joinO (fun (_ : Unit) =>
  some true) fun j28 =>
  (fixF (M_l_sameInts_L1 x0 x1 j28) FUEL 0)))

theorem ok_l_sameInts (x0 : List Int) (x1 : List Int) (a3 : Option Addr) (c4 : Nat) (l5 : Nat) (hl6 : x0.length = l5) (a7 : Option Addr) (c8 : Nat) (l9 : Nat) (hl10 : x1.length = l9) (r : Bool) (h : M_l_sameInts x0 x1 = some r) :
    FC Tryz.prog 33 [.slice a3 l5 c4, .slice a7 l9 c8] [⟨(.int .i64), ⟨a3, l5, c4⟩, x0⟩, ⟨(.int .i64), ⟨a7, l9, c8⟩, x1⟩] (fun _ : Unit => True) (fun _ => .bool r) (fun _ => []) :=
  by
    subst hl6
    subst hl10
    refine FC.of (T := TTx) Tryz.call33 Tryz.func33 rfl rfl fun w0 => ?_
    unfold M_l_sameInts at h
    refine JS.rg0 ttOk 1 [] ⟨trivial, rfl⟩ rfl rfl (JS.seq (JS.rg0 ttOk 5 [(10, .v (.bool (!(decide ((x0.length : Int) = (x1.length : Int))))))] ⟨⟨rfl, trivial⟩, rfl⟩ rfl rfl ?_))
    refine JS.cond rfl (fun ht44 => ?_) (fun ht44 => ?_)
    · have h := condT h ht44
      refine JS.rg0 ttOk 1 [(4, .v (.bool false))] ⟨⟨rfl, trivial⟩, rfl⟩ rfl rfl ?_
      cases h
      exact JS.ret ttOk () trivial rfl rfl [] rfl
    have h := condF h ht44
    refine JS.skip (JS.seq (JS.rg0 ttOk 3 [(12, .v (.int .i64 (x0.length : Int))), (13, .v (.int .i64 0))] ⟨(Es rfl), rfl⟩ rfl rfl ?_))
    obtain ⟨j28, hj43, h⟩ := joinO_some h
    refine JS.blockJ (ι := Unit) ⟨fun _ => j28 () = some r, fun _ => [], fun _ => .nil, fun _ => [], fun _ => [], fun _ => 0⟩ ?_ ?_
    · refine JS.loop (ι := Nat × Int) ⟨fun z => fixF (M_l_sameInts_L1 x0 x1 j28) z.1 z.2 = some r, fun z => [(0, .v (.slice a3 x0.length c4)), (1, .v (.slice a7 x1.length c8)), (12, .v (.int .i64 (x0.length : Int))), (13, .v (.int .i64 z.2))], fun z => .nil, fun z => [⟨(.int .i64), ⟨a3, x0.length, c4⟩, x0⟩, ⟨(.int .i64), ⟨a7, x1.length, c8⟩, x1⟩], fun z => [], fun z => z.1⟩ (FUEL, 0) h (Es rfl) trivial [0, 1] rfl [] rfl ?_
      rintro ⟨n21, x11⟩ h
      obtain ⟨n21, rfl, h⟩ := fixF_some h
      rw [M_l_sameInts_L1] at h
      refine JS.rg0 ttOk 1 [(14, .v (.bool (decide (x11 < (x0.length : Int)))))] ⟨⟨rfl, trivial⟩, rfl⟩ rfl rfl (JS.seq ?_)
      refine JS.cond rfl (fun ht42 => ?_) (fun ht42 => ?_)
      · have h := condT h ht42
        refine JS.skip (JS.seq (JS.block (JS.rg0 ttOk 2 [(5, .v (.int .i64 x11))] ⟨⟨rfl, trivial⟩, rfl⟩ rfl rfl (JS.seq ?_))))
        obtain ⟨g13, h⟩ := guardO_some h
        obtain ⟨g15, h⟩ := guardO_some h
        refine JS.know 0 rfl fun hs39 => JS.know 1 rfl fun hs40 => JS.regionQ rfl (by kernel_rfl) (JQ.reg ttOk 3 [] [(18, .ep ⟨a3, x0.length, c4⟩ (Int.toNat x11 * 1))] rfl ⟨hs39.ix g13, ⟨rfl, trivial⟩⟩ (JQ.load ttOk rfl rfl rfl rfl rfl rfl rfl 0 rfl rfl (Int.toNat x11) 0 (at' x0 x11) ⟨at_some g13, rfl⟩ rfl rfl (JQ.reg ttOk 3 [] [(22, .ep ⟨a7, x1.length, c8⟩ (Int.toNat x11 * 1))] rfl ⟨hs40.ix g15, ⟨rfl, trivial⟩⟩ (JQ.load ttOk rfl rfl rfl rfl rfl rfl rfl 1 rfl rfl (Int.toNat x11) 0 (at' x1 x11) ⟨at_some g15, rfl⟩ rfl rfl (JQ.reg ttOk 1 [] [(24, .v (.bool (!(decide ((at' x0 x11) = (at' x1 x11))))))] rfl ⟨rfl, trivial⟩ (JQ.done rfl ?_))))))
        refine JS.cond rfl (fun ht41 => ?_) (fun ht41 => ?_)
        · have h := condT h ht41
          refine JS.rg0 ttOk 1 [(4, .v (.bool false))] ⟨⟨rfl, trivial⟩, rfl⟩ rfl rfl ?_
          cases h
          exact JS.ret ttOk () trivial rfl rfl [] rfl
        have h := condF h ht41
        refine JS.skip (JS.endB (JS.re ttOk 2 [(W (x11 + 1))] [] [(13, .v (.int .i64 (W (x11 + 1))))] _ ⟨⟨trivial, rfl⟩, ⟨rfl, trivial⟩, rfl⟩ rfl rfl (JS.endL (n21, (W (x11 + 1))) h (Nat.lt_succ_self _) (Es rfl) trivial [0, 1] rfl [] rfl)))
      have h := condF h ht42
      refine JS.exit rfl (JS.endJ () h trivial trivial [] rfl [] rfl)
    rintro _ h
    subst hj43
    refine JS.rg0 ttOk 1 [(4, .v (.bool true))] ⟨⟨rfl, trivial⟩, rfl⟩ rfl rfl ?_
    cases h
    exact JS.ret ttOk () trivial rfl rfl [] rfl

def M_l_FnType_L1 (y6 : List Int) (j47 : (List (Int × Int)) → Option Bool) (k40 : ((List (Int × Int)) × Int) → Option Bool) : ((List (Int × Int)) × Int) → Option Bool := fun (x23, x26) =>
  (bif (decide (x26 < (y6.length : Int))) then
  (guardO (0 ≤ x26 ∧ x26 < (y6.length : Int)) <|
  (guardO (x23.length + ([(1, (at' y6 x26))] : List (Int × Int)).length ≤ 536870912) <|
  k40 ((x23 ++ ([(1, (at' y6 x26))] : List (Int × Int))), (W (x26 + 1)))))
  else
  j47 x23)

def M_l_FnType_L2 (y6 : List Int) (y11 : Int × List (List UInt8)) (x44 : List (Int × Int)) (j119 : Unit → Option Bool) (k113 : Int → Option Bool) : Int → Option Bool := fun x60 =>
  (bif (decide (x60 < (([false, true] : List Bool).length : Int))) then
  (guardO (0 ≤ x60 ∧ x60 < (([false, true] : List Bool).length : Int)) <|
  (joinO (fun ((x87, x90) : List Int × (Bool × Int × (List Int × Int) × Int × Int × Int × Int × Int × Int × Int × List (List Int) × (List (List Int × Int)) × Int × (List Int × Int) × List Int × Int × List Int × Int)) =>
  (bindO (M_l_sameInts x90.2.2.1.1 y6) fun (y104 : Bool) =>
  (bif (bif (bif (bif (!y104) then true else (!(decide (x90.2.2.1.2 = (y6.length : Int))))) then true else (!(decide ((x87.length : Int) = (y6.length : Int))))) then true else (!(x90.1 == (at' ([false, true] : List Bool) x60)))) then
  some false
  else
  k113 (W (x60 + 1))))) fun j103 =>
  (bindO (M_i_EdNew (at' ([false, true] : List Bool) x60)) fun (y67 : Bool × Int × (List Int × Int) × Int × Int × Int × Int × Int × Int × Int × List (List Int) × (List (List Int × Int)) × Int × (List Int × Int) × List Int × Int × List Int × Int) =>
  (bindO (M_i_EdKeys (y67.1, y67.2.1, (([] : List Int), y67.2.2.1.2), y67.2.2.2.1, y67.2.2.2.2.1, y67.2.2.2.2.2.1, y67.2.2.2.2.2.2.1, y67.2.2.2.2.2.2.2.1, y67.2.2.2.2.2.2.2.2.1, y67.2.2.2.2.2.2.2.2.2.1, ([] : List (List Int)), ([] : List (List Int × Int)), y67.2.2.2.2.2.2.2.2.2.2.2.2.1, (([] : List Int), y67.2.2.2.2.2.2.2.2.2.2.2.2.2.1.2), ([] : List Int), y67.2.2.2.2.2.2.2.2.2.2.2.2.2.2.2.1, (([] : List Int), y67.2.2.2.2.2.2.2.2.2.2.2.2.2.2.2.2.2)) y11 x44) fun (y69, y70) =>
  j103 (y70, y69)))))
  else
  j119 ())

def M_l_FnType (x0 : List UInt8) : Option Bool :=
  (bif (decide (1048576 < (x0.length : Int))) then
  some true
  else
  (bindO (M_s_MakeRunes x0) fun (y6 : List Int) =>
  (bindO (M_s_MakeEmacs x0) fun (y10, y11) =>
  (joinO (fun (x44 : List (Int × Int)) =>
  (joinO (fun (_ : Unit) =>
  (bindO (M_i_EdNew true) fun (y124 : Bool × Int × (List Int × Int) × Int × Int × Int × Int × Int × Int × Int × List (List Int) × (List (List Int × Int)) × Int × (List Int × Int) × List Int × Int × List Int × Int) =>
  (bindO (M_i_EdOk (y124.1, y124.2.1, (([] : List Int), y124.2.2.1.2), y124.2.2.2.1, y124.2.2.2.2.1, y124.2.2.2.2.2.1, y124.2.2.2.2.2.2.1, y124.2.2.2.2.2.2.2.1, y124.2.2.2.2.2.2.2.2.1, y124.2.2.2.2.2.2.2.2.2.1, ([] : List (List Int)), ([] : List (List Int × Int)), y124.2.2.2.2.2.2.2.2.2.2.2.2.1, (([] : List Int), y124.2.2.2.2.2.2.2.2.2.2.2.2.2.1.2), ([] : List Int), y124.2.2.2.2.2.2.2.2.2.2.2.2.2.2.2.1, (([] : List Int), y124.2.2.2.2.2.2.2.2.2.2.2.2.2.2.2.2.2))) fun (y126 : Bool) =>
  some y126))) fun j119 =>
  (fixF (M_l_FnType_L2 y6 y11 x44 j119) FUEL 0))) fun j47 =>
  (fixF (M_l_FnType_L1 y6 j47) FUEL (([] : List (Int × Int)), 0))))))

theorem ok_l_FnType (x0 : List UInt8) (a2 : Option Addr) (c3 : Nat) (l4 : Nat) (hl5 : x0.length = l4) (r : Bool) (h : M_l_FnType x0 = some r) :
    FC Tryz.prog 6 [.slice a2 l4 c3] [⟨.byte, ⟨a2, l4, c3⟩, x0⟩] (fun _ : Unit => True) (fun _ => .bool r) (fun _ => []) :=
  by
    subst hl5
    refine FC.of (T := TTx) Tryz.call6 Tryz.func6 rfl rfl fun w0 => ?_
    unfold M_l_FnType at h
    refine JS.rg0 ttOk 1 [] ⟨trivial, rfl⟩ rfl rfl (JS.seq (JS.rg0 ttOk 3 [(15, .v (.bool (decide (1048576 < (x0.length : Int)))))] ⟨⟨rfl, trivial⟩, rfl⟩ rfl rfl ?_))
    refine JS.cond rfl (fun ht139 => ?_) (fun ht139 => ?_)
    · have h := condT h ht139
      refine JS.rg0 ttOk 1 [(2, .v (.bool true))] ⟨⟨rfl, trivial⟩, rfl⟩ rfl rfl ?_
      cases h
      exact JS.ret ttOk () trivial rfl rfl [] rfl
    have h := condF h ht139
    refine JS.skip (JS.seq (JS.region (JO.reg ttOk 1 [] [] [(16, .v (.slice a2 x0.length c3))] _ rfl ⟨⟨rfl, trivial⟩, rfl⟩ ?_)))
    obtain ⟨y6, hy7, h⟩ := bindO_some h
    refine JO.call rfl rfl rfl rfl (ok_s_MakeRunes x0 a2 c3 x0.length rfl _ hy7) rfl [0] rfl rfl ?_
    rintro ⟨a8, c9⟩ -
    refine JO.reg ttOk 1 [] [] [(3, .v (.slice a8 y6.length c9))] _ rfl ⟨⟨rfl, trivial⟩, rfl⟩ (JO.done rfl (JS.seq (JS.region (JO.reg ttOk 1 [] [] [(19, .v (.slice a2 x0.length c3))] _ rfl ⟨⟨rfl, trivial⟩, rfl⟩ ?_))))
    obtain ⟨⟨y10, y11⟩, hy12, h⟩ := bindO_some h
    refine JO.call rfl rfl rfl rfl (ok_s_MakeEmacs x0 a2 c3 x0.length rfl _ hy12) rfl [0] rfl rfl ?_
    rintro ⟨a13, c14, a15, c16, a17, c18⟩ -
    refine JO.regB ttOk 7 [] [19, 20] [(4, .bp 19 0), (5, .bp 20 0)] (.new 20 50 [.int .i64 y11.1, .slice a17 y11.2.length c18] .nil) rfl ⟨(Es rfl), (Bs rfl rfl)⟩ (JO.done rfl (JS.seq (JS.region ?_)))
    refine JO.ofK rfl (JK.buildSlice ttOk rfl rfl rfl rfl rfl rfl rfl rfl rfl rfl rfl [] rfl (.pair (.int .i64) (.int .i64)) [] ⟨rfl, rfl⟩ rfl rfl fun a19 => JO.toK ?_)
    refine JO.reg ttOk 1 [] [] [(6, .v (.slice a19 ([] : List (Int × Int)).length ([] : List (Int × Int)).length))] _ rfl ⟨⟨rfl, trivial⟩, rfl⟩ (JO.done rfl (JS.seq (JS.rg0 ttOk 3 [(24, .v (.slice a8 y6.length c9)), (25, .v (.int .i64 (y6.length : Int))), (26, .v (.int .i64 0))] ⟨(Es rfl), rfl⟩ rfl rfl ?_)))
    obtain ⟨j47, hj138, h⟩ := joinO_some h
    refine JS.blockJ (ι := (List (Int × Int)) × Option Addr × Nat) ⟨fun z => j47 z.1 = some r, fun z => [(3, .v (.slice a8 y6.length c9)), (5, .bp 20 0), (6, .v (.slice z.2.1 z.1.length z.2.2))], fun z => (.new 20 50 [.int .i64 y11.1, .slice a17 y11.2.length c18] .nil), fun z => [], fun z => [⟨(.pair (.int .i64) (.int .i64)), ⟨z.2.1, z.1.length, z.2.2⟩, z.1⟩, ⟨(.int .i64), ⟨a8, y6.length, c9⟩, y6⟩, ⟨.str, ⟨a17, y11.2.length, c18⟩, y11.2⟩], fun z => 0⟩ ?_ ?_
    · refine JS.loop (ι := Nat × (List (Int × Int)) × Int × Option Addr × Nat) ⟨fun z => fixF (M_l_FnType_L1 y6 j47) z.1 (z.2.1, z.2.2.1) = some r, fun z => [(3, .v (.slice a8 y6.length c9)), (5, .bp 20 0), (6, .v (.slice z.2.2.2.1 z.2.1.length z.2.2.2.2)), (24, .v (.slice a8 y6.length c9)), (25, .v (.int .i64 (y6.length : Int))), (26, .v (.int .i64 z.2.2.1))], fun z => (.new 20 50 [.int .i64 y11.1, .slice a17 y11.2.length c18] .nil), fun z => [], fun z => [⟨(.pair (.int .i64) (.int .i64)), ⟨z.2.2.2.1, z.2.1.length, z.2.2.2.2⟩, z.2.1⟩, ⟨(.int .i64), ⟨a8, y6.length, c9⟩, y6⟩, ⟨.str, ⟨a17, y11.2.length, c18⟩, y11.2⟩], fun z => z.1⟩ (FUEL, ([] : List (Int × Int)), 0, a19, ([] : List (Int × Int)).length) h (Es rfl) (Bs rfl rfl) [] rfl [0, 3, 2] rfl ?_
      rintro ⟨n41, x23, x26, a24, c25⟩ h
      obtain ⟨n41, rfl, h⟩ := fixF_some h
      rw [M_l_FnType_L1] at h
      refine JS.rg0 ttOk 1 [(27, .v (.bool (decide (x26 < (y6.length : Int)))))] ⟨⟨rfl, trivial⟩, rfl⟩ rfl rfl (JS.seq ?_)
      refine JS.cond rfl (fun ht132 => ?_) (fun ht132 => ?_)
      · have h := condT h ht132
        refine JS.skip (JS.seq (JS.block (JS.seq (JS.region (JO.know 1 rfl fun hs131 => ?_)))))
        obtain ⟨g32, h⟩ := guardO_some h
        refine JO.reg ttOk 1 [] [] [(28, .ep ⟨a8, y6.length, c9⟩ (Int.toNat x26 * 1))] _ rfl ⟨hs131.ix g32, ⟨rfl, trivial⟩, rfl⟩ (JO.load ttOk rfl rfl rfl rfl rfl rfl rfl 1 rfl rfl (Int.toNat x26) 0 (at' y6 x26) ⟨at_some g32, rfl⟩ rfl rfl (JO.reg ttOk 1 [] [] [(8, .v (.int .i64 (at' y6 x26)))] _ rfl ⟨⟨rfl, trivial⟩, rfl⟩ (JO.done rfl (JS.region (JO.reg ttOk 3 [] [] [(30, .v (.slice a24 x23.length c25)), (32, .v (.agg #[.int .i64 1, .int .i64 (at' y6 x26)]))] _ rfl ⟨(Es rfl), rfl⟩ ?_)))))
        refine JO.ofK rfl (JK.buildSlice ttOk rfl rfl rfl rfl rfl rfl rfl rfl rfl rfl rfl [] rfl (.pair (.int .i64) (.int .i64)) [(1, (at' y6 x26))] ⟨rfl, rfl⟩ rfl rfl fun a33 => JO.toK ?_)
        obtain ⟨g34, h⟩ := guardO_some h
        refine JO.appendR' ttOk rfl rfl rfl rfl ⟨rfl, rfl, rfl, rfl, trivial, rfl, rfl, rfl, rfl⟩ rfl rfl rfl [1] rfl 0 rfl g34 rfl fun a35 c36 => JO.reg ttOk 1 [] [] [(6, .v (.slice a35 (x23 ++ ([(1, (at' y6 x26))] : List (Int × Int))).length c36))] _ rfl ⟨⟨rfl, trivial⟩, rfl⟩ (JO.done rfl (JS.endB (JS.re ttOk 2 [(W (x26 + 1))] [] [(26, .v (.int .i64 (W (x26 + 1))))] _ ⟨⟨trivial, rfl⟩, ⟨rfl, trivial⟩, rfl⟩ rfl rfl (JS.endLA (n41, (x23 ++ ([(1, (at' y6 x26))] : List (Int × Int))), (W (x26 + 1)), a35, c36) h (Nat.lt_succ_self _) (Es rfl) (Bs rfl rfl) [] rfl [0, 2, 3] rfl rfl))))
      have h := condF h ht132
      refine JS.exit rfl (JS.endJA (x23, a24, c25) h (Es rfl) (Bs rfl rfl) [] rfl [0, 1, 2] rfl rfl)
    rintro ⟨x44, a45, c46⟩ h
    subst hj138
    refine JS.seq (JS.seq (JS.region ?_))
    refine JO.ofK rfl (JK.buildSlice ttOk rfl rfl rfl rfl rfl rfl rfl rfl rfl rfl rfl [] rfl .bool [false, true] ⟨rfl, rfl⟩ rfl rfl fun a50 => JO.toK ?_)
    refine JO.reg ttOk 2 [] [] [(37, .v (.int .i64 (([false, true] : List Bool).length : Int))), (38, .v (.int .i64 0))] _ rfl ⟨(Es rfl), rfl⟩ (JO.done rfl ?_)
    obtain ⟨j119, hj137, h⟩ := joinO_some h
    refine JS.blockJ (ι := Unit) ⟨fun _ => j119 () = some r, fun _ => [], fun _ => .nil, fun _ => [], fun _ => [], fun _ => 0⟩ ?_ ?_
    · refine JS.loop (ι := Nat × Int) ⟨fun z => fixF (M_l_FnType_L2 y6 y11 x44 j119) z.1 z.2 = some r, fun z => [(3, .v (.slice a8 y6.length c9)), (5, .bp 20 0), (6, .v (.slice a45 x44.length c46)), (36, .v (.slice a50 ([false, true] : List Bool).length ([false, true] : List Bool).length)), (37, .v (.int .i64 (([false, true] : List Bool).length : Int))), (38, .v (.int .i64 z.2))], fun z => (.new 20 50 [.int .i64 y11.1, .slice a17 y11.2.length c18] .nil), fun z => [], fun z => [⟨(.int .i64), ⟨a8, y6.length, c9⟩, y6⟩, ⟨(.pair (.int .i64) (.int .i64)), ⟨a45, x44.length, c46⟩, x44⟩, ⟨.bool, ⟨a50, ([false, true] : List Bool).length, ([false, true] : List Bool).length⟩, ([false, true] : List Bool)⟩, ⟨.str, ⟨a17, y11.2.length, c18⟩, y11.2⟩], fun z => z.1⟩ (FUEL, 0) h (Es rfl) (Bs rfl rfl) [] rfl [2, 1, 0, 0] rfl ?_
      rintro ⟨n114, x60⟩ h
      obtain ⟨n114, rfl, h⟩ := fixF_some h
      rw [M_l_FnType_L2] at h
      refine JS.rg0 ttOk 1 [(39, .v (.bool (decide (x60 < (([false, true] : List Bool).length : Int)))))] ⟨⟨rfl, trivial⟩, rfl⟩ rfl rfl (JS.seq ?_)
      refine JS.cond rfl (fun ht136 => ?_) (fun ht136 => ?_)
      · have h := condT h ht136
        refine JS.skip (JS.seq (JS.block (JS.seq (JS.region (JO.know 2 rfl fun hs133 => ?_)))))
        obtain ⟨g66, h⟩ := guardO_some h
        refine JO.reg ttOk 1 [] [] [(40, .ep ⟨a50, ([false, true] : List Bool).length, ([false, true] : List Bool).length⟩ (Int.toNat x60 * 1))] _ rfl ⟨hs133.ix g66, ⟨rfl, trivial⟩, rfl⟩ (JO.load ttOk rfl rfl rfl rfl rfl rfl rfl 2 rfl rfl (Int.toNat x60) 0 (at' ([false, true] : List Bool) x60) ⟨at_some g66, rfl⟩ rfl rfl (JO.reg ttOk 1 [] [] [(10, .v (.bool (at' ([false, true] : List Bool) x60)))] _ rfl ⟨⟨rfl, trivial⟩, rfl⟩ (JO.done rfl (JS.seq ?_))))
        obtain ⟨j103, hj135, h⟩ := joinO_some h
        refine JS.cutJ (ι := List Int × (Bool × Int × (List Int × Int) × Int × Int × Int × Int × Int × Int × Int × List (List Int) × (List (List Int × Int)) × Int × (List Int × Int) × List Int × Int × List Int × Int) × Option Addr × Nat × Option Addr × Nat × Option Addr × Nat × Option Addr × Nat × Option Addr × Nat × Option Addr × Nat × Option Addr × Nat) ⟨fun z => j103 (z.1, z.2.1) = some r, fun z => [(3, .v (.slice a8 y6.length c9)), (5, .bp 20 0), (6, .v (.slice a45 x44.length c46)), (10, .v (.bool (at' ([false, true] : List Bool) x60))), (11, .bp 104 0), (12, .v (.slice z.2.2.1 z.1.length z.2.2.2.1)), (36, .v (.slice a50 ([false, true] : List Bool).length ([false, true] : List Bool).length)), (37, .v (.int .i64 (([false, true] : List Bool).length : Int))), (38, .v (.int .i64 x60))], fun z => (.new 20 50 [.int .i64 y11.1, .slice a17 y11.2.length c18] (.new 104 46 (cl46 z.2.1 z.2.2.2.2.1 z.2.2.2.2.2.1 z.2.2.2.2.2.2.1 z.2.2.2.2.2.2.2.1 z.2.2.2.2.2.2.2.2.1 z.2.2.2.2.2.2.2.2.2.1 z.2.2.2.2.2.2.2.2.2.2.1 z.2.2.2.2.2.2.2.2.2.2.2.1 z.2.2.2.2.2.2.2.2.2.2.2.2.1 z.2.2.2.2.2.2.2.2.2.2.2.2.2.1 z.2.2.2.2.2.2.2.2.2.2.2.2.2.2.1 z.2.2.2.2.2.2.2.2.2.2.2.2.2.2.2) .nil)), fun z => [], fun z => [⟨(.int .i64), ⟨z.2.2.1, z.1.length, z.2.2.2.1⟩, z.1⟩, ⟨(.int .i64), ⟨z.2.2.2.2.1, z.2.1.2.2.1.1.length, z.2.2.2.2.2.1⟩, z.2.1.2.2.1.1⟩, ⟨(.sl (.int .i64)), ⟨z.2.2.2.2.2.2.1, z.2.1.2.2.2.2.2.2.2.2.2.2.1.length, z.2.2.2.2.2.2.2.1⟩, z.2.1.2.2.2.2.2.2.2.2.2.2.1⟩, ⟨(.pair (.sl (.int .i64)) (.int .i64)), ⟨z.2.2.2.2.2.2.2.2.1, z.2.1.2.2.2.2.2.2.2.2.2.2.2.1.length, z.2.2.2.2.2.2.2.2.2.1⟩, z.2.1.2.2.2.2.2.2.2.2.2.2.2.1⟩, ⟨(.int .i64), ⟨z.2.2.2.2.2.2.2.2.2.2.1, z.2.1.2.2.2.2.2.2.2.2.2.2.2.2.2.1.1.length, z.2.2.2.2.2.2.2.2.2.2.2.1⟩, z.2.1.2.2.2.2.2.2.2.2.2.2.2.2.2.1.1⟩, ⟨(.int .i64), ⟨z.2.2.2.2.2.2.2.2.2.2.2.2.1, z.2.1.2.2.2.2.2.2.2.2.2.2.2.2.2.2.1.length, z.2.2.2.2.2.2.2.2.2.2.2.2.2.1⟩, z.2.1.2.2.2.2.2.2.2.2.2.2.2.2.2.2.1⟩, ⟨(.int .i64), ⟨z.2.2.2.2.2.2.2.2.2.2.2.2.2.2.1, z.2.1.2.2.2.2.2.2.2.2.2.2.2.2.2.2.2.2.1.length, z.2.2.2.2.2.2.2.2.2.2.2.2.2.2.2⟩, z.2.1.2.2.2.2.2.2.2.2.2.2.2.2.2.2.2.2.1⟩, ⟨(.int .i64), ⟨a8, y6.length, c9⟩, y6⟩, ⟨(.pair (.int .i64) (.int .i64)), ⟨a45, x44.length, c46⟩, x44⟩, ⟨.bool, ⟨a50, ([false, true] : List Bool).length, ([false, true] : List Bool).length⟩, ([false, true] : List Bool)⟩, ⟨.str, ⟨a17, y11.2.length, c18⟩, y11.2⟩], fun z => 0⟩ ?_ ?_
        · obtain ⟨y67, hy68, h⟩ := bindO_some h
          obtain ⟨⟨y69, y70⟩, hy71, h⟩ := bindO_some h
          refine JS.regionA rfl (.new 20 50 [.int .i64 y11.1, .slice a17 y11.2.length c18] .nil) [] [4, 5, 6, 7, 9, 10] ⟨rfl, rfl, rfl, rfl, trivial⟩ rfl (fun be86 => ?_)
          refine JA.reg ttOk panic_cx true 8 [0, 2, 3] rfl (by kernel_rfl) [] [(43, .v (.bool (at' ([false, true] : List Bool) x60))), (45, .v (.agg #[.int .i64 y11.1, .slice a17 y11.2.length c18])), (46, .v (.slice a45 x44.length c46))] ⟨rfl, rfl, rfl, rfl, trivial⟩ [] rfl rfl (Es rfl) ?_
          refine JA.all (rs := [1, 8]) (by kernel_rfl) rfl (List.forall_mem_cons.2 ⟨?_, List.forall_mem_cons.2 ⟨?_, (fun _ hx => absurd hx List.not_mem_nil)⟩⟩)
          · refine JK.call rfl rfl rfl rfl (ok_i_EdNew (at' ([false, true] : List Bool) x60) _ hy68) rfl [] rfl rfl fun _ _ => JA.next ⟨rfl, rfl, rfl, rfl, trivial⟩ [] rfl ?_
            refine JA.all (rs := [4, 8]) (by kernel_rfl) rfl (List.forall_mem_cons.2 ⟨?_, List.forall_mem_cons.2 ⟨?_, (fun _ hx => absurd hx List.not_mem_nil)⟩⟩)
            · refine JK.nilR (.int .i64) Sl.nil rfl rfl (JK.nilR (.sl (.int .i64)) Sl.nil rfl rfl (JK.nilR (.pair (.sl (.int .i64)) (.int .i64)) Sl.nil rfl rfl (JK.nilR (.int .i64) Sl.nil rfl rfl (JK.nilR (.int .i64) Sl.nil rfl rfl (JK.nilR (.int .i64) Sl.nil rfl rfl (JK.call rfl rfl rfl rfl (ok_i_EdKeys (y67.1, y67.2.1, (([] : List Int), y67.2.2.1.2), y67.2.2.2.1, y67.2.2.2.2.1, y67.2.2.2.2.2.1, y67.2.2.2.2.2.2.1, y67.2.2.2.2.2.2.2.1, y67.2.2.2.2.2.2.2.2.1, y67.2.2.2.2.2.2.2.2.2.1, ([] : List (List Int)), ([] : List (List Int × Int)), y67.2.2.2.2.2.2.2.2.2.2.2.2.1, (([] : List Int), y67.2.2.2.2.2.2.2.2.2.2.2.2.2.1.2), ([] : List Int), y67.2.2.2.2.2.2.2.2.2.2.2.2.2.2.2.1, (([] : List Int), y67.2.2.2.2.2.2.2.2.2.2.2.2.2.2.2.2.2)) y11 x44 none 0 (([] : List Int).length) rfl none 0 (([] : List (List Int)).length) rfl none 0 (([] : List (List Int × Int)).length) rfl none 0 (([] : List Int).length) rfl none 0 (([] : List Int).length) rfl none 0 (([] : List Int).length) rfl a17 c18 y11.2.length rfl a45 c46 x44.length rfl _ hy71) rfl [5, 4, 3, 2, 1, 0, 9, 7] rfl rfl ?_))))))
              rintro ⟨a72, c73, a74, c75, a76, c77, a78, c79, a80, c81, a82, c83, a84, c85⟩ -
              refine JA.nextL rfl (JA.regL ttOk panic_cx 3 [5, 6, 7] rfl (by kernel_rfl) [] [(48, .v (.agg (cl46 y69 a72 c73 a74 c75 a76 c77 a78 c79 a80 c81 a82 c83).toArray)), (49, .v (.slice a84 y70.length c85))] rfl (Es rfl) (JA.one 8 (by kernel_rfl) (JK.alloc ttOk rfl rfl rfl rfl rfl 104 rfl (sd_upd _ rfl) (JA.next ⟨rfl, rfl, rfl, rfl, trivial⟩ [] rfl (JA.one 9 (by kernel_rfl) (JK.stBox ttOk rfl rfl rfl rfl rfl rfl rfl rfl (JA.nextL rfl (JA.regL ttOk panic_cx 0 [10] rfl (by kernel_rfl) [] [(12, .v (.slice a84 y70.length c85))] rfl ⟨rfl, trivial⟩ (JA.done (by kernel_rfl) (JS.boxes (B' := (.new 20 50 [.int .i64 y11.1, .slice a17 y11.2.length c18] (.new 104 46 (cl46 y69 a72 c73 a74 c75 a76 c77 a78 c79 a80 c81 a82 c83) .nil))) (Bs rfl rfl) (JS.endJA (y70, y69, a84, c85, a72, c73, a74, c75, a76, c77, a78, c79, a80, c81, a82, c83) h (Es rfl) (Bs rfl rfl) [] rfl [6, 0, 1, 2, 3, 4, 5, 7, 8, 9, 10] rfl rfl)))))))))))
            refine JK.alloc ttOk rfl rfl rfl rfl rfl 104 rfl (sd_upd _ rfl) (JA.next ⟨rfl, rfl, rfl, rfl, trivial⟩ [] rfl (JA.one 4 (by kernel_rfl) (JK.nilR (.int .i64) Sl.nil rfl rfl (JK.nilR (.sl (.int .i64)) Sl.nil rfl rfl (JK.nilR (.pair (.sl (.int .i64)) (.int .i64)) Sl.nil rfl rfl (JK.nilR (.int .i64) Sl.nil rfl rfl (JK.nilR (.int .i64) Sl.nil rfl rfl (JK.nilR (.int .i64) Sl.nil rfl rfl (JK.call rfl rfl rfl rfl (ok_i_EdKeys (y67.1, y67.2.1, (([] : List Int), y67.2.2.1.2), y67.2.2.2.1, y67.2.2.2.2.1, y67.2.2.2.2.2.1, y67.2.2.2.2.2.2.1, y67.2.2.2.2.2.2.2.1, y67.2.2.2.2.2.2.2.2.1, y67.2.2.2.2.2.2.2.2.2.1, ([] : List (List Int)), ([] : List (List Int × Int)), y67.2.2.2.2.2.2.2.2.2.2.2.2.1, (([] : List Int), y67.2.2.2.2.2.2.2.2.2.2.2.2.2.1.2), ([] : List Int), y67.2.2.2.2.2.2.2.2.2.2.2.2.2.2.2.1, (([] : List Int), y67.2.2.2.2.2.2.2.2.2.2.2.2.2.2.2.2.2)) y11 x44 none 0 (([] : List Int).length) rfl none 0 (([] : List (List Int)).length) rfl none 0 (([] : List (List Int × Int)).length) rfl none 0 (([] : List Int).length) rfl none 0 (([] : List Int).length) rfl none 0 (([] : List Int).length) rfl a17 c18 y11.2.length rfl a45 c46 x44.length rfl _ hy71) rfl [5, 4, 3, 2, 1, 0, 9, 7] rfl rfl ?_)))))))))
            rintro ⟨a72, c73, a74, c75, a76, c77, a78, c79, a80, c81, a82, c83, a84, c85⟩ -
            refine JA.nextL rfl (JA.regL ttOk panic_cx 2 [5, 6, 7] rfl (by kernel_rfl) [] [(48, .v (.agg (cl46 y69 a72 c73 a74 c75 a76 c77 a78 c79 a80 c81 a82 c83).toArray)), (49, .v (.slice a84 y70.length c85))] rfl (Es rfl) (JA.one 9 (by kernel_rfl) (JK.stBox ttOk rfl rfl rfl rfl rfl rfl rfl rfl (JA.nextL rfl (JA.regL ttOk panic_cx 0 [10] rfl (by kernel_rfl) [] [(12, .v (.slice a84 y70.length c85))] rfl ⟨rfl, trivial⟩ (JA.done (by kernel_rfl) (JS.boxes (B' := (.new 20 50 [.int .i64 y11.1, .slice a17 y11.2.length c18] (.new 104 46 (cl46 y69 a72 c73 a74 c75 a76 c77 a78 c79 a80 c81 a82 c83) .nil))) (Bs rfl rfl) (JS.endJA (y70, y69, a84, c85, a72, c73, a74, c75, a76, c77, a78, c79, a80, c81, a82, c83) h (Es rfl) (Bs rfl rfl) [] rfl [6, 0, 1, 2, 3, 4, 5, 7, 8, 9, 10] rfl rfl))))))))
          refine JK.alloc ttOk rfl rfl rfl rfl rfl 104 rfl (sd_upd _ rfl) (JA.next ⟨rfl, rfl, rfl, rfl, trivial⟩ [] rfl (JA.one 1 (by kernel_rfl) (JK.call rfl rfl rfl rfl (ok_i_EdNew (at' ([false, true] : List Bool) x60) _ hy68) rfl [] rfl rfl fun _ _ => JA.next ⟨rfl, rfl, rfl, rfl, trivial⟩ [] rfl (JA.one 4 (by kernel_rfl) (JK.nilR (.int .i64) Sl.nil rfl rfl (JK.nilR (.sl (.int .i64)) Sl.nil rfl rfl (JK.nilR (.pair (.sl (.int .i64)) (.int .i64)) Sl.nil rfl rfl (JK.nilR (.int .i64) Sl.nil rfl rfl (JK.nilR (.int .i64) Sl.nil rfl rfl (JK.nilR (.int .i64) Sl.nil rfl rfl (JK.call rfl rfl rfl rfl (ok_i_EdKeys (y67.1, y67.2.1, (([] : List Int), y67.2.2.1.2), y67.2.2.2.1, y67.2.2.2.2.1, y67.2.2.2.2.2.1, y67.2.2.2.2.2.2.1, y67.2.2.2.2.2.2.2.1, y67.2.2.2.2.2.2.2.2.1, y67.2.2.2.2.2.2.2.2.2.1, ([] : List (List Int)), ([] : List (List Int × Int)), y67.2.2.2.2.2.2.2.2.2.2.2.2.1, (([] : List Int), y67.2.2.2.2.2.2.2.2.2.2.2.2.2.1.2), ([] : List Int), y67.2.2.2.2.2.2.2.2.2.2.2.2.2.2.2.1, (([] : List Int), y67.2.2.2.2.2.2.2.2.2.2.2.2.2.2.2.2.2)) y11 x44 none 0 (([] : List Int).length) rfl none 0 (([] : List (List Int)).length) rfl none 0 (([] : List (List Int × Int)).length) rfl none 0 (([] : List Int).length) rfl none 0 (([] : List Int).length) rfl none 0 (([] : List Int).length) rfl a17 c18 y11.2.length rfl a45 c46 x44.length rfl _ hy71) rfl [5, 4, 3, 2, 1, 0, 9, 7] rfl rfl ?_)))))))))))
          rintro ⟨a72, c73, a74, c75, a76, c77, a78, c79, a80, c81, a82, c83, a84, c85⟩ -
          refine JA.nextL rfl (JA.regL ttOk panic_cx 2 [5, 6, 7] rfl (by kernel_rfl) [] [(48, .v (.agg (cl46 y69 a72 c73 a74 c75 a76 c77 a78 c79 a80 c81 a82 c83).toArray)), (49, .v (.slice a84 y70.length c85))] rfl (Es rfl) (JA.one 9 (by kernel_rfl) (JK.stBox ttOk rfl rfl rfl rfl rfl rfl rfl rfl (JA.nextL rfl (JA.regL ttOk panic_cx 0 [10] rfl (by kernel_rfl) [] [(12, .v (.slice a84 y70.length c85))] rfl ⟨rfl, trivial⟩ (JA.done (by kernel_rfl) (JS.boxes (B' := (.new 20 50 [.int .i64 y11.1, .slice a17 y11.2.length c18] (.new 104 46 (cl46 y69 a72 c73 a74 c75 a76 c77 a78 c79 a80 c81 a82 c83) .nil))) (Bs rfl rfl) (JS.endJA (y70, y69, a84, c85, a72, c73, a74, c75, a76, c77, a78, c79, a80, c81, a82, c83) h (Es rfl) (Bs rfl rfl) [] rfl [6, 0, 1, 2, 3, 4, 5, 7, 8, 9, 10] rfl rfl))))))))
        rintro ⟨x87, x90, a88, c89, a91, c92, a93, c94, a95, c96, a97, c98, a99, c100, a101, c102⟩ h
        subst hj135
        refine JS.seq (JS.region (JO.reg ttOk 4 [] [] [(52, .v (.slice a91 x90.2.2.1.1.length c92)), (53, .v (.slice a8 y6.length c9))] _ rfl ⟨(Es rfl), rfl⟩ ?_))
        obtain ⟨y104, hy105, h⟩ := bindO_some h
        refine JO.call rfl rfl rfl rfl (ok_l_sameInts x90.2.2.1.1 y6 a91 c92 x90.2.2.1.1.length rfl a8 c9 y6.length rfl _ hy105) rfl [1, 7] rfl rfl fun _ _ => JO.reg ttOk 22 [] [] [(76, .v (.bool (bif (bif (bif (!y104) then true else (!(decide (x90.2.2.1.2 = (y6.length : Int))))) then true else (!(decide ((x87.length : Int) = (y6.length : Int))))) then true else (!(x90.1 == (at' ([false, true] : List Bool) x60))))))] _ rfl ⟨⟨rfl, trivial⟩, rfl⟩ (JO.done rfl ?_)
        refine JS.cond rfl (fun ht134 => ?_) (fun ht134 => ?_)
        · have h := condT h ht134
          refine JS.rg0 ttOk 1 [(2, .v (.bool false))] ⟨⟨rfl, trivial⟩, rfl⟩ rfl rfl ?_
          cases h
          exact JS.ret ttOk () trivial rfl rfl [] rfl
        have h := condF h ht134
        refine JS.skip (JS.endB (JS.re ttOk 2 [(W (x60 + 1))] [] [(38, .v (.int .i64 (W (x60 + 1))))] _ ⟨⟨trivial, rfl⟩, ⟨rfl, trivial⟩, rfl⟩ rfl rfl (JS.endLA (n114, (W (x60 + 1))) h (Nat.lt_succ_self _) (Es rfl) (Bs rfl rfl) [] rfl [7, 8, 9, 10] rfl rfl)))
      have h := condF h ht136
      refine JS.exit rfl (JS.endJ () h trivial trivial [] rfl [] rfl)
    rintro _ h
    subst hj137
    refine JS.seq (JS.region ?_)
    obtain ⟨y124, hy125, h⟩ := bindO_some h
    refine JO.call rfl rfl rfl rfl (ok_i_EdNew true _ hy125) rfl [] rfl rfl fun _ _ => ?_
    obtain ⟨y126, hy127, h⟩ := bindO_some h
    refine JO.nilR (.int .i64) Sl.nil rfl rfl (JO.nilR (.sl (.int .i64)) Sl.nil rfl rfl (JO.nilR (.pair (.sl (.int .i64)) (.int .i64)) Sl.nil rfl rfl (JO.nilR (.int .i64) Sl.nil rfl rfl (JO.nilR (.int .i64) Sl.nil rfl rfl (JO.nilR (.int .i64) Sl.nil rfl rfl (JO.call rfl rfl rfl rfl (ok_i_EdOk (y124.1, y124.2.1, (([] : List Int), y124.2.2.1.2), y124.2.2.2.1, y124.2.2.2.2.1, y124.2.2.2.2.2.1, y124.2.2.2.2.2.2.1, y124.2.2.2.2.2.2.2.1, y124.2.2.2.2.2.2.2.2.1, y124.2.2.2.2.2.2.2.2.2.1, ([] : List (List Int)), ([] : List (List Int × Int)), y124.2.2.2.2.2.2.2.2.2.2.2.2.1, (([] : List Int), y124.2.2.2.2.2.2.2.2.2.2.2.2.2.1.2), ([] : List Int), y124.2.2.2.2.2.2.2.2.2.2.2.2.2.2.2.1, (([] : List Int), y124.2.2.2.2.2.2.2.2.2.2.2.2.2.2.2.2.2)) none 0 (([] : List Int).length) rfl none 0 (([] : List (List Int)).length) rfl none 0 (([] : List (List Int × Int)).length) rfl none 0 (([] : List Int).length) rfl none 0 (([] : List Int).length) rfl none 0 (([] : List Int).length) rfl _ hy127) rfl [5, 4, 3, 2, 1, 0] rfl rfl fun _ _ => JO.reg ttOk 1 [] [] [(2, .v (.bool y126))] _ rfl ⟨⟨rfl, trivial⟩, rfl⟩ (JO.done rfl ?_)))))))
    cases h
    exact JS.ret ttOk () trivial rfl rfl [] rfl

end
end Go.Eng
