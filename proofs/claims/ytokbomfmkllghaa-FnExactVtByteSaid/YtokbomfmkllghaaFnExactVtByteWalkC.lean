/- The walks of the functions that FnExactVtByte reaches: what each computes, as a plain function (M_..), and that the model computes it (ok_..). Condition of each: that the plain function answers. -/
import Derived.Test.YtokbomfmkllghaaFnExactVtByteWalkB
set_option linter.unusedVariables false
set_option linter.unusedSimpArgs false
namespace Go.Eng
open Go Go.Proofs
noncomputable section

def M_l_eqVt (x0 : (Int × Int × List Int × Int × Int × Bool) × Int × List Int × List UInt8 × Int) (x1 : (Int × Int × List Int × Int × Int × Bool) × Int × List Int × List UInt8 × Int) : Option Bool :=
  (bindO (M_l_eqGrid x0.1 x1.1) fun (y27 : Bool) =>
  (bif (!y27) then
  some false
  else
  (bif (!(decide (x0.2.1 = x1.2.1))) then
  some false
  else
  (bindO (M_l_eqIntS x0.2.2.1 x1.2.2.1) fun (y29 : Bool) =>
  (bif (!y29) then
  some false
  else
  (bindO (M_l_eqByteS x0.2.2.2.1 x1.2.2.2.1) fun (y31 : Bool) =>
  (bif (!y31) then
  some false
  else
  (bif (!(decide (x0.2.2.2.2 = x1.2.2.2.2))) then
  some false
  else
  some true))))))))

theorem ok_l_eqVt (x0 : (Int × Int × List Int × Int × Int × Bool) × Int × List Int × List UInt8 × Int) (x1 : (Int × Int × List Int × Int × Int × Bool) × Int × List Int × List UInt8 × Int) (a3 : Option Addr) (c4 : Nat) (l5 : Nat) (hl6 : x0.1.2.2.1.length = l5) (a7 : Option Addr) (c8 : Nat) (l9 : Nat) (hl10 : x0.2.2.1.length = l9) (a11 : Option Addr) (c12 : Nat) (l13 : Nat) (hl14 : x0.2.2.2.1.length = l13) (a15 : Option Addr) (c16 : Nat) (l17 : Nat) (hl18 : x1.1.2.2.1.length = l17) (a19 : Option Addr) (c20 : Nat) (l21 : Nat) (hl22 : x1.2.2.1.length = l21) (a23 : Option Addr) (c24 : Nat) (l25 : Nat) (hl26 : x1.2.2.2.1.length = l25) (r : Bool) (h : M_l_eqVt x0 x1 = some r) :
    FC Try.prog 37 [.agg #[.int .i64 x0.1.1, .int .i64 x0.1.2.1, .slice a3 l5 c4, .int .i64 x0.1.2.2.2.1, .int .i64 x0.1.2.2.2.2.1, .bool x0.1.2.2.2.2.2, .int .i64 x0.2.1, .slice a7 l9 c8, .slice a11 l13 c12, .int .i64 x0.2.2.2.2], .agg #[.int .i64 x1.1.1, .int .i64 x1.1.2.1, .slice a15 l17 c16, .int .i64 x1.1.2.2.2.1, .int .i64 x1.1.2.2.2.2.1, .bool x1.1.2.2.2.2.2, .int .i64 x1.2.1, .slice a19 l21 c20, .slice a23 l25 c24, .int .i64 x1.2.2.2.2]] [⟨(.int .i64), ⟨a3, l5, c4⟩, x0.1.2.2.1⟩, ⟨(.int .i64), ⟨a7, l9, c8⟩, x0.2.2.1⟩, ⟨.byte, ⟨a11, l13, c12⟩, x0.2.2.2.1⟩, ⟨(.int .i64), ⟨a15, l17, c16⟩, x1.1.2.2.1⟩, ⟨(.int .i64), ⟨a19, l21, c20⟩, x1.2.2.1⟩, ⟨.byte, ⟨a23, l25, c24⟩, x1.2.2.2.1⟩] (fun _ : Unit => True) (fun _ => .bool r) (fun _ => []) :=
  by
    subst hl6
    subst hl10
    subst hl14
    subst hl18
    subst hl22
    subst hl26
    refine FC.of (T := TTx) Try.call37 Try.func37 rfl rfl fun w0 => ?_
    unfold M_l_eqVt at h
    refine JS.seq (JS.region (JO.regB ttOk 3 [] [7, 8] [(2, .bp 7 0), (3, .bp 8 0)] (.new 7 45 (cl45 x0 a3 c4 a7 c8 a11 c12) (.new 8 45 (cl45 x1 a15 c16 a19 c20 a23 c24) .nil)) rfl ⟨⟨rfl, rfl, trivial⟩, ⟨rfl, rfl, rfl, rfl, rfl, rfl, rfl, rfl, trivial⟩⟩ (JO.done rfl (JS.seq (JS.seq (JS.region (JO.reg ttOk 4 [] [] [(6, .v (.agg (cl26 x0.1 a3 c4).toArray)), (8, .v (.agg (cl26 x1.1 a15 c16).toArray))] _ rfl ⟨⟨rfl, rfl, trivial⟩, rfl⟩ ?_)))))))
    obtain ⟨y27, hy28, h⟩ := bindO_some h
    refine JO.call rfl rfl rfl rfl (ok_l_eqGrid x0.1 x1.1 a3 c4 x0.1.2.2.1.length rfl a15 c16 x1.1.2.2.1.length rfl _ hy28) rfl [0, 3] rfl rfl fun _ _ => JO.reg ttOk 1 [] [] [(10, .v (.bool (!y27)))] _ rfl ⟨⟨rfl, trivial⟩, rfl⟩ (JO.done rfl ?_)
    refine JS.cond rfl (fun ht42 => ?_) (fun ht42 => ?_)
    · have h := condT h ht42
      refine JS.seq (JS.region (JO.reg ttOk 1 [] [] [(4, .v (.bool false))] _ rfl ⟨⟨rfl, trivial⟩, rfl⟩ (JO.done rfl ?_)))
      cases h
      exact JS.ret ttOk () trivial rfl rfl [] rfl
    have h := condF h ht42
    refine JS.skip (JS.seq (JS.seq (JS.region (JO.reg ttOk 5 [] [] [(15, .v (.bool (!(decide (x0.2.1 = x1.2.1)))))] _ rfl ⟨⟨rfl, trivial⟩, rfl⟩ (JO.done rfl ?_)))))
    refine JS.cond rfl (fun ht41 => ?_) (fun ht41 => ?_)
    · have h := condT h ht41
      refine JS.seq (JS.region (JO.reg ttOk 1 [] [] [(4, .v (.bool false))] _ rfl ⟨⟨rfl, trivial⟩, rfl⟩ (JO.done rfl ?_)))
      cases h
      exact JS.ret ttOk () trivial rfl rfl [] rfl
    have h := condF h ht41
    refine JS.skip (JS.seq (JS.seq (JS.region (JO.reg ttOk 4 [] [] [(17, .v (.slice a7 x0.2.2.1.length c8)), (19, .v (.slice a19 x1.2.2.1.length c20))] _ rfl ⟨⟨rfl, rfl, trivial⟩, rfl⟩ ?_))))
    obtain ⟨y29, hy30, h⟩ := bindO_some h
    refine JO.call rfl rfl rfl rfl (ok_l_eqIntS x0.2.2.1 x1.2.2.1 a7 c8 x0.2.2.1.length rfl a19 c20 x1.2.2.1.length rfl _ hy30) rfl [1, 4] rfl rfl fun _ _ => JO.reg ttOk 1 [] [] [(21, .v (.bool (!y29)))] _ rfl ⟨⟨rfl, trivial⟩, rfl⟩ (JO.done rfl ?_)
    refine JS.cond rfl (fun ht40 => ?_) (fun ht40 => ?_)
    · have h := condT h ht40
      refine JS.seq (JS.region (JO.reg ttOk 1 [] [] [(4, .v (.bool false))] _ rfl ⟨⟨rfl, trivial⟩, rfl⟩ (JO.done rfl ?_)))
      cases h
      exact JS.ret ttOk () trivial rfl rfl [] rfl
    have h := condF h ht40
    refine JS.skip (JS.seq (JS.seq (JS.region (JO.reg ttOk 4 [] [] [(23, .v (.slice a11 x0.2.2.2.1.length c12)), (25, .v (.slice a23 x1.2.2.2.1.length c24))] _ rfl ⟨⟨rfl, rfl, trivial⟩, rfl⟩ ?_))))
    obtain ⟨y31, hy32, h⟩ := bindO_some h
    refine JO.call rfl rfl rfl rfl (ok_l_eqByteS x0.2.2.2.1 x1.2.2.2.1 a11 c12 x0.2.2.2.1.length rfl a23 c24 x1.2.2.2.1.length rfl _ hy32) rfl [2, 5] rfl rfl fun _ _ => JO.reg ttOk 1 [] [] [(27, .v (.bool (!y31)))] _ rfl ⟨⟨rfl, trivial⟩, rfl⟩ (JO.done rfl ?_)
    refine JS.cond rfl (fun ht39 => ?_) (fun ht39 => ?_)
    · have h := condT h ht39
      refine JS.seq (JS.region (JO.reg ttOk 1 [] [] [(4, .v (.bool false))] _ rfl ⟨⟨rfl, trivial⟩, rfl⟩ (JO.done rfl ?_)))
      cases h
      exact JS.ret ttOk () trivial rfl rfl [] rfl
    have h := condF h ht39
    refine JS.skip (JS.seq (JS.seq (JS.region (JO.reg ttOk 5 [] [] [(32, .v (.bool (!(decide (x0.2.2.2.2 = x1.2.2.2.2)))))] _ rfl ⟨⟨rfl, trivial⟩, rfl⟩ (JO.done rfl ?_)))))
    refine JS.cond rfl (fun ht38 => ?_) (fun ht38 => ?_)
    · have h := condT h ht38
      refine JS.seq (JS.region (JO.reg ttOk 1 [] [] [(4, .v (.bool false))] _ rfl ⟨⟨rfl, trivial⟩, rfl⟩ (JO.done rfl ?_)))
      cases h
      exact JS.ret ttOk () trivial rfl rfl [] rfl
    have h := condF h ht38
    refine JS.skip (JS.seq (JS.region (JO.reg ttOk 1 [] [] [(4, .v (.bool true))] _ rfl ⟨⟨rfl, trivial⟩, rfl⟩ (JO.done rfl ?_))))
    cases h
    exact JS.ret ttOk () trivial rfl rfl [] rfl

def M_l_markIntS_L1 (x0 : List Int) (j19 : (List Int × Int) → Option (Int × List Int)) (k13 : (List Int × Int × Int) → Option (Int × List Int)) : (List Int × Int × Int) → Option (Int × List Int) := fun (x7, x8, x9) =>
  (bif (decide (x9 < (x0.length : Int))) then
  (guardO (0 ≤ x9 ∧ x9 < (x0.length : Int)) <|
  k13 ((List.set x7 (Int.toNat x9) x8), (W (x8 + 1)), (W (x9 + 1))))
  else
  j19 (x7, x8))

def M_l_markIntS (x0 : List Int) (x1 : Int) : Option (Int × List Int) :=
  (joinO (fun ((x17, x18) : List Int × Int) =>
  some (x18, x17)) fun j19 =>
  (fixF (M_l_markIntS_L1 x0 j19) FUEL (x0, x1, 0)))

theorem ok_l_markIntS (x0 : List Int) (x1 : Int) (a3 : Option Addr) (c4 : Nat) (l5 : Nat) (hl6 : x0.length = l5) (r : Int × List Int) (h : M_l_markIntS x0 x1 = some r) :
    FX Try.prog 55 [.slice a3 l5 c4, .int .i64 x1] [] [⟨(.int .i64), ⟨a3, l5, c4⟩, x0⟩] (fun _ : Unit => True) (fun _ => .int .i64 r.1) (fun _ => [⟨(.int .i64), ⟨a3, l5, c4⟩, r.2⟩]) :=
  by
    subst hl6
    refine FX.of (T := TTx) Try.call55 Try.func55 rfl rfl fun w0 L0 => ?_
    unfold M_l_markIntS at h
    refine JS.seq (JS.region (JO.reg ttOk 1 [] [] [] _ rfl ⟨trivial, rfl⟩ (JO.done rfl (JS.seq (JS.seq (JS.region (JO.reg ttOk 1 [] [] [(5, .v (.int .i64 0))] _ rfl ⟨⟨rfl, trivial⟩, rfl⟩ (JO.done rfl ?_))))))))
    obtain ⟨j19, hj27, h⟩ := joinO_some h
    refine JS.blockJ (ι := List Int × Int) ⟨fun z => j19 (z.1, z.2) = some r, fun z => [(1, .v (.int .i64 z.2))], fun z => .nil, fun z => [], fun z => [⟨(.int .i64), ⟨a3, x0.length, c4⟩, z.1⟩], fun z => 0⟩ ?_ ?_
    · refine JS.loop (ι := Nat × List Int × Int × Int) ⟨fun z => fixF (M_l_markIntS_L1 x0 j19) z.1 (z.2.1, z.2.2.1, z.2.2.2) = some r, fun z => [(0, .v (.slice a3 x0.length c4)), (1, .v (.int .i64 z.2.2.1)), (5, .v (.int .i64 z.2.2.2))], fun z => .nil, fun z => [], fun z => [⟨(.int .i64), ⟨a3, x0.length, c4⟩, z.2.1⟩], fun z => z.1⟩ (FUEL, x0, x1, 0) h ⟨rfl, rfl, rfl, trivial⟩ trivial [] rfl [0] rfl ?_
      rintro ⟨n14, x7, x8, x9⟩ h
      obtain ⟨n14, rfl, h⟩ := fixF_some h
      rw [M_l_markIntS_L1] at h
      refine JS.know 0 rfl fun hs24 => JS.seq (JS.seq (JS.region (JO.reg ttOk 4 [] [] [(9, .v (.bool (decide (x9 < (x0.length : Int)))))] _ rfl ⟨⟨rfl, trivial⟩, rfl⟩ (JO.done rfl ?_))))
      refine JS.cond rfl (fun ht25 => ?_) (fun ht25 => ?_)
      · have h := condT h ht25
        refine JS.skip (JS.seq (JS.block (JS.seq (JS.region ?_))))
        obtain ⟨g11, h⟩ := guardO_some h
        refine JO.reg ttOk 4 [] [] [(14, .v (.int .i64 x8)), (15, .ep ⟨a3, x0.length, c4⟩ (Int.toNat x9 * 1))] _ rfl ⟨(hs24.cast hs24.len.symm).ix g11, ⟨rfl, rfl, trivial⟩, rfl⟩ (JO.storeE ttOk rfl rfl rfl rfl rfl rfl rfl rfl rfl [0] (fs := []) rfl (Int.toNat x9) 0 (at' x7 x9) x8 ⟨at_someL hs24.len.symm g11, rfl⟩ ⟨rfl, rfl, rfl⟩ (JO.done rfl (JS.region (JO.reg ttOk 3 [(W (x8 + 1))] [] [(1, .v (.int .i64 (W (x8 + 1))))] _ rfl ⟨⟨trivial, rfl⟩, ⟨rfl, trivial⟩, rfl⟩ (JO.done rfl (JS.endB (JS.region (JO.reg ttOk 3 [(W (x9 + 1))] [] [(5, .v (.int .i64 (W (x9 + 1))))] _ rfl ⟨⟨trivial, rfl⟩, ⟨rfl, trivial⟩, rfl⟩ (JO.done rfl (JS.endL (n14, (List.set x7 (Int.toNat x9) x8), (W (x8 + 1)), (W (x9 + 1))) h (Nat.lt_succ_self _) ⟨rfl, rfl, rfl, trivial⟩ trivial [] rfl [0] rfl))))))))))
      have h := condF h ht25
      refine JS.exit rfl (JS.endJ (x7, x8) h ⟨rfl, trivial⟩ trivial [] rfl [0] rfl)
    rintro ⟨x17, x18⟩ h
    subst hj27
    refine JS.know 0 rfl fun hs26 => JS.seq (JS.region (JO.reg ttOk 2 [] [] [(4, .v (.int .i64 x18))] _ rfl ⟨⟨rfl, trivial⟩, rfl⟩ (JO.done rfl ?_)))
    cases h
    exact JS.retX ttOk () trivial rfl rfl [0] rfl

def M_l_markGrid (x0 : Int × Int × List Int × Int × Int × Bool) (x1 : Int) : Option (Int × List Int) :=
  (bindO (M_l_markIntS x0.2.2.1 x1) fun (y7, y8) =>
  some (y7, y8))

theorem ok_l_markGrid (x0 : Int × Int × List Int × Int × Int × Bool) (x1 : Int) (a3 : Option Addr) (c4 : Nat) (l5 : Nat) (hl6 : x0.2.2.1.length = l5) (r : Int × List Int) (h : M_l_markGrid x0 x1 = some r) :
    FX Try.prog 14 [.agg #[.int .i64 x0.1, .int .i64 x0.2.1, .slice a3 l5 c4, .int .i64 x0.2.2.2.1, .int .i64 x0.2.2.2.2.1, .bool x0.2.2.2.2.2], .int .i64 x1] [] [⟨(.int .i64), ⟨a3, l5, c4⟩, x0.2.2.1⟩] (fun _ : Unit => True) (fun _ => .int .i64 r.1) (fun _ => [⟨(.int .i64), ⟨a3, l5, c4⟩, r.2⟩]) :=
  by
    subst hl6
    refine FX.of (T := TTx) Try.call14 Try.func14 rfl rfl fun w0 L0 => ?_
    unfold M_l_markGrid at h
    refine JS.seq (JS.region (JO.regB ttOk 2 [] [2] [(2, .bp 2 0)] (.new 2 26 (cl26 x0 a3 c4) .nil) rfl ⟨⟨rfl, trivial⟩, ⟨rfl, rfl, rfl, rfl, trivial⟩⟩ (JO.done rfl (JS.seq (JS.region (JO.reg ttOk 3 [] [] [(6, .v (.slice a3 x0.2.2.1.length c4)), (7, .v (.int .i64 x1))] _ rfl ⟨⟨rfl, rfl, trivial⟩, rfl⟩ ?_))))))
    obtain ⟨⟨y7, y8⟩, hy9, h⟩ := bindO_some h
    refine JO.callX rfl rfl rfl rfl (ok_l_markIntS x0.2.2.1 x1 a3 c4 x0.2.2.1.length rfl _ hy9) rfl [0] rfl [] rfl rfl fun _ _ => JO.know 0 rfl fun hs10 => JO.reg ttOk 1 [] [] [(1, .v (.int .i64 y7))] _ rfl ⟨⟨rfl, trivial⟩, rfl⟩ (JO.done rfl (JS.seq (JS.region (JO.reg ttOk 2 [] [] [(4, .v (.int .i64 y7))] _ rfl ⟨⟨rfl, trivial⟩, rfl⟩ (JO.done rfl ?_)))))
    cases h
    exact JS.retX ttOk () trivial rfl rfl [0] rfl

def M_l_markByteS_L1 (x0 : List UInt8) (j19 : (List UInt8 × Int) → Option (Int × List UInt8)) (k13 : (List UInt8 × Int × Int) → Option (Int × List UInt8)) : (List UInt8 × Int × Int) → Option (Int × List UInt8) := fun (x7, x8, x9) =>
  (bif (decide (x9 < (x0.length : Int))) then
  (guardO (0 ≤ x9 ∧ x9 < (x0.length : Int)) <|
  k13 ((List.set x7 (Int.toNat x9) (u8 (x8))), (W (x8 + 1)), (W (x9 + 1))))
  else
  j19 (x7, x8))

def M_l_markByteS (x0 : List UInt8) (x1 : Int) : Option (Int × List UInt8) :=
  (joinO (fun ((x17, x18) : List UInt8 × Int) =>
  some (x18, x17)) fun j19 =>
  (fixF (M_l_markByteS_L1 x0 j19) FUEL (x0, x1, 0)))

theorem ok_l_markByteS (x0 : List UInt8) (x1 : Int) (a3 : Option Addr) (c4 : Nat) (l5 : Nat) (hl6 : x0.length = l5) (r : Int × List UInt8) (h : M_l_markByteS x0 x1 = some r) :
    FX Try.prog 43 [.slice a3 l5 c4, .int .i64 x1] [] [⟨.byte, ⟨a3, l5, c4⟩, x0⟩] (fun _ : Unit => True) (fun _ => .int .i64 r.1) (fun _ => [⟨.byte, ⟨a3, l5, c4⟩, r.2⟩]) :=
  by
    subst hl6
    refine FX.of (T := TTx) Try.call43 Try.func43 rfl rfl fun w0 L0 => ?_
    unfold M_l_markByteS at h
    refine JS.seq (JS.region (JO.reg ttOk 1 [] [] [] _ rfl ⟨trivial, rfl⟩ (JO.done rfl (JS.seq (JS.seq (JS.region (JO.reg ttOk 1 [] [] [(5, .v (.int .i64 0))] _ rfl ⟨⟨rfl, trivial⟩, rfl⟩ (JO.done rfl ?_))))))))
    obtain ⟨j19, hj27, h⟩ := joinO_some h
    refine JS.blockJ (ι := List UInt8 × Int) ⟨fun z => j19 (z.1, z.2) = some r, fun z => [(1, .v (.int .i64 z.2))], fun z => .nil, fun z => [], fun z => [⟨.byte, ⟨a3, x0.length, c4⟩, z.1⟩], fun z => 0⟩ ?_ ?_
    · refine JS.loop (ι := Nat × List UInt8 × Int × Int) ⟨fun z => fixF (M_l_markByteS_L1 x0 j19) z.1 (z.2.1, z.2.2.1, z.2.2.2) = some r, fun z => [(0, .v (.slice a3 x0.length c4)), (1, .v (.int .i64 z.2.2.1)), (5, .v (.int .i64 z.2.2.2))], fun z => .nil, fun z => [], fun z => [⟨.byte, ⟨a3, x0.length, c4⟩, z.2.1⟩], fun z => z.1⟩ (FUEL, x0, x1, 0) h ⟨rfl, rfl, rfl, trivial⟩ trivial [] rfl [0] rfl ?_
      rintro ⟨n14, x7, x8, x9⟩ h
      obtain ⟨n14, rfl, h⟩ := fixF_some h
      rw [M_l_markByteS_L1] at h
      refine JS.know 0 rfl fun hs24 => JS.seq (JS.seq (JS.region (JO.reg ttOk 4 [] [] [(9, .v (.bool (decide (x9 < (x0.length : Int)))))] _ rfl ⟨⟨rfl, trivial⟩, rfl⟩ (JO.done rfl ?_))))
      refine JS.cond rfl (fun ht25 => ?_) (fun ht25 => ?_)
      · have h := condT h ht25
        refine JS.skip (JS.seq (JS.block (JS.seq (JS.region ?_))))
        obtain ⟨g11, h⟩ := guardO_some h
        refine JO.reg ttOk 5 [((u8 (x8)).toNat : Int)] [] [(15, .v (.int .u8 ((u8 (x8)).toNat : Int))), (16, .ep ⟨a3, x0.length, c4⟩ (Int.toNat x9 * 1))] _ rfl ⟨⟨trivial, u8_wrap _⟩, (hs24.cast hs24.len.symm).ix g11, ⟨rfl, rfl, trivial⟩, rfl⟩ (JO.storeE ttOk rfl rfl rfl rfl rfl rfl rfl rfl rfl [0] (fs := []) rfl (Int.toNat x9) 0 (at' x7 x9) (u8 (x8)) ⟨at_someL hs24.len.symm g11, rfl⟩ ⟨rfl, rfl, rfl⟩ (JO.done rfl (JS.region (JO.reg ttOk 3 [(W (x8 + 1))] [] [(1, .v (.int .i64 (W (x8 + 1))))] _ rfl ⟨⟨trivial, rfl⟩, ⟨rfl, trivial⟩, rfl⟩ (JO.done rfl (JS.endB (JS.region (JO.reg ttOk 3 [(W (x9 + 1))] [] [(5, .v (.int .i64 (W (x9 + 1))))] _ rfl ⟨⟨trivial, rfl⟩, ⟨rfl, trivial⟩, rfl⟩ (JO.done rfl (JS.endL (n14, (List.set x7 (Int.toNat x9) (u8 (x8))), (W (x8 + 1)), (W (x9 + 1))) h (Nat.lt_succ_self _) ⟨rfl, rfl, rfl, trivial⟩ trivial [] rfl [0] rfl))))))))))
      have h := condF h ht25
      refine JS.exit rfl (JS.endJ (x7, x8) h ⟨rfl, trivial⟩ trivial [] rfl [0] rfl)
    rintro ⟨x17, x18⟩ h
    subst hj27
    refine JS.know 0 rfl fun hs26 => JS.seq (JS.region (JO.reg ttOk 2 [] [] [(4, .v (.int .i64 x18))] _ rfl ⟨⟨rfl, trivial⟩, rfl⟩ (JO.done rfl ?_)))
    cases h
    exact JS.retX ttOk () trivial rfl rfl [0] rfl

def M_l_markVt (x0 : (Int × Int × List Int × Int × Int × Bool) × Int × List Int × List UInt8 × Int) (x1 : Int) : Option (Int × List Int × List Int × List UInt8) :=
  (bindO (M_l_markGrid x0.1 x1) fun (y15, y16) =>
  (bindO (M_l_markIntS x0.2.2.1 y15) fun (y19, y20) =>
  (bindO (M_l_markByteS x0.2.2.2.1 y19) fun (y23, y24) =>
  some (y23, y16, y20, y24))))

theorem ok_l_markVt (x0 : (Int × Int × List Int × Int × Int × Bool) × Int × List Int × List UInt8 × Int) (x1 : Int) (a3 : Option Addr) (c4 : Nat) (l5 : Nat) (hl6 : x0.1.2.2.1.length = l5) (a7 : Option Addr) (c8 : Nat) (l9 : Nat) (hl10 : x0.2.2.1.length = l9) (a11 : Option Addr) (c12 : Nat) (l13 : Nat) (hl14 : x0.2.2.2.1.length = l13) (r : Int × List Int × List Int × List UInt8) (h : M_l_markVt x0 x1 = some r) :
    FX Try.prog 38 [.agg #[.int .i64 x0.1.1, .int .i64 x0.1.2.1, .slice a3 l5 c4, .int .i64 x0.1.2.2.2.1, .int .i64 x0.1.2.2.2.2.1, .bool x0.1.2.2.2.2.2, .int .i64 x0.2.1, .slice a7 l9 c8, .slice a11 l13 c12, .int .i64 x0.2.2.2.2], .int .i64 x1] [] [⟨(.int .i64), ⟨a3, l5, c4⟩, x0.1.2.2.1⟩, ⟨(.int .i64), ⟨a7, l9, c8⟩, x0.2.2.1⟩, ⟨.byte, ⟨a11, l13, c12⟩, x0.2.2.2.1⟩] (fun _ : Unit => True) (fun _ => .int .i64 r.1) (fun _ => [⟨(.int .i64), ⟨a3, l5, c4⟩, r.2.1⟩, ⟨(.int .i64), ⟨a7, l9, c8⟩, r.2.2.1⟩, ⟨.byte, ⟨a11, l13, c12⟩, r.2.2.2⟩]) :=
  by
    subst hl6
    subst hl10
    subst hl14
    refine FX.of (T := TTx) Try.call38 Try.func38 rfl rfl fun w0 L0 => ?_
    unfold M_l_markVt at h
    refine JS.seq (JS.region (JO.regB ttOk 2 [] [4] [(2, .bp 4 0)] (.new 4 45 (cl45 x0 a3 c4 a7 c8 a11 c12) .nil) rfl ⟨⟨rfl, trivial⟩, ⟨rfl, rfl, rfl, rfl, trivial⟩⟩ (JO.done rfl (JS.seq (JS.region (JO.reg ttOk 3 [] [] [(6, .v (.agg (cl26 x0.1 a3 c4).toArray)), (7, .v (.int .i64 x1))] _ rfl ⟨⟨rfl, rfl, trivial⟩, rfl⟩ ?_))))))
    obtain ⟨⟨y15, y16⟩, hy17, h⟩ := bindO_some h
    refine JO.callX rfl rfl rfl rfl (ok_l_markGrid x0.1 x1 a3 c4 x0.1.2.2.1.length rfl _ hy17) rfl [0] rfl [] rfl rfl fun _ _ => JO.know 0 rfl fun hs18 => JO.reg ttOk 1 [] [] [(1, .v (.int .i64 y15))] _ rfl ⟨⟨rfl, trivial⟩, rfl⟩ (JO.done rfl (JS.seq (JS.region (JO.reg ttOk 3 [] [] [(10, .v (.slice a7 x0.2.2.1.length c8)), (11, .v (.int .i64 y15))] _ rfl ⟨⟨rfl, rfl, trivial⟩, rfl⟩ ?_))))
    obtain ⟨⟨y19, y20⟩, hy21, h⟩ := bindO_some h
    refine JO.callX rfl rfl rfl rfl (ok_l_markIntS x0.2.2.1 y15 a7 c8 x0.2.2.1.length rfl _ hy21) rfl [1] rfl [] rfl rfl fun _ _ => JO.know 0 rfl fun hs22 => JO.reg ttOk 1 [] [] [(1, .v (.int .i64 y19))] _ rfl ⟨⟨rfl, trivial⟩, rfl⟩ (JO.done rfl (JS.seq (JS.region (JO.reg ttOk 3 [] [] [(14, .v (.slice a11 x0.2.2.2.1.length c12)), (15, .v (.int .i64 y19))] _ rfl ⟨⟨rfl, rfl, trivial⟩, rfl⟩ ?_))))
    obtain ⟨⟨y23, y24⟩, hy25, h⟩ := bindO_some h
    refine JO.callX rfl rfl rfl rfl (ok_l_markByteS x0.2.2.2.1 y19 a11 c12 x0.2.2.2.1.length rfl _ hy25) rfl [2] rfl [] rfl rfl fun _ _ => JO.know 0 rfl fun hs26 => JO.reg ttOk 1 [] [] [(1, .v (.int .i64 y23))] _ rfl ⟨⟨rfl, trivial⟩, rfl⟩ (JO.done rfl (JS.seq (JS.region (JO.reg ttOk 2 [] [] [(4, .v (.int .i64 y23))] _ rfl ⟨⟨rfl, trivial⟩, rfl⟩ (JO.done rfl ?_)))))
    cases h
    exact JS.retX ttOk () trivial rfl rfl [2, 1, 0] rfl

def M_l_heldIntS_L1 (x0 : List Int) (j19 : Int → Option Int) (k13 : (Int × Int) → Option Int) : (Int × Int) → Option Int := fun (x7, x8) =>
  (bif (decide (x8 < (x0.length : Int))) then
  (guardO (0 ≤ x8 ∧ x8 < (x0.length : Int)) <|
  (bif (!(decide ((at' x0 x8) = x7))) then
  some (-1)
  else
  k13 ((W (x7 + 1)), (W (x8 + 1)))))
  else
  j19 x7)

def M_l_heldIntS (x0 : List Int) (x1 : Int) : Option Int :=
  (joinO (fun (x18 : Int) =>
  some x18) fun j19 =>
  (fixF (M_l_heldIntS_L1 x0 j19) FUEL (x1, 0)))

theorem ok_l_heldIntS (x0 : List Int) (x1 : Int) (a3 : Option Addr) (c4 : Nat) (l5 : Nat) (hl6 : x0.length = l5) (r : Int) (h : M_l_heldIntS x0 x1 = some r) :
    FC Try.prog 56 [.slice a3 l5 c4, .int .i64 x1] [⟨(.int .i64), ⟨a3, l5, c4⟩, x0⟩] (fun _ : Unit => True) (fun _ => .int .i64 r) (fun _ => []) :=
  by
    subst hl6
    refine FC.of (T := TTx) Try.call56 Try.func56 rfl rfl fun w0 => ?_
    unfold M_l_heldIntS at h
    refine JS.seq (JS.region (JO.reg ttOk 1 [] [] [] _ rfl ⟨trivial, rfl⟩ (JO.done rfl (JS.seq (JS.seq (JS.region (JO.reg ttOk 1 [] [] [(5, .v (.int .i64 0))] _ rfl ⟨⟨rfl, trivial⟩, rfl⟩ (JO.done rfl ?_))))))))
    obtain ⟨j19, hj27, h⟩ := joinO_some h
    refine JS.blockJ (ι := Int) ⟨fun z => j19 z = some r, fun z => [(1, .v (.int .i64 z))], fun z => .nil, fun z => [], fun z => [], fun z => 0⟩ ?_ ?_
    · refine JS.loop (ι := Nat × Int × Int) ⟨fun z => fixF (M_l_heldIntS_L1 x0 j19) z.1 (z.2.1, z.2.2) = some r, fun z => [(0, .v (.slice a3 x0.length c4)), (1, .v (.int .i64 z.2.1)), (5, .v (.int .i64 z.2.2))], fun z => .nil, fun z => [⟨(.int .i64), ⟨a3, x0.length, c4⟩, x0⟩], fun z => [], fun z => z.1⟩ (FUEL, x1, 0) h ⟨rfl, rfl, rfl, trivial⟩ trivial [0] rfl [] rfl ?_
      rintro ⟨n14, x7, x8⟩ h
      obtain ⟨n14, rfl, h⟩ := fixF_some h
      rw [M_l_heldIntS_L1] at h
      refine JS.seq (JS.seq (JS.region (JO.reg ttOk 4 [] [] [(9, .v (.bool (decide (x8 < (x0.length : Int)))))] _ rfl ⟨⟨rfl, trivial⟩, rfl⟩ (JO.done rfl ?_))))
      refine JS.cond rfl (fun ht26 => ?_) (fun ht26 => ?_)
      · have h := condT h ht26
        refine JS.skip (JS.seq (JS.block (JS.seq (JS.seq (JS.region (JO.know 0 rfl fun hs24 => ?_))))))
        obtain ⟨g10, h⟩ := guardO_some h
        refine JO.reg ttOk 3 [] [] [(14, .ep ⟨a3, x0.length, c4⟩ (Int.toNat x8 * 1))] _ rfl ⟨hs24.ix g10, ⟨rfl, trivial⟩, rfl⟩ (JO.load ttOk rfl rfl rfl rfl rfl rfl rfl 0 rfl rfl (Int.toNat x8) 0 (at' x0 x8) ⟨at_some g10, rfl⟩ rfl rfl (JO.reg ttOk 2 [] [] [(17, .v (.bool (!(decide ((at' x0 x8) = x7)))))] _ rfl ⟨⟨rfl, trivial⟩, rfl⟩ (JO.done rfl ?_)))
        refine JS.cond rfl (fun ht25 => ?_) (fun ht25 => ?_)
        · have h := condT h ht25
          refine JS.seq (JS.region (JO.reg ttOk 1 [] [] [(4, .v (.int .i64 (-1)))] _ rfl ⟨⟨rfl, trivial⟩, rfl⟩ (JO.done rfl ?_)))
          cases h
          exact JS.ret ttOk () trivial rfl rfl [] rfl
        have h := condF h ht25
        refine JS.skip (JS.region (JO.reg ttOk 3 [(W (x7 + 1))] [] [(1, .v (.int .i64 (W (x7 + 1))))] _ rfl ⟨⟨trivial, rfl⟩, ⟨rfl, trivial⟩, rfl⟩ (JO.done rfl (JS.endB (JS.region (JO.reg ttOk 3 [(W (x8 + 1))] [] [(5, .v (.int .i64 (W (x8 + 1))))] _ rfl ⟨⟨trivial, rfl⟩, ⟨rfl, trivial⟩, rfl⟩ (JO.done rfl (JS.endL (n14, (W (x7 + 1)), (W (x8 + 1))) h (Nat.lt_succ_self _) ⟨rfl, rfl, rfl, trivial⟩ trivial [0] rfl [] rfl))))))))
      have h := condF h ht26
      refine JS.exit rfl (JS.endJ x7 h ⟨rfl, trivial⟩ trivial [] rfl [] rfl)
    rintro x18 h
    subst hj27
    refine JS.seq (JS.region (JO.reg ttOk 2 [] [] [(4, .v (.int .i64 x18))] _ rfl ⟨⟨rfl, trivial⟩, rfl⟩ (JO.done rfl ?_)))
    cases h
    exact JS.ret ttOk () trivial rfl rfl [] rfl

def M_l_heldGrid (x0 : Int × Int × List Int × Int × Int × Bool) (x1 : Int) : Option Int :=
  (bindO (M_l_heldIntS x0.2.2.1 x1) fun (y7 : Int) =>
  (bif (decide (y7 < 0)) then
  some (-1)
  else
  some y7))

theorem ok_l_heldGrid (x0 : Int × Int × List Int × Int × Int × Bool) (x1 : Int) (a3 : Option Addr) (c4 : Nat) (l5 : Nat) (hl6 : x0.2.2.1.length = l5) (r : Int) (h : M_l_heldGrid x0 x1 = some r) :
    FC Try.prog 15 [.agg #[.int .i64 x0.1, .int .i64 x0.2.1, .slice a3 l5 c4, .int .i64 x0.2.2.2.1, .int .i64 x0.2.2.2.2.1, .bool x0.2.2.2.2.2], .int .i64 x1] [⟨(.int .i64), ⟨a3, l5, c4⟩, x0.2.2.1⟩] (fun _ : Unit => True) (fun _ => .int .i64 r) (fun _ => []) :=
  by
    subst hl6
    refine FC.of (T := TTx) Try.call15 Try.func15 rfl rfl fun w0 => ?_
    unfold M_l_heldGrid at h
    refine JS.seq (JS.region (JO.regB ttOk 2 [] [2] [(2, .bp 2 0)] (.new 2 26 (cl26 x0 a3 c4) .nil) rfl ⟨⟨rfl, trivial⟩, ⟨rfl, rfl, rfl, rfl, trivial⟩⟩ (JO.done rfl (JS.seq (JS.region (JO.reg ttOk 3 [] [] [(6, .v (.slice a3 x0.2.2.1.length c4)), (7, .v (.int .i64 x1))] _ rfl ⟨⟨rfl, rfl, trivial⟩, rfl⟩ ?_))))))
    obtain ⟨y7, hy8, h⟩ := bindO_some h
    refine JO.call rfl rfl rfl rfl (ok_l_heldIntS x0.2.2.1 x1 a3 c4 x0.2.2.1.length rfl _ hy8) rfl [0] rfl rfl fun _ _ => JO.reg ttOk 1 [] [] [(1, .v (.int .i64 y7))] _ rfl ⟨⟨rfl, trivial⟩, rfl⟩ (JO.done rfl (JS.seq (JS.seq (JS.region (JO.reg ttOk 2 [] [] [(10, .v (.bool (decide (y7 < 0))))] _ rfl ⟨⟨rfl, trivial⟩, rfl⟩ (JO.done rfl ?_))))))
    refine JS.cond rfl (fun ht10 => ?_) (fun ht10 => ?_)
    · have h := condT h ht10
      refine JS.seq (JS.region (JO.reg ttOk 1 [] [] [(4, .v (.int .i64 (-1)))] _ rfl ⟨⟨rfl, trivial⟩, rfl⟩ (JO.done rfl ?_)))
      cases h
      exact JS.ret ttOk () trivial rfl rfl [] rfl
    have h := condF h ht10
    refine JS.skip (JS.seq (JS.region (JO.reg ttOk 2 [] [] [(4, .v (.int .i64 y7))] _ rfl ⟨⟨rfl, trivial⟩, rfl⟩ (JO.done rfl ?_))))
    cases h
    exact JS.ret ttOk () trivial rfl rfl [] rfl

def M_l_heldByteS_L1 (x0 : List UInt8) (j19 : Int → Option Int) (k13 : (Int × Int) → Option Int) : (Int × Int) → Option Int := fun (x7, x8) =>
  (bif (decide (x8 < (x0.length : Int))) then
  (guardO (0 ≤ x8 ∧ x8 < (x0.length : Int)) <|
  (bif (!(decide (((at' x0 x8).toNat : Int) = ((u8 (x7)).toNat : Int)))) then
  some (-1)
  else
  k13 ((W (x7 + 1)), (W (x8 + 1)))))
  else
  j19 x7)

def M_l_heldByteS (x0 : List UInt8) (x1 : Int) : Option Int :=
  (joinO (fun (x18 : Int) =>
  some x18) fun j19 =>
  (fixF (M_l_heldByteS_L1 x0 j19) FUEL (x1, 0)))

theorem ok_l_heldByteS (x0 : List UInt8) (x1 : Int) (a3 : Option Addr) (c4 : Nat) (l5 : Nat) (hl6 : x0.length = l5) (r : Int) (h : M_l_heldByteS x0 x1 = some r) :
    FC Try.prog 81 [.slice a3 l5 c4, .int .i64 x1] [⟨.byte, ⟨a3, l5, c4⟩, x0⟩] (fun _ : Unit => True) (fun _ => .int .i64 r) (fun _ => []) :=
  by
    subst hl6
    refine FC.of (T := TTx) Try.call81 Try.func81 rfl rfl fun w0 => ?_
    unfold M_l_heldByteS at h
    refine JS.seq (JS.region (JO.reg ttOk 1 [] [] [] _ rfl ⟨trivial, rfl⟩ (JO.done rfl (JS.seq (JS.seq (JS.region (JO.reg ttOk 1 [] [] [(5, .v (.int .i64 0))] _ rfl ⟨⟨rfl, trivial⟩, rfl⟩ (JO.done rfl ?_))))))))
    obtain ⟨j19, hj27, h⟩ := joinO_some h
    refine JS.blockJ (ι := Int) ⟨fun z => j19 z = some r, fun z => [(1, .v (.int .i64 z))], fun z => .nil, fun z => [], fun z => [], fun z => 0⟩ ?_ ?_
    · refine JS.loop (ι := Nat × Int × Int) ⟨fun z => fixF (M_l_heldByteS_L1 x0 j19) z.1 (z.2.1, z.2.2) = some r, fun z => [(0, .v (.slice a3 x0.length c4)), (1, .v (.int .i64 z.2.1)), (5, .v (.int .i64 z.2.2))], fun z => .nil, fun z => [⟨.byte, ⟨a3, x0.length, c4⟩, x0⟩], fun z => [], fun z => z.1⟩ (FUEL, x1, 0) h ⟨rfl, rfl, rfl, trivial⟩ trivial [0] rfl [] rfl ?_
      rintro ⟨n14, x7, x8⟩ h
      obtain ⟨n14, rfl, h⟩ := fixF_some h
      rw [M_l_heldByteS_L1] at h
      refine JS.seq (JS.seq (JS.region (JO.reg ttOk 4 [] [] [(9, .v (.bool (decide (x8 < (x0.length : Int)))))] _ rfl ⟨⟨rfl, trivial⟩, rfl⟩ (JO.done rfl ?_))))
      refine JS.cond rfl (fun ht26 => ?_) (fun ht26 => ?_)
      · have h := condT h ht26
        refine JS.skip (JS.seq (JS.block (JS.seq (JS.seq (JS.region (JO.know 0 rfl fun hs24 => ?_))))))
        obtain ⟨g10, h⟩ := guardO_some h
        refine JO.reg ttOk 3 [] [] [(14, .ep ⟨a3, x0.length, c4⟩ (Int.toNat x8 * 1))] _ rfl ⟨hs24.ix g10, ⟨rfl, trivial⟩, rfl⟩ (JO.load ttOk rfl rfl rfl rfl rfl rfl rfl 0 rfl rfl (Int.toNat x8) 0 (at' x0 x8) ⟨at_some g10, rfl⟩ rfl rfl (JO.reg ttOk 3 [((u8 (x7)).toNat : Int)] [] [(18, .v (.bool (!(decide (((at' x0 x8).toNat : Int) = ((u8 (x7)).toNat : Int))))))] _ rfl ⟨⟨trivial, u8_wrap _⟩, ⟨rfl, trivial⟩, rfl⟩ (JO.done rfl ?_)))
        refine JS.cond rfl (fun ht25 => ?_) (fun ht25 => ?_)
        · have h := condT h ht25
          refine JS.seq (JS.region (JO.reg ttOk 1 [] [] [(4, .v (.int .i64 (-1)))] _ rfl ⟨⟨rfl, trivial⟩, rfl⟩ (JO.done rfl ?_)))
          cases h
          exact JS.ret ttOk () trivial rfl rfl [] rfl
        have h := condF h ht25
        refine JS.skip (JS.region (JO.reg ttOk 3 [(W (x7 + 1))] [] [(1, .v (.int .i64 (W (x7 + 1))))] _ rfl ⟨⟨trivial, rfl⟩, ⟨rfl, trivial⟩, rfl⟩ (JO.done rfl (JS.endB (JS.region (JO.reg ttOk 3 [(W (x8 + 1))] [] [(5, .v (.int .i64 (W (x8 + 1))))] _ rfl ⟨⟨trivial, rfl⟩, ⟨rfl, trivial⟩, rfl⟩ (JO.done rfl (JS.endL (n14, (W (x7 + 1)), (W (x8 + 1))) h (Nat.lt_succ_self _) ⟨rfl, rfl, rfl, trivial⟩ trivial [0] rfl [] rfl))))))))
      have h := condF h ht26
      refine JS.exit rfl (JS.endJ x7 h ⟨rfl, trivial⟩ trivial [] rfl [] rfl)
    rintro x18 h
    subst hj27
    refine JS.seq (JS.region (JO.reg ttOk 2 [] [] [(4, .v (.int .i64 x18))] _ rfl ⟨⟨rfl, trivial⟩, rfl⟩ (JO.done rfl ?_)))
    cases h
    exact JS.ret ttOk () trivial rfl rfl [] rfl

def M_l_heldVt (x0 : (Int × Int × List Int × Int × Int × Bool) × Int × List Int × List UInt8 × Int) (x1 : Int) : Option Int :=
  (bindO (M_l_heldGrid x0.1 x1) fun (y15 : Int) =>
  (bif (decide (y15 < 0)) then
  some (-1)
  else
  (bindO (M_l_heldIntS x0.2.2.1 y15) fun (y17 : Int) =>
  (bif (decide (y17 < 0)) then
  some (-1)
  else
  (bindO (M_l_heldByteS x0.2.2.2.1 y17) fun (y19 : Int) =>
  (bif (decide (y19 < 0)) then
  some (-1)
  else
  some y19))))))

theorem ok_l_heldVt (x0 : (Int × Int × List Int × Int × Int × Bool) × Int × List Int × List UInt8 × Int) (x1 : Int) (a3 : Option Addr) (c4 : Nat) (l5 : Nat) (hl6 : x0.1.2.2.1.length = l5) (a7 : Option Addr) (c8 : Nat) (l9 : Nat) (hl10 : x0.2.2.1.length = l9) (a11 : Option Addr) (c12 : Nat) (l13 : Nat) (hl14 : x0.2.2.2.1.length = l13) (r : Int) (h : M_l_heldVt x0 x1 = some r) :
    FC Try.prog 39 [.agg #[.int .i64 x0.1.1, .int .i64 x0.1.2.1, .slice a3 l5 c4, .int .i64 x0.1.2.2.2.1, .int .i64 x0.1.2.2.2.2.1, .bool x0.1.2.2.2.2.2, .int .i64 x0.2.1, .slice a7 l9 c8, .slice a11 l13 c12, .int .i64 x0.2.2.2.2], .int .i64 x1] [⟨(.int .i64), ⟨a3, l5, c4⟩, x0.1.2.2.1⟩, ⟨(.int .i64), ⟨a7, l9, c8⟩, x0.2.2.1⟩, ⟨.byte, ⟨a11, l13, c12⟩, x0.2.2.2.1⟩] (fun _ : Unit => True) (fun _ => .int .i64 r) (fun _ => []) :=
  by
    subst hl6
    subst hl10
    subst hl14
    refine FC.of (T := TTx) Try.call39 Try.func39 rfl rfl fun w0 => ?_
    unfold M_l_heldVt at h
    refine JS.seq (JS.region (JO.regB ttOk 2 [] [4] [(2, .bp 4 0)] (.new 4 45 (cl45 x0 a3 c4 a7 c8 a11 c12) .nil) rfl ⟨⟨rfl, trivial⟩, ⟨rfl, rfl, rfl, rfl, trivial⟩⟩ (JO.done rfl (JS.seq (JS.region (JO.reg ttOk 3 [] [] [(6, .v (.agg (cl26 x0.1 a3 c4).toArray)), (7, .v (.int .i64 x1))] _ rfl ⟨⟨rfl, rfl, trivial⟩, rfl⟩ ?_))))))
    obtain ⟨y15, hy16, h⟩ := bindO_some h
    refine JO.call rfl rfl rfl rfl (ok_l_heldGrid x0.1 x1 a3 c4 x0.1.2.2.1.length rfl _ hy16) rfl [0] rfl rfl fun _ _ => JO.reg ttOk 1 [] [] [(1, .v (.int .i64 y15))] _ rfl ⟨⟨rfl, trivial⟩, rfl⟩ (JO.done rfl (JS.seq (JS.seq (JS.region (JO.reg ttOk 2 [] [] [(10, .v (.bool (decide (y15 < 0))))] _ rfl ⟨⟨rfl, trivial⟩, rfl⟩ (JO.done rfl ?_))))))
    refine JS.cond rfl (fun ht26 => ?_) (fun ht26 => ?_)
    · have h := condT h ht26
      refine JS.seq (JS.region (JO.reg ttOk 1 [] [] [(4, .v (.int .i64 (-1)))] _ rfl ⟨⟨rfl, trivial⟩, rfl⟩ (JO.done rfl ?_)))
      cases h
      exact JS.ret ttOk () trivial rfl rfl [] rfl
    have h := condF h ht26
    refine JS.skip (JS.seq (JS.region (JO.reg ttOk 3 [] [] [(12, .v (.slice a7 x0.2.2.1.length c8)), (13, .v (.int .i64 y15))] _ rfl ⟨⟨rfl, rfl, trivial⟩, rfl⟩ ?_)))
    obtain ⟨y17, hy18, h⟩ := bindO_some h
    refine JO.call rfl rfl rfl rfl (ok_l_heldIntS x0.2.2.1 y15 a7 c8 x0.2.2.1.length rfl _ hy18) rfl [1] rfl rfl fun _ _ => JO.reg ttOk 1 [] [] [(1, .v (.int .i64 y17))] _ rfl ⟨⟨rfl, trivial⟩, rfl⟩ (JO.done rfl (JS.seq (JS.seq (JS.region (JO.reg ttOk 2 [] [] [(16, .v (.bool (decide (y17 < 0))))] _ rfl ⟨⟨rfl, trivial⟩, rfl⟩ (JO.done rfl ?_))))))
    refine JS.cond rfl (fun ht25 => ?_) (fun ht25 => ?_)
    · have h := condT h ht25
      refine JS.seq (JS.region (JO.reg ttOk 1 [] [] [(4, .v (.int .i64 (-1)))] _ rfl ⟨⟨rfl, trivial⟩, rfl⟩ (JO.done rfl ?_)))
      cases h
      exact JS.ret ttOk () trivial rfl rfl [] rfl
    have h := condF h ht25
    refine JS.skip (JS.seq (JS.region (JO.reg ttOk 3 [] [] [(18, .v (.slice a11 x0.2.2.2.1.length c12)), (19, .v (.int .i64 y17))] _ rfl ⟨⟨rfl, rfl, trivial⟩, rfl⟩ ?_)))
    obtain ⟨y19, hy20, h⟩ := bindO_some h
    refine JO.call rfl rfl rfl rfl (ok_l_heldByteS x0.2.2.2.1 y17 a11 c12 x0.2.2.2.1.length rfl _ hy20) rfl [2] rfl rfl fun _ _ => JO.reg ttOk 1 [] [] [(1, .v (.int .i64 y19))] _ rfl ⟨⟨rfl, trivial⟩, rfl⟩ (JO.done rfl (JS.seq (JS.seq (JS.region (JO.reg ttOk 2 [] [] [(22, .v (.bool (decide (y19 < 0))))] _ rfl ⟨⟨rfl, trivial⟩, rfl⟩ (JO.done rfl ?_))))))
    refine JS.cond rfl (fun ht24 => ?_) (fun ht24 => ?_)
    · have h := condT h ht24
      refine JS.seq (JS.region (JO.reg ttOk 1 [] [] [(4, .v (.int .i64 (-1)))] _ rfl ⟨⟨rfl, trivial⟩, rfl⟩ (JO.done rfl ?_)))
      cases h
      exact JS.ret ttOk () trivial rfl rfl [] rfl
    have h := condF h ht24
    refine JS.skip (JS.seq (JS.region (JO.reg ttOk 2 [] [] [(4, .v (.int .i64 y19))] _ rfl ⟨⟨rfl, trivial⟩, rfl⟩ (JO.done rfl ?_))))
    cases h
    exact JS.ret ttOk () trivial rfl rfl [] rfl

def M_l_FnExactVtByte (x0 : (Int × Int × List Int × Int × Int × Bool) × Int × List Int × List UInt8 × Int) (x1 : Int) : Option Bool :=
  (bindO (M_l_szVt x0 1048576) fun (y15 : Int) =>
  (bif (decide (y15 < 0)) then
  some true
  else
  (bindO (M_l_toVt x0) fun (y17 : (Int × Int × List Int × Int × Int × Bool) × Int × List Int × List UInt8 × Int) =>
  (bindO (M_s_VtByte y17 x1) fun (y25 : (Int × Int × List Int × Int × Int × Bool) × Int × List Int × List UInt8 × Int) =>
  (bindO (M_l_toVt x0) fun (y33 : (Int × Int × List Int × Int × Int × Bool) × Int × List Int × List UInt8 × Int) =>
  (bindO (M_i_VtByte y33 x1) fun (y41 : (Int × Int × List Int × Int × Int × Bool) × Int × List Int × List UInt8 × Int) =>
  (bindO (M_l_eqVt y41 y25) fun (y49 : Bool) =>
  (bif (!y49) then
  some false
  else
  (bindO (M_l_toVt x0) fun (y51 : (Int × Int × List Int × Int × Int × Bool) × Int × List Int × List UInt8 × Int) =>
  (bindO (M_l_eqVt y33 y51) fun (y59 : Bool) =>
  (bif (!y59) then
  some false
  else
  (bindO (M_l_markVt y33 1) fun (y62, y63, y64, y65) =>
  (callO ((decide (y62 < 0)) = false) (M_l_eqVt y41 y25) false fun (y70 : Bool) =>
  (bif (bif (decide (y62 < 0)) then true else (!y70)) then
  some false
  else
  (bindO (M_l_markVt y41 1) fun (y73, y74, y75, y76) =>
  (bindO (M_l_heldVt ((y41.1.1, y41.1.2.1, y74, y41.1.2.2.2.1, y41.1.2.2.2.2.1, y41.1.2.2.2.2.2), y41.2.1, y75, y76, y41.2.2.2.2) 1) fun (y81 : Int) =>
  (bif (decide (y81 < 0)) then
  some false
  else
  (bif (!(decide (y81 = y73))) then
  some false
  else
  (bindO (M_l_toVt x0) fun (y83 : (Int × Int × List Int × Int × Int × Bool) × Int × List Int × List UInt8 × Int) =>
  (bindO (M_i_VtByte y83 x1) fun (y91 : (Int × Int × List Int × Int × Int × Bool) × Int × List Int × List UInt8 × Int) =>
  (bindO (M_l_eqVt y91 y25) fun (y99 : Bool) =>
  (bif (!y99) then
  some false
  else
  (bindO (M_l_heldVt ((y41.1.1, y41.1.2.1, y74, y41.1.2.2.2.1, y41.1.2.2.2.2.1, y41.1.2.2.2.2.2), y41.2.1, y75, y76, y41.2.2.2.2) 1) fun (y101 : Int) =>
  (bif (decide (y101 < 0)) then
  some false
  else
  (bif (!(decide (y101 = y73))) then
  some false
  else
  some true)))))))))))))))))))))))))

theorem ok_l_FnExactVtByte (x0 : (Int × Int × List Int × Int × Int × Bool) × Int × List Int × List UInt8 × Int) (x1 : Int) (a3 : Option Addr) (c4 : Nat) (l5 : Nat) (hl6 : x0.1.2.2.1.length = l5) (a7 : Option Addr) (c8 : Nat) (l9 : Nat) (hl10 : x0.2.2.1.length = l9) (a11 : Option Addr) (c12 : Nat) (l13 : Nat) (hl14 : x0.2.2.2.1.length = l13) (r : Bool) (h : M_l_FnExactVtByte x0 x1 = some r) :
    FC Try.prog 7 [.agg #[.int .i64 x0.1.1, .int .i64 x0.1.2.1, .slice a3 l5 c4, .int .i64 x0.1.2.2.2.1, .int .i64 x0.1.2.2.2.2.1, .bool x0.1.2.2.2.2.2, .int .i64 x0.2.1, .slice a7 l9 c8, .slice a11 l13 c12, .int .i64 x0.2.2.2.2], .int .i64 x1] [⟨(.int .i64), ⟨a3, l5, c4⟩, x0.1.2.2.1⟩, ⟨(.int .i64), ⟨a7, l9, c8⟩, x0.2.2.1⟩, ⟨.byte, ⟨a11, l13, c12⟩, x0.2.2.2.1⟩] (fun _ : Unit => True) (fun _ => .bool r) (fun _ => []) :=
  by
    subst hl6
    subst hl10
    subst hl14
    refine FC.of (T := TTx) Try.call7 Try.func7 rfl rfl fun w0 => ?_
    unfold M_l_FnExactVtByte at h
    refine JS.seq (JS.region (JO.regB ttOk 2 [] [4] [(2, .bp 4 0)] (.new 4 54 (cl54 x0 a3 c4 a7 c8 a11 c12) .nil) rfl ⟨⟨rfl, trivial⟩, ⟨rfl, rfl, rfl, rfl, trivial⟩⟩ (JO.done rfl (JS.seq (JS.region (JO.reg ttOk 1 [] [] [(5, .v (.int .i64 1048576))] _ rfl ⟨⟨rfl, trivial⟩, rfl⟩ (JO.done rfl (JS.seq (JS.region (JO.reg ttOk 2 [] [] [(13, .v (.agg (cl54 x0 a3 c4 a7 c8 a11 c12).toArray)), (14, .v (.int .i64 1048576))] _ rfl ⟨⟨rfl, rfl, trivial⟩, rfl⟩ ?_))))))))))
    obtain ⟨y15, hy16, h⟩ := bindO_some h
    refine JO.call rfl rfl rfl rfl (ok_l_szVt x0 1048576 a3 c4 x0.1.2.2.1.length rfl a7 c8 x0.2.2.1.length rfl a11 c12 x0.2.2.2.1.length rfl _ hy16) rfl [0, 1, 2] rfl rfl fun _ _ => JO.reg ttOk 1 [] [] [(5, .v (.int .i64 y15))] _ rfl ⟨⟨rfl, trivial⟩, rfl⟩ (JO.done rfl (JS.seq (JS.seq (JS.region (JO.reg ttOk 2 [] [] [(17, .v (.bool (decide (y15 < 0))))] _ rfl ⟨⟨rfl, trivial⟩, rfl⟩ (JO.done rfl ?_))))))
    refine JS.cond rfl (fun ht121 => ?_) (fun ht121 => ?_)
    · have h := condT h ht121
      refine JS.seq (JS.region (JO.reg ttOk 1 [] [] [(4, .v (.bool true))] _ rfl ⟨⟨rfl, trivial⟩, rfl⟩ (JO.done rfl ?_)))
      cases h
      exact JS.ret ttOk () trivial rfl rfl [] rfl
    have h := condF h ht121
    refine JS.skip (JS.seq (JS.region (JO.reg ttOk 1 [] [] [(18, .v (.agg (cl54 x0 a3 c4 a7 c8 a11 c12).toArray))] _ rfl ⟨⟨rfl, trivial⟩, rfl⟩ ?_)))
    obtain ⟨y17, hy18, h⟩ := bindO_some h
    refine JO.call rfl rfl rfl rfl (ok_l_toVt x0 a3 c4 x0.1.2.2.1.length rfl a7 c8 x0.2.2.1.length rfl a11 c12 x0.2.2.2.1.length rfl _ hy18) rfl [0, 1, 2] rfl rfl ?_
    rintro ⟨a19, c20, a21, c22, a23, c24⟩ -
    refine JO.reg ttOk 1 [] [] [(20, .v (.int .i64 x1))] _ rfl ⟨⟨rfl, trivial⟩, rfl⟩ ?_
    obtain ⟨y25, hy26, h⟩ := bindO_some h
    refine JO.call rfl rfl rfl rfl (ok_s_VtByte y17 x1 a19 c20 y17.1.2.2.1.length rfl a21 c22 y17.2.2.1.length rfl a23 c24 y17.2.2.2.1.length rfl _ hy26) rfl [3, 4, 5] rfl rfl ?_
    rintro ⟨a27, c28, a29, c30, a31, c32⟩ -
    refine JO.regB ttOk 2 [] [29] [(6, .bp 29 0)] (.new 4 54 (cl54 x0 a3 c4 a7 c8 a11 c12) (.new 29 45 (cl45 y25 a27 c28 a29 c30 a31 c32) .nil)) rfl ⟨⟨rfl, trivial⟩, ⟨rfl, rfl, rfl, rfl, rfl, rfl, rfl, rfl, trivial⟩⟩ (JO.done rfl (JS.seq (JS.region (JO.reg ttOk 1 [] [] [(22, .v (.agg (cl54 x0 a3 c4 a7 c8 a11 c12).toArray))] _ rfl ⟨⟨rfl, trivial⟩, rfl⟩ ?_))))
    obtain ⟨y33, hy34, h⟩ := bindO_some h
    refine JO.call rfl rfl rfl rfl (ok_l_toVt x0 a3 c4 x0.1.2.2.1.length rfl a7 c8 x0.2.2.1.length rfl a11 c12 x0.2.2.2.1.length rfl _ hy34) rfl [0, 1, 2] rfl rfl ?_
    rintro ⟨a35, c36, a37, c38, a39, c40⟩ -
    refine JO.regB ttOk 2 [] [41] [(7, .bp 41 0)] (.new 4 54 (cl54 x0 a3 c4 a7 c8 a11 c12) (.new 29 45 (cl45 y25 a27 c28 a29 c30 a31 c32) (.new 41 45 (cl45 y33 a35 c36 a37 c38 a39 c40) .nil))) rfl ⟨⟨rfl, trivial⟩, ⟨rfl, rfl, rfl, rfl, rfl, rfl, rfl, rfl, rfl, rfl, rfl, rfl, trivial⟩⟩ (JO.done rfl (JS.seq (JS.region (JO.reg ttOk 2 [] [] [(24, .v (.agg (cl45 y33 a35 c36 a37 c38 a39 c40).toArray)), (25, .v (.int .i64 x1))] _ rfl ⟨⟨rfl, rfl, trivial⟩, rfl⟩ ?_))))
    obtain ⟨y41, hy42, h⟩ := bindO_some h
    refine JO.call rfl rfl rfl rfl (ok_i_VtByte y33 x1 a35 c36 y33.1.2.2.1.length rfl a37 c38 y33.2.2.1.length rfl a39 c40 y33.2.2.2.1.length rfl _ hy42) rfl [3, 4, 5] rfl rfl ?_
    rintro ⟨a43, c44, a45, c46, a47, c48⟩ -
    refine JO.regB ttOk 2 [] [53] [(8, .bp 53 0)] (.new 4 54 (cl54 x0 a3 c4 a7 c8 a11 c12) (.new 29 45 (cl45 y25 a27 c28 a29 c30 a31 c32) (.new 41 45 (cl45 y33 a35 c36 a37 c38 a39 c40) (.new 53 45 (cl45 y41 a43 c44 a45 c46 a47 c48) .nil)))) rfl ⟨⟨rfl, trivial⟩, ⟨rfl, rfl, rfl, rfl, rfl, rfl, rfl, rfl, rfl, rfl, rfl, rfl, rfl, rfl, rfl, rfl, trivial⟩⟩ (JO.done rfl (JS.seq (JS.seq (JS.norm [true, true, true, true, true, true, true, true, true, false, false, false] [⟨(.int .i64), ⟨a3, x0.1.2.2.1.length, c4⟩, x0.1.2.2.1⟩, ⟨(.int .i64), ⟨a7, x0.2.2.1.length, c8⟩, x0.2.2.1⟩, ⟨.byte, ⟨a11, x0.2.2.2.1.length, c12⟩, x0.2.2.2.1⟩] [⟨(.int .i64), ⟨a43, y41.1.2.2.1.length, c44⟩, y41.1.2.2.1⟩, ⟨(.int .i64), ⟨a45, y41.2.2.1.length, c46⟩, y41.2.2.1⟩, ⟨.byte, ⟨a47, y41.2.2.2.1.length, c48⟩, y41.2.2.2.1⟩, ⟨(.int .i64), ⟨a35, y33.1.2.2.1.length, c36⟩, y33.1.2.2.1⟩, ⟨(.int .i64), ⟨a37, y33.2.2.1.length, c38⟩, y33.2.2.1⟩, ⟨.byte, ⟨a39, y33.2.2.2.1.length, c40⟩, y33.2.2.2.1⟩, ⟨(.int .i64), ⟨a27, y25.1.2.2.1.length, c28⟩, y25.1.2.2.1⟩, ⟨(.int .i64), ⟨a29, y25.2.2.1.length, c30⟩, y25.2.2.1⟩, ⟨.byte, ⟨a31, y25.2.2.2.1.length, c32⟩, y25.2.2.2.1⟩] rfl rfl (JS.region (JO.reg ttOk 2 [] [] [(27, .v (.agg (cl45 y41 a43 c44 a45 c46 a47 c48).toArray)), (28, .v (.agg (cl45 y25 a27 c28 a29 c30 a31 c32).toArray))] _ rfl ⟨⟨rfl, rfl, trivial⟩, rfl⟩ ?_))))))
    obtain ⟨y49, hy50, h⟩ := bindO_some h
    refine JO.call rfl rfl rfl rfl (ok_l_eqVt y41 y25 a43 c44 y41.1.2.2.1.length rfl a45 c46 y41.2.2.1.length rfl a47 c48 y41.2.2.2.1.length rfl a27 c28 y25.1.2.2.1.length rfl a29 c30 y25.2.2.1.length rfl a31 c32 y25.2.2.2.1.length rfl _ hy50) rfl [3, 4, 5, 9, 10, 11] rfl rfl fun _ _ => JO.reg ttOk 1 [] [] [(30, .v (.bool (!y49)))] _ rfl ⟨⟨rfl, trivial⟩, rfl⟩ (JO.done rfl ?_)
    refine JS.cond rfl (fun ht120 => ?_) (fun ht120 => ?_)
    · have h := condT h ht120
      refine JS.seq (JS.region (JO.reg ttOk 1 [] [] [(4, .v (.bool false))] _ rfl ⟨⟨rfl, trivial⟩, rfl⟩ (JO.done rfl ?_)))
      cases h
      exact JS.ret ttOk () trivial rfl rfl [] rfl
    have h := condF h ht120
    refine JS.skip (JS.seq (JS.seq ?_))
    obtain ⟨y51, hy52, h⟩ := bindO_some h
    obtain ⟨y59, hy60, h⟩ := bindO_some h
    refine JS.regionA rfl (.new 4 54 (cl54 x0 a3 c4 a7 c8 a11 c12) (.new 41 45 (cl45 y33 a35 c36 a37 c38 a39 c40) .nil)) [] [3, 4] ⟨rfl, rfl, rfl, rfl, rfl, rfl, rfl, rfl, trivial⟩ rfl (fun be61 => ?_)
    refine JA.reg ttOk panic_cx true 3 [0, 1] rfl (by kernel_rfl) [] [(31, .v (.agg (cl45 y33 a35 c36 a37 c38 a39 c40).toArray)), (32, .v (.agg (cl54 x0 a3 c4 a7 c8 a11 c12).toArray))] ⟨rfl, rfl, rfl, rfl, rfl, rfl, rfl, rfl, trivial⟩ [] rfl rfl ⟨rfl, rfl, trivial⟩ (JA.one 2 (by kernel_rfl) (JK.call rfl rfl rfl rfl (ok_l_toVt x0 a3 c4 x0.1.2.2.1.length rfl a7 c8 x0.2.2.1.length rfl a11 c12 x0.2.2.2.1.length rfl _ hy52) rfl [0, 1, 2] rfl rfl ?_))
    rintro ⟨a53, c54, a55, c56, a57, c58⟩ -
    refine JA.next ⟨rfl, rfl, rfl, rfl, rfl, rfl, rfl, rfl, trivial⟩ [] rfl (JA.one 3 (by kernel_rfl) (JK.call rfl rfl rfl rfl (ok_l_eqVt y33 y51 a35 c36 y33.1.2.2.1.length rfl a37 c38 y33.2.2.1.length rfl a39 c40 y33.2.2.2.1.length rfl a53 c54 y51.1.2.2.1.length rfl a55 c56 y51.2.2.1.length rfl a57 c58 y51.2.2.2.1.length rfl _ hy60) rfl [9, 10, 11, 3, 4, 5] rfl rfl fun _ _ => JA.nextL rfl (JA.regL ttOk panic_cx 0 [4] rfl (by kernel_rfl) [] [(35, .v (.bool (!y59)))] rfl ⟨rfl, trivial⟩ (JA.done (by kernel_rfl) (JS.boxes (B' := (.new 4 54 (cl54 x0 a3 c4 a7 c8 a11 c12) (.new 29 45 (cl45 y25 a27 c28 a29 c30 a31 c32) (.new 41 45 (cl45 y33 a35 c36 a37 c38 a39 c40) (.new 53 45 (cl45 y41 a43 c44 a45 c46 a47 c48) .nil))))) ⟨rfl, rfl, rfl, rfl, rfl, rfl, rfl, rfl, rfl, rfl, rfl, rfl, rfl, rfl, rfl, rfl, trivial⟩ ?_)))))
    refine JS.cond rfl (fun ht119 => ?_) (fun ht119 => ?_)
    · have h := condT h ht119
      refine JS.seq (JS.norm [false, false, false, true, true, true, true, true, true, true, true, true] [⟨(.int .i64), ⟨a3, x0.1.2.2.1.length, c4⟩, x0.1.2.2.1⟩, ⟨(.int .i64), ⟨a7, x0.2.2.1.length, c8⟩, x0.2.2.1⟩, ⟨.byte, ⟨a11, x0.2.2.2.1.length, c12⟩, x0.2.2.2.1⟩] [⟨(.int .i64), ⟨a43, y41.1.2.2.1.length, c44⟩, y41.1.2.2.1⟩, ⟨(.int .i64), ⟨a45, y41.2.2.1.length, c46⟩, y41.2.2.1⟩, ⟨.byte, ⟨a47, y41.2.2.2.1.length, c48⟩, y41.2.2.2.1⟩, ⟨(.int .i64), ⟨a35, y33.1.2.2.1.length, c36⟩, y33.1.2.2.1⟩, ⟨(.int .i64), ⟨a37, y33.2.2.1.length, c38⟩, y33.2.2.1⟩, ⟨.byte, ⟨a39, y33.2.2.2.1.length, c40⟩, y33.2.2.2.1⟩, ⟨(.int .i64), ⟨a27, y25.1.2.2.1.length, c28⟩, y25.1.2.2.1⟩, ⟨(.int .i64), ⟨a29, y25.2.2.1.length, c30⟩, y25.2.2.1⟩, ⟨.byte, ⟨a31, y25.2.2.2.1.length, c32⟩, y25.2.2.2.1⟩] rfl rfl (JS.region (JO.reg ttOk 1 [] [] [(4, .v (.bool false))] _ rfl ⟨⟨rfl, trivial⟩, rfl⟩ (JO.done rfl ?_))))
      cases h
      exact JS.ret ttOk () trivial rfl rfl [] rfl
    have h := condF h ht119
    refine JS.skip (JS.seq (JS.norm [false, false, false, true, true, true, true, true, true, true, true, true] [⟨(.int .i64), ⟨a3, x0.1.2.2.1.length, c4⟩, x0.1.2.2.1⟩, ⟨(.int .i64), ⟨a7, x0.2.2.1.length, c8⟩, x0.2.2.1⟩, ⟨.byte, ⟨a11, x0.2.2.2.1.length, c12⟩, x0.2.2.2.1⟩] [⟨(.int .i64), ⟨a43, y41.1.2.2.1.length, c44⟩, y41.1.2.2.1⟩, ⟨(.int .i64), ⟨a45, y41.2.2.1.length, c46⟩, y41.2.2.1⟩, ⟨.byte, ⟨a47, y41.2.2.2.1.length, c48⟩, y41.2.2.2.1⟩, ⟨(.int .i64), ⟨a35, y33.1.2.2.1.length, c36⟩, y33.1.2.2.1⟩, ⟨(.int .i64), ⟨a37, y33.2.2.1.length, c38⟩, y33.2.2.1⟩, ⟨.byte, ⟨a39, y33.2.2.2.1.length, c40⟩, y33.2.2.2.1⟩, ⟨(.int .i64), ⟨a27, y25.1.2.2.1.length, c28⟩, y25.1.2.2.1⟩, ⟨(.int .i64), ⟨a29, y25.2.2.1.length, c30⟩, y25.2.2.1⟩, ⟨.byte, ⟨a31, y25.2.2.2.1.length, c32⟩, y25.2.2.2.1⟩] rfl rfl (JS.region (JO.reg ttOk 1 [] [] [(9, .v (.int .i64 1))] _ rfl ⟨⟨rfl, trivial⟩, rfl⟩ (JO.done rfl (JS.seq (JS.region (JO.reg ttOk 2 [] [] [(36, .v (.agg (cl45 y33 a35 c36 a37 c38 a39 c40).toArray)), (37, .v (.int .i64 1))] _ rfl ⟨⟨rfl, rfl, trivial⟩, rfl⟩ ?_))))))))
    obtain ⟨⟨y62, y63, y64, y65⟩, hy66, h⟩ := bindO_some h
    refine JO.callX rfl rfl rfl rfl (ok_l_markVt y33 1 a35 c36 y33.1.2.2.1.length rfl a37 c38 y33.2.2.1.length rfl a39 c40 y33.2.2.2.1.length rfl _ hy66) rfl [3, 3, 3] rfl [] rfl rfl fun _ _ => JO.know 3 rfl fun hs67 => JO.know 4 rfl fun hs68 => JO.know 5 rfl fun hs69 => JO.reg ttOk 1 [] [] [(9, .v (.int .i64 y62))] _ rfl ⟨⟨rfl, trivial⟩, rfl⟩ (JO.done rfl (JS.seq (JS.seq (JS.region (JO.reg ttOk 5 [] [] [(41, .v (.bool (decide (y62 < 0)))), (42, .cd [(41, false)] (.v (.agg (cl45 y41 a43 c44 a45 c46 a47 c48).toArray))), (43, .cd [(41, false)] (.v (.agg (cl45 y25 a27 c28 a29 c30 a31 c32).toArray)))] _ rfl ⟨⟨rfl, rfl, rfl, trivial⟩, rfl⟩ ?_)))))
    obtain ⟨y70, hy71, -, h⟩ := callO_some h
    refine JO.callg rfl rfl rfl rfl (fun q112 => ok_l_eqVt y41 y25 a43 c44 y41.1.2.2.1.length rfl a45 c46 y41.2.2.1.length rfl a47 c48 y41.2.2.2.1.length rfl a27 c28 y25.1.2.2.1.length rfl a29 c30 y25.2.2.1.length rfl a31 c32 y25.2.2.2.1.length rfl _ (hy71 q112)) rfl [6, 7, 8, 9, 10, 11] rfl rfl (JO.reg ttOk 2 [] [] [(46, .v (.bool (bif (decide (y62 < 0)) then true else (!y70))))] _ rfl ⟨⟨rfl, trivial⟩, rfl⟩ (JO.done rfl ?_))
    refine JS.cond rfl (fun ht118 => ?_) (fun ht118 => ?_)
    · have h := condT h ht118
      refine JS.seq (JS.region (JO.reg ttOk 1 [] [] [(4, .v (.bool false))] _ rfl ⟨⟨rfl, trivial⟩, rfl⟩ (JO.done rfl ?_)))
      cases h
      exact JS.ret ttOk () trivial rfl rfl [] rfl
    have h := condF h ht118
    refine JS.skip (JS.seq (JS.region (JO.reg ttOk 1 [] [] [(10, .v (.int .i64 1))] _ rfl ⟨⟨rfl, trivial⟩, rfl⟩ (JO.done rfl (JS.seq (JS.region (JO.reg ttOk 2 [] [] [(47, .v (.agg (cl45 y41 a43 c44 a45 c46 a47 c48).toArray)), (48, .v (.int .i64 1))] _ rfl ⟨⟨rfl, rfl, trivial⟩, rfl⟩ ?_)))))))
    obtain ⟨⟨y73, y74, y75, y76⟩, hy77, h⟩ := bindO_some h
    refine JO.callX rfl rfl rfl rfl (ok_l_markVt y41 1 a43 c44 y41.1.2.2.1.length rfl a45 c46 y41.2.2.1.length rfl a47 c48 y41.2.2.2.1.length rfl _ hy77) rfl [3, 3, 3] rfl [] rfl rfl fun _ _ => JO.know 3 rfl fun hs78 => JO.know 4 rfl fun hs79 => JO.know 5 rfl fun hs80 => JO.reg ttOk 1 [] [] [(10, .v (.int .i64 y73))] _ rfl ⟨⟨rfl, trivial⟩, rfl⟩ (JO.done rfl (JS.seq (JS.region (JO.reg ttOk 1 [] [] [(11, .v (.int .i64 1))] _ rfl ⟨⟨rfl, trivial⟩, rfl⟩ (JO.done rfl (JS.seq (JS.region (JO.reg ttOk 2 [] [] [(50, .v (.agg (cl45 y41 a43 c44 a45 c46 a47 c48).toArray)), (51, .v (.int .i64 1))] _ rfl ⟨⟨rfl, rfl, trivial⟩, rfl⟩ ?_))))))))
    obtain ⟨y81, hy82, h⟩ := bindO_some h
    refine JO.call rfl rfl rfl rfl (ok_l_heldVt ((y41.1.1, y41.1.2.1, y74, y41.1.2.2.2.1, y41.1.2.2.2.2.1, y41.1.2.2.2.2.2), y41.2.1, y75, y76, y41.2.2.2.2) 1 a43 c44 y41.1.2.2.1.length hs78.len.symm a45 c46 y41.2.2.1.length hs79.len.symm a47 c48 y41.2.2.2.1.length hs80.len.symm _ hy82) rfl [3, 4, 5] rfl rfl fun _ _ => JO.reg ttOk 1 [] [] [(11, .v (.int .i64 y81))] _ rfl ⟨⟨rfl, trivial⟩, rfl⟩ (JO.done rfl (JS.seq (JS.seq (JS.region (JO.reg ttOk 2 [] [] [(54, .v (.bool (decide (y81 < 0))))] _ rfl ⟨⟨rfl, trivial⟩, rfl⟩ (JO.done rfl ?_))))))
    refine JS.cond rfl (fun ht117 => ?_) (fun ht117 => ?_)
    · have h := condT h ht117
      refine JS.seq (JS.region (JO.reg ttOk 1 [] [] [(4, .v (.bool false))] _ rfl ⟨⟨rfl, trivial⟩, rfl⟩ (JO.done rfl ?_)))
      cases h
      exact JS.ret ttOk () trivial rfl rfl [] rfl
    have h := condF h ht117
    refine JS.skip (JS.seq (JS.seq (JS.region (JO.reg ttOk 3 [] [] [(57, .v (.bool (!(decide (y81 = y73)))))] _ rfl ⟨⟨rfl, trivial⟩, rfl⟩ (JO.done rfl ?_)))))
    refine JS.cond rfl (fun ht116 => ?_) (fun ht116 => ?_)
    · have h := condT h ht116
      refine JS.seq (JS.region (JO.reg ttOk 1 [] [] [(4, .v (.bool false))] _ rfl ⟨⟨rfl, trivial⟩, rfl⟩ (JO.done rfl ?_)))
      cases h
      exact JS.ret ttOk () trivial rfl rfl [] rfl
    have h := condF h ht116
    refine JS.skip (JS.seq (JS.region (JO.reg ttOk 1 [] [] [(58, .v (.agg (cl54 x0 a3 c4 a7 c8 a11 c12).toArray))] _ rfl ⟨⟨rfl, trivial⟩, rfl⟩ ?_)))
    obtain ⟨y83, hy84, h⟩ := bindO_some h
    refine JO.call rfl rfl rfl rfl (ok_l_toVt x0 a3 c4 x0.1.2.2.1.length rfl a7 c8 x0.2.2.1.length rfl a11 c12 x0.2.2.2.1.length rfl _ hy84) rfl [0, 1, 2] rfl rfl ?_
    rintro ⟨a85, c86, a87, c88, a89, c90⟩ -
    refine JO.reg ttOk 1 [] [] [(60, .v (.int .i64 x1))] _ rfl ⟨⟨rfl, trivial⟩, rfl⟩ ?_
    obtain ⟨y91, hy92, h⟩ := bindO_some h
    refine JO.call rfl rfl rfl rfl (ok_i_VtByte y83 x1 a85 c86 y83.1.2.2.1.length rfl a87 c88 y83.2.2.1.length rfl a89 c90 y83.2.2.2.1.length rfl _ hy92) rfl [3, 4, 5] rfl rfl ?_
    rintro ⟨a93, c94, a95, c96, a97, c98⟩ -
    refine JO.regB ttOk 2 [] [112] [(12, .bp 112 0)] (.new 29 45 (cl45 y25 a27 c28 a29 c30 a31 c32) (.new 53 45 (cl45 y41 a43 c44 a45 c46 a47 c48) (.new 112 45 (cl45 y91 a93 c94 a95 c96 a97 c98) .nil))) rfl ⟨⟨rfl, trivial⟩, ⟨rfl, rfl, rfl, rfl, rfl, rfl, rfl, rfl, rfl, rfl, rfl, rfl, trivial⟩⟩ (JO.done rfl (JS.seq (JS.seq (JS.norm [true, true, true, false, false, false, true, true, true, false, false, false, true, true, true] [⟨(.int .i64), ⟨a3, x0.1.2.2.1.length, c4⟩, x0.1.2.2.1⟩, ⟨(.int .i64), ⟨a7, x0.2.2.1.length, c8⟩, x0.2.2.1⟩, ⟨.byte, ⟨a11, x0.2.2.2.1.length, c12⟩, x0.2.2.2.1⟩] [⟨(.int .i64), ⟨a93, y91.1.2.2.1.length, c94⟩, y91.1.2.2.1⟩, ⟨(.int .i64), ⟨a95, y91.2.2.1.length, c96⟩, y91.2.2.1⟩, ⟨.byte, ⟨a97, y91.2.2.2.1.length, c98⟩, y91.2.2.2.1⟩, ⟨(.int .i64), ⟨a43, y41.1.2.2.1.length, c44⟩, y74⟩, ⟨(.int .i64), ⟨a45, y41.2.2.1.length, c46⟩, y75⟩, ⟨.byte, ⟨a47, y41.2.2.2.1.length, c48⟩, y76⟩, ⟨(.int .i64), ⟨a27, y25.1.2.2.1.length, c28⟩, y25.1.2.2.1⟩, ⟨(.int .i64), ⟨a29, y25.2.2.1.length, c30⟩, y25.2.2.1⟩, ⟨.byte, ⟨a31, y25.2.2.2.1.length, c32⟩, y25.2.2.2.1⟩] rfl rfl (JS.region (JO.reg ttOk 2 [] [] [(62, .v (.agg (cl45 y91 a93 c94 a95 c96 a97 c98).toArray)), (63, .v (.agg (cl45 y25 a27 c28 a29 c30 a31 c32).toArray))] _ rfl ⟨⟨rfl, rfl, trivial⟩, rfl⟩ ?_))))))
    obtain ⟨y99, hy100, h⟩ := bindO_some h
    refine JO.call rfl rfl rfl rfl (ok_l_eqVt y91 y25 a93 c94 y91.1.2.2.1.length rfl a95 c96 y91.2.2.1.length rfl a97 c98 y91.2.2.2.1.length rfl a27 c28 y25.1.2.2.1.length rfl a29 c30 y25.2.2.1.length rfl a31 c32 y25.2.2.2.1.length rfl _ hy100) rfl [3, 4, 5, 9, 10, 11] rfl rfl fun _ _ => JO.reg ttOk 1 [] [] [(65, .v (.bool (!y99)))] _ rfl ⟨⟨rfl, trivial⟩, rfl⟩ (JO.done rfl ?_)
    refine JS.cond rfl (fun ht115 => ?_) (fun ht115 => ?_)
    · have h := condT h ht115
      refine JS.seq (JS.region (JO.reg ttOk 1 [] [] [(4, .v (.bool false))] _ rfl ⟨⟨rfl, trivial⟩, rfl⟩ (JO.done rfl ?_)))
      cases h
      exact JS.ret ttOk () trivial rfl rfl [] rfl
    have h := condF h ht115
    refine JS.skip (JS.seq (JS.region (JO.reg ttOk 1 [] [] [(11, .v (.int .i64 1))] _ rfl ⟨⟨rfl, trivial⟩, rfl⟩ (JO.done rfl (JS.seq (JS.region (JO.reg ttOk 2 [] [] [(66, .v (.agg (cl45 y41 a43 c44 a45 c46 a47 c48).toArray)), (67, .v (.int .i64 1))] _ rfl ⟨⟨rfl, rfl, trivial⟩, rfl⟩ ?_)))))))
    obtain ⟨y101, hy102, h⟩ := bindO_some h
    refine JO.call rfl rfl rfl rfl (ok_l_heldVt ((y41.1.1, y41.1.2.1, y74, y41.1.2.2.2.1, y41.1.2.2.2.2.1, y41.1.2.2.2.2.2), y41.2.1, y75, y76, y41.2.2.2.2) 1 a43 c44 y41.1.2.2.1.length hs78.len.symm a45 c46 y41.2.2.1.length hs79.len.symm a47 c48 y41.2.2.2.1.length hs80.len.symm _ hy102) rfl [6, 7, 8] rfl rfl fun _ _ => JO.reg ttOk 1 [] [] [(11, .v (.int .i64 y101))] _ rfl ⟨⟨rfl, trivial⟩, rfl⟩ (JO.done rfl (JS.seq (JS.seq (JS.region (JO.reg ttOk 2 [] [] [(70, .v (.bool (decide (y101 < 0))))] _ rfl ⟨⟨rfl, trivial⟩, rfl⟩ (JO.done rfl ?_))))))
    refine JS.cond rfl (fun ht114 => ?_) (fun ht114 => ?_)
    · have h := condT h ht114
      refine JS.seq (JS.region (JO.reg ttOk 1 [] [] [(4, .v (.bool false))] _ rfl ⟨⟨rfl, trivial⟩, rfl⟩ (JO.done rfl ?_)))
      cases h
      exact JS.ret ttOk () trivial rfl rfl [] rfl
    have h := condF h ht114
    refine JS.skip (JS.seq (JS.seq (JS.region (JO.reg ttOk 3 [] [] [(73, .v (.bool (!(decide (y101 = y73)))))] _ rfl ⟨⟨rfl, trivial⟩, rfl⟩ (JO.done rfl ?_)))))
    refine JS.cond rfl (fun ht113 => ?_) (fun ht113 => ?_)
    · have h := condT h ht113
      refine JS.seq (JS.region (JO.reg ttOk 1 [] [] [(4, .v (.bool false))] _ rfl ⟨⟨rfl, trivial⟩, rfl⟩ (JO.done rfl ?_)))
      cases h
      exact JS.ret ttOk () trivial rfl rfl [] rfl
    have h := condF h ht113
    refine JS.skip (JS.seq (JS.region (JO.reg ttOk 1 [] [] [(4, .v (.bool true))] _ rfl ⟨⟨rfl, trivial⟩, rfl⟩ (JO.done rfl ?_))))
    cases h
    exact JS.ret ttOk () trivial rfl rfl [] rfl

end
end Go.Eng
