/- The walks of the functions that FnExactLeave reaches: what each computes, as a plain function (M_..), and that the model computes it (ok_..). Condition of each: that the plain function answers. -/
import Derived.Test.YtamjkgjmefknkaaFnExactLeaveWalkA
set_option linter.unusedVariables false
set_option linter.unusedSimpArgs false
namespace Go.Eng
open Go Go.Proofs
noncomputable section

def M_i_RingOk_L1 (x0 : List (List Int)) (j32 : Unit → Option Bool) (k26 : Int → Option Bool) : Int → Option Bool := fun x6 =>
  (bif (decide (x6 < (x0.length : Int))) then
  (guardO (0 ≤ x6 ∧ x6 < (x0.length : Int)) <|
  (callO ((decide (((at' x0 x6).length : Int) = 0)) = false) (M_i_areAdmissible (at' x0 x6)) false fun (y17 : Bool) =>
  (bif (bif (decide (((at' x0 x6).length : Int) = 0)) then true else (!y17)) then
  some false
  else
  k26 (W (x6 + 1)))))
  else
  j32 ())

def M_i_RingOk (x0 : List (List Int)) : Option Bool :=
  (joinO (fun (_ : Unit) =>
  some (decide ((x0.length : Int) ≤ 6))) fun j32 =>
  (fixF (M_i_RingOk_L1 x0 j32) FUEL 0))

theorem ok_i_RingOk (x0 : List (List Int)) (a2 : Option Addr) (c3 : Nat) (l4 : Nat) (hl5 : x0.length = l4) (r : Bool) (h : M_i_RingOk x0 = some r) :
    FC Try.prog 81 [.agg #[.slice a2 l4 c3]] [⟨(.sl (.int .i64)), ⟨a2, l4, c3⟩, x0⟩] (fun _ : Unit => True) (fun _ => .bool r) (fun _ => []) :=
  by
    subst hl5
    refine FC.of (T := TTx) Try.call81 Try.func81 rfl rfl fun w0 => ?_
    unfold M_i_RingOk at h
    refine JS.seq ?_
    refine JS.region ?_
    refine JO.regB ttOk 2 [] [2] [(1, .bp 2 0)] (.new 2 42 [.slice a2 x0.length c3] .nil) rfl ⟨⟨rfl, trivial⟩, ⟨rfl, rfl, rfl, rfl, trivial⟩⟩ ?_
    refine JO.done rfl ?_
    refine JS.seq ?_
    refine JS.seq ?_
    refine JS.region ?_
    refine JO.reg ttOk 4 [] [] [(6, .v (.slice a2 x0.length c3)), (7, .v (.int .i64 (x0.length : Int))), (8, .v (.int .i64 0))] _ rfl ⟨⟨rfl, rfl, rfl, trivial⟩, rfl⟩ ?_
    refine JO.done rfl ?_
    obtain ⟨j32, hj42, h⟩ := joinO_some h
    refine JS.blockJ (ι := Unit) ⟨fun _ => j32 () = some r, fun _ => [(1, .bp 2 0)], fun _ => (.new 2 42 [.slice a2 x0.length c3] .nil), fun _ => [⟨(.sl (.int .i64)), ⟨a2, x0.length, c3⟩, x0⟩], fun _ => [], fun _ => 0⟩ ?_ ?_
    · refine JS.loop (ι := Nat × Int) ⟨fun z => fixF (M_i_RingOk_L1 x0 j32) z.1 z.2 = some r, fun z => [(1, .bp 2 0), (6, .v (.slice a2 x0.length c3)), (7, .v (.int .i64 (x0.length : Int))), (8, .v (.int .i64 z.2))], fun z => (.new 2 42 [.slice a2 x0.length c3] .nil), fun z => [⟨(.sl (.int .i64)), ⟨a2, x0.length, c3⟩, x0⟩], fun z => [], fun z => z.1⟩ (FUEL, 0) h ⟨rfl, rfl, rfl, rfl, trivial⟩ ⟨rfl, rfl, rfl, rfl, trivial⟩ [0] rfl [] rfl ?_
      rintro ⟨n27, x6⟩ h
      obtain ⟨n27, rfl, h⟩ := fixF_some h
      rw [M_i_RingOk_L1] at h
      refine JS.seq ?_
      refine JS.region ?_
      refine JO.reg ttOk 1 [] [] [(9, .v (.bool (decide (x6 < (x0.length : Int)))))] _ rfl ⟨⟨rfl, trivial⟩, rfl⟩ ?_
      refine JO.done rfl ?_
      refine JS.seq ?_
      refine JS.cond rfl (fun ht41 => ?_) (fun ht41 => ?_)
      · have h := condT h ht41
        refine JS.skip ?_
        refine JS.seq ?_
        refine JS.block ?_
        refine JS.seq ?_
        refine JS.region ?_
        refine JO.know 0 rfl fun hs38 => ?_
        obtain ⟨g11, h⟩ := guardO_some h
        refine JO.reg ttOk 1 [] [] [(10, .ep ⟨a2, x0.length, c3⟩ (Int.toNat x6 * 1))] _ rfl ⟨hs38.ix g11, ⟨rfl, trivial⟩, rfl⟩ ?_
        refine JO.openR 0 rfl (Int.toNat x6) (at' x0 x6) rfl ?_
        intro a12 c13 ys14 hl15 hy16
        refine JO.loadV ttOk rfl rfl rfl rfl rfl rfl 0 rfl rfl (Int.toNat x6) 0 (Sl.v ⟨a12, (at' x0 x6).length, c13⟩) ⟨hy16 (ltNat g11), rfl⟩ rfl rfl rfl ?_
        refine JO.regB ttOk 2 [] [16] [(4, .bp 16 0)] (.new 2 42 [.slice a2 x0.length c3] (.new 16 113 [.slice a12 (at' x0 x6).length c13] .nil)) rfl ⟨⟨rfl, trivial⟩, ⟨rfl, rfl, rfl, rfl, rfl, rfl, rfl, rfl, trivial⟩⟩ ?_
        refine JO.done rfl ?_
        refine JS.seq ?_
        refine JS.region ?_
        refine JO.reg ttOk 7 [] [] [(16, .v (.bool (decide (((at' x0 x6).length : Int) = 0)))), (18, .cd [(16, false)] (.v (.slice a12 (at' x0 x6).length c13)))] _ rfl ⟨⟨rfl, rfl, trivial⟩, rfl⟩ ?_
        obtain ⟨y17, hy18, -, h⟩ := callO_some h
        refine JO.callg rfl rfl rfl rfl (fun q39 => ok_i_areAdmissible (at' x0 x6) a12 c13 ((at' x0 x6).length) rfl _ (hy18 q39)) rfl [1] rfl rfl ?_
        refine JO.reg ttOk 2 [] [] [(21, .v (.bool (bif (decide (((at' x0 x6).length : Int) = 0)) then true else (!y17))))] _ rfl ⟨⟨rfl, trivial⟩, rfl⟩ ?_
        refine JO.done rfl ?_
        refine JS.cond rfl (fun ht40 => ?_) (fun ht40 => ?_)
        · have h := condT h ht40
          refine JS.seq ?_
          refine JS.region ?_
          refine JO.reg ttOk 1 [] [] [(2, .v (.bool false))] _ rfl ⟨⟨rfl, trivial⟩, rfl⟩ ?_
          refine JO.done rfl ?_
          cases h
          exact JS.ret ttOk () trivial rfl rfl [] rfl
        · have h := condF h ht40
          refine JS.skip ?_
          refine JS.endB ?_
          refine JS.region ?_
          refine JO.reg ttOk 2 [(W (x6 + 1))] [] [(8, .v (.int .i64 (W (x6 + 1))))] _ rfl ⟨⟨trivial, rfl⟩, ⟨rfl, trivial⟩, rfl⟩ ?_
          refine JO.done rfl ?_
          exact JS.endL (n27, (W (x6 + 1))) h (Nat.lt_succ_self _) ⟨rfl, rfl, rfl, rfl, trivial⟩ ⟨rfl, rfl, rfl, rfl, trivial⟩ [2] rfl [] rfl
      · have h := condF h ht41
        refine JS.exit rfl ?_
        exact JS.endJ () h ⟨rfl, trivial⟩ ⟨rfl, rfl, rfl, rfl, trivial⟩ [0] rfl [] rfl
    · rintro _ h
      subst hj42
      refine JS.seq ?_
      refine JS.region ?_
      refine JO.reg ttOk 5 [] [] [(2, .v (.bool (decide ((x0.length : Int) ≤ 6))))] _ rfl ⟨⟨rfl, trivial⟩, rfl⟩ ?_
      refine JO.done rfl ?_
      cases h
      exact JS.ret ttOk () trivial rfl rfl [] rfl

def M_i_UndoOk_L1 (x0 : List (List Int × Int)) (j29 : Unit → Option Bool) (k24 : Int → Option Bool) : Int → Option Bool := fun x6 =>
  (bif (decide (x6 < (x0.length : Int))) then
  (guardO (0 ≤ x6 ∧ x6 < (x0.length : Int)) <|
  (bindO (M_i_LineOk ((at' x0 x6).1, (at' x0 x6).2)) fun (y17 : Bool) =>
  (bif (!y17) then
  some false
  else
  k24 (W (x6 + 1)))))
  else
  j29 ())

def M_i_UndoOk (x0 : List (List Int × Int)) : Option Bool :=
  (joinO (fun (_ : Unit) =>
  some (decide ((x0.length : Int) ≤ 20))) fun j29 =>
  (fixF (M_i_UndoOk_L1 x0 j29) FUEL 0))

theorem ok_i_UndoOk (x0 : List (List Int × Int)) (a2 : Option Addr) (c3 : Nat) (l4 : Nat) (hl5 : x0.length = l4) (r : Bool) (h : M_i_UndoOk x0 = some r) :
    FC Try.prog 82 [.agg #[.slice a2 l4 c3]] [⟨(.pair (.sl (.int .i64)) (.int .i64)), ⟨a2, l4, c3⟩, x0⟩] (fun _ : Unit => True) (fun _ => .bool r) (fun _ => []) :=
  by
    subst hl5
    refine FC.of (T := TTx) Try.call82 Try.func82 rfl rfl fun w0 => ?_
    unfold M_i_UndoOk at h
    refine JS.seq ?_
    refine JS.region ?_
    refine JO.regB ttOk 2 [] [2] [(1, .bp 2 0)] (.new 2 45 [.slice a2 x0.length c3] .nil) rfl ⟨⟨rfl, trivial⟩, ⟨rfl, rfl, rfl, rfl, trivial⟩⟩ ?_
    refine JO.done rfl ?_
    refine JS.seq ?_
    refine JS.seq ?_
    refine JS.region ?_
    refine JO.reg ttOk 4 [] [] [(6, .v (.slice a2 x0.length c3)), (7, .v (.int .i64 (x0.length : Int))), (8, .v (.int .i64 0))] _ rfl ⟨⟨rfl, rfl, rfl, trivial⟩, rfl⟩ ?_
    refine JO.done rfl ?_
    obtain ⟨j29, hj37, h⟩ := joinO_some h
    refine JS.blockJ (ι := Unit) ⟨fun _ => j29 () = some r, fun _ => [(1, .bp 2 0)], fun _ => (.new 2 45 [.slice a2 x0.length c3] .nil), fun _ => [⟨(.pair (.sl (.int .i64)) (.int .i64)), ⟨a2, x0.length, c3⟩, x0⟩], fun _ => [], fun _ => 0⟩ ?_ ?_
    · refine JS.loop (ι := Nat × Int) ⟨fun z => fixF (M_i_UndoOk_L1 x0 j29) z.1 z.2 = some r, fun z => [(1, .bp 2 0), (6, .v (.slice a2 x0.length c3)), (7, .v (.int .i64 (x0.length : Int))), (8, .v (.int .i64 z.2))], fun z => (.new 2 45 [.slice a2 x0.length c3] .nil), fun z => [⟨(.pair (.sl (.int .i64)) (.int .i64)), ⟨a2, x0.length, c3⟩, x0⟩], fun z => [], fun z => z.1⟩ (FUEL, 0) h ⟨rfl, rfl, rfl, rfl, trivial⟩ ⟨rfl, rfl, rfl, rfl, trivial⟩ [0] rfl [] rfl ?_
      rintro ⟨n25, x6⟩ h
      obtain ⟨n25, rfl, h⟩ := fixF_some h
      rw [M_i_UndoOk_L1] at h
      refine JS.seq ?_
      refine JS.region ?_
      refine JO.reg ttOk 1 [] [] [(9, .v (.bool (decide (x6 < (x0.length : Int)))))] _ rfl ⟨⟨rfl, trivial⟩, rfl⟩ ?_
      refine JO.done rfl ?_
      refine JS.seq ?_
      refine JS.cond rfl (fun ht36 => ?_) (fun ht36 => ?_)
      · have h := condT h ht36
        refine JS.skip ?_
        refine JS.seq ?_
        refine JS.block ?_
        refine JS.seq ?_
        refine JS.region ?_
        refine JO.know 0 rfl fun hs34 => ?_
        obtain ⟨g11, h⟩ := guardO_some h
        refine JO.reg ttOk 1 [] [] [(10, .ep ⟨a2, x0.length, c3⟩ (Int.toNat x6 * 2))] _ rfl ⟨hs34.ix g11, ⟨rfl, trivial⟩, rfl⟩ ?_
        refine JO.openR 0 rfl (Int.toNat x6) (at' x0 x6) rfl ?_
        intro a12 c13 ys14 hl15 hy16
        refine JO.loadV ttOk rfl rfl rfl rfl rfl rfl 0 rfl rfl (Int.toNat x6) 0 ((Sl.v ⟨a12, ((at' x0 x6).1).length, c13⟩), (at' x0 x6).2) ⟨hy16 (ltNat g11), rfl⟩ rfl rfl rfl ?_
        refine JO.regB ttOk 2 [] [16] [(4, .bp 16 0)] (.new 2 45 [.slice a2 x0.length c3] (.new 16 25 [.slice a12 ((at' x0 x6).1).length c13, .int .i64 (at' x0 x6).2] .nil)) rfl ⟨⟨rfl, trivial⟩, ⟨rfl, rfl, rfl, rfl, rfl, rfl, rfl, rfl, trivial⟩⟩ ?_
        refine JO.done rfl ?_
        refine JS.seq ?_
        refine JS.region ?_
        refine JO.reg ttOk 1 [] [] [(12, .v (.agg #[.slice a12 ((at' x0 x6).1).length c13, .int .i64 (at' x0 x6).2]))] _ rfl ⟨⟨rfl, trivial⟩, rfl⟩ ?_
        obtain ⟨y17, hy18, h⟩ := bindO_some h
        refine JO.call rfl rfl rfl rfl (ok_i_LineOk ((at' x0 x6).1, (at' x0 x6).2) a12 c13 (((at' x0 x6).1).length) rfl _ hy18) rfl [1] rfl rfl ?_
        intro _ _
        refine JO.reg ttOk 1 [] [] [(14, .v (.bool (!y17)))] _ rfl ⟨⟨rfl, trivial⟩, rfl⟩ ?_
        refine JO.done rfl ?_
        refine JS.cond rfl (fun ht35 => ?_) (fun ht35 => ?_)
        · have h := condT h ht35
          refine JS.seq ?_
          refine JS.region ?_
          refine JO.reg ttOk 1 [] [] [(2, .v (.bool false))] _ rfl ⟨⟨rfl, trivial⟩, rfl⟩ ?_
          refine JO.done rfl ?_
          cases h
          exact JS.ret ttOk () trivial rfl rfl [] rfl
        · have h := condF h ht35
          refine JS.skip ?_
          refine JS.endB ?_
          refine JS.region ?_
          refine JO.reg ttOk 2 [(W (x6 + 1))] [] [(8, .v (.int .i64 (W (x6 + 1))))] _ rfl ⟨⟨trivial, rfl⟩, ⟨rfl, trivial⟩, rfl⟩ ?_
          refine JO.done rfl ?_
          exact JS.endL (n25, (W (x6 + 1))) h (Nat.lt_succ_self _) ⟨rfl, rfl, rfl, rfl, trivial⟩ ⟨rfl, rfl, rfl, rfl, trivial⟩ [2] rfl [] rfl
      · have h := condF h ht36
        refine JS.exit rfl ?_
        exact JS.endJ () h ⟨rfl, trivial⟩ ⟨rfl, rfl, rfl, rfl, trivial⟩ [0] rfl [] rfl
    · rintro _ h
      subst hj37
      refine JS.seq ?_
      refine JS.region ?_
      refine JO.reg ttOk 5 [] [] [(2, .v (.bool (decide ((x0.length : Int) ≤ 20))))] _ rfl ⟨⟨rfl, trivial⟩, rfl⟩ ?_
      refine JO.done rfl ?_
      cases h
      exact JS.ret ttOk () trivial rfl rfl [] rfl

def M_i_emptyLine (x0 : List Int × Int) : Option Bool :=
  some (bif (decide ((x0.1.length : Int) = 0)) then (decide (x0.2 = 0)) else false)

theorem ok_i_emptyLine (x0 : List Int × Int) (a2 : Option Addr) (c3 : Nat) (l4 : Nat) (hl5 : x0.1.length = l4) (r : Bool) (h : M_i_emptyLine x0 = some r) :
    FC Try.prog 83 [.agg #[.slice a2 l4 c3, .int .i64 x0.2]] [⟨(.int .i64), ⟨a2, l4, c3⟩, x0.1⟩] (fun _ : Unit => True) (fun _ => .bool r) (fun _ => []) :=
  by
    subst hl5
    refine FC.of (T := TTx) Try.call83 Try.func83 rfl rfl fun w0 => ?_
    unfold M_i_emptyLine at h
    refine JS.seq ?_
    refine JS.region ?_
    refine JO.regB ttOk 2 [] [2] [(1, .bp 2 0)] (.new 2 25 [.slice a2 x0.1.length c3, .int .i64 x0.2] .nil) rfl ⟨⟨rfl, trivial⟩, ⟨rfl, rfl, rfl, rfl, trivial⟩⟩ ?_
    refine JO.done rfl ?_
    refine JS.seq ?_
    refine JS.region ?_
    refine JO.reg ttOk 10 [] [] [(2, .v (.bool (bif (decide ((x0.1.length : Int) = 0)) then (decide (x0.2 = 0)) else false)))] _ rfl ⟨⟨rfl, trivial⟩, rfl⟩ ?_
    refine JO.done rfl ?_
    cases h
    exact JS.ret ttOk () trivial rfl rfl [] rfl

def M_i_EdOk_L1 (x0 : Bool × Int × (List Int × Int) × Int × Int × Int × Int × Int × Int × Int × List (List Int) × (List (List Int × Int)) × Int × (List Int × Int) × List Int × Int × List Int × Int) (j116 : Unit → Option Bool) (k111 : Int → Option Bool) : Int → Option Bool := fun x69 =>
  (bif (decide (x69 < (x0.2.2.2.2.2.2.2.2.2.2.2.2.2.2.1.length : Int))) then
  (guardO (0 ≤ x69 ∧ x69 < (x0.2.2.2.2.2.2.2.2.2.2.2.2.2.2.1.length : Int)) <|
  (bindO (M_i_Printable (at' x0.2.2.2.2.2.2.2.2.2.2.2.2.2.2.1 x69)) fun (y104 : Bool) =>
  (bif (!y104) then
  some false
  else
  k111 (W (x69 + 1)))))
  else
  j116 ())

def M_i_EdOk (x0 : Bool × Int × (List Int × Int) × Int × Int × Int × Int × Int × Int × Int × List (List Int) × (List (List Int × Int)) × Int × (List Int × Int) × List Int × Int × List Int × Int) : Option Bool :=
  (bindO (M_i_LineOk x0.2.2.1) fun (y26 : Bool) =>
  (callO ((!y26) = false) (M_i_LineOk x0.2.2.2.2.2.2.2.2.2.2.2.2.2.1) false fun (y28 : Bool) =>
  (callO ((bif (!y26) then true else (!y28)) = false) (M_i_LineOk x0.2.2.2.2.2.2.2.2.2.2.2.2.2.2.2.2) false fun (y31 : Bool) =>
  (callO ((bif (bif (!y26) then true else (!y28)) then true else (!y31)) = false) (M_i_in x0.2.2.2.1 0 999) false fun (y34 : Bool) =>
  (callO ((bif (bif (bif (!y26) then true else (!y28)) then true else (!y31)) then true else (!y34)) = false) (M_i_in x0.2.2.2.2.2.1 0 999) false fun (y37 : Bool) =>
  (callO ((bif (bif (bif (bif (!y26) then true else (!y28)) then true else (!y31)) then true else (!y34)) then true else (!y37)) = false) (M_i_modeOk x0) false fun (y40 : Bool) =>
  (bif (bif (bif (bif (bif (bif (!y26) then true else (!y28)) then true else (!y31)) then true else (!y34)) then true else (!y37)) then true else (!y40)) then
  some false
  else
  (callO ((!(decide (x0.2.2.2.2.2.2.2.1 = 0))) = true ∧ (bif (decide (x0.2.2.2.2.2.2.2.1 = 0)) then (!(decide (x0.2.2.2.2.2.2.2.2.1 = 0))) else false) = false) (M_i_Printable x0.2.2.2.2.2.2.2.1) false fun (y43 : Bool) =>
  (callO ((!y43) = false ∧ (!(decide (x0.2.2.2.2.2.2.2.1 = 0))) = true ∧ (bif (decide (x0.2.2.2.2.2.2.2.1 = 0)) then (!(decide (x0.2.2.2.2.2.2.2.2.1 = 0))) else false) = false) (M_i_in x0.2.2.2.2.2.2.2.2.1 0 3) false fun (y47 : Bool) =>
  (bif (bif (bif (decide (x0.2.2.2.2.2.2.2.1 = 0)) then (!(decide (x0.2.2.2.2.2.2.2.2.1 = 0))) else false) then true else (bif (!(decide (x0.2.2.2.2.2.2.2.1 = 0))) then (bif (!y43) then true else (!y47)) else false)) then
  some false
  else
  (bindO (M_i_in x0.2.2.2.2.2.2.2.2.2.1 0 3) fun (y52 : Bool) =>
  (callO ((!y52) = false) (M_i_RingOk x0.2.2.2.2.2.2.2.2.2.2.1) false fun (y54 : Bool) =>
  (callO ((bif (!y52) then true else (!y54)) = false) (M_i_UndoOk x0.2.2.2.2.2.2.2.2.2.2.2.1) false fun (y57 : Bool) =>
  (callO ((bif (bif (!y52) then true else (!y54)) then true else (!y57)) = false) (M_i_in x0.2.2.2.2.2.2.2.2.2.2.2.2.1 0 1000000060) false fun (y60 : Bool) =>
  (callO ((bif (bif (bif (!y52) then true else (!y54)) then true else (!y57)) then true else (!y60)) = false) (M_i_in x0.2.2.2.2.2.2.2.2.2.2.2.2.2.2.2.1 0 1000000060) false fun (y63 : Bool) =>
  (bif (bif (bif (bif (bif (!y52) then true else (!y54)) then true else (!y57)) then true else (!y60)) then true else (!y63)) then
  some false
  else
  (callO ((decide (x0.2.2.2.2.2.2.2.2.2.2.2.2.1 = 0)) = true) (M_i_emptyLine x0.2.2.2.2.2.2.2.2.2.2.2.2.2.1) false fun (y66 : Bool) =>
  (bif (bif (bif (decide (x0.2.2.2.2.2.2.2.2.2.2.2.2.1 = 0)) then (!y66) else false) then true else (decide (40 < (x0.2.2.2.2.2.2.2.2.2.2.2.2.2.2.1.length : Int)))) then
  some false
  else
  (joinO (fun (_ : Unit) =>
  (callO ((bif (decide ((x0.2.2.2.2.2.2.2.2.2.2.2.2.2.2.1.length : Int) = 0)) then (decide (x0.2.2.2.2.2.2.2.2.2.2.2.2.2.2.2.1 = 0)) else false) = true ∧ (decide (x0.2.1 = 3)) = false) (M_i_emptyLine (x0.2.2.2.2.2.2.2.2.2.2.2.2.2.2.2.2.1, x0.2.2.2.2.2.2.2.2.2.2.2.2.2.2.2.2.2)) false fun (y120 : Bool) =>
  some (bif (decide (x0.2.1 = 3)) then true else (bif (bif (decide ((x0.2.2.2.2.2.2.2.2.2.2.2.2.2.2.1.length : Int) = 0)) then (decide (x0.2.2.2.2.2.2.2.2.2.2.2.2.2.2.2.1 = 0)) else false) then y120 else false)))) fun j116 =>
  (fixF (M_i_EdOk_L1 x0 j116) FUEL 0))))))))))))))))))))

theorem ok_i_EdOk (x0 : Bool × Int × (List Int × Int) × Int × Int × Int × Int × Int × Int × Int × List (List Int) × (List (List Int × Int)) × Int × (List Int × Int) × List Int × Int × List Int × Int) (a2 : Option Addr) (c3 : Nat) (l4 : Nat) (hl5 : x0.2.2.1.1.length = l4) (a6 : Option Addr) (c7 : Nat) (l8 : Nat) (hl9 : x0.2.2.2.2.2.2.2.2.2.2.1.length = l8) (a10 : Option Addr) (c11 : Nat) (l12 : Nat) (hl13 : x0.2.2.2.2.2.2.2.2.2.2.2.1.length = l12) (a14 : Option Addr) (c15 : Nat) (l16 : Nat) (hl17 : x0.2.2.2.2.2.2.2.2.2.2.2.2.2.1.1.length = l16) (a18 : Option Addr) (c19 : Nat) (l20 : Nat) (hl21 : x0.2.2.2.2.2.2.2.2.2.2.2.2.2.2.1.length = l20) (a22 : Option Addr) (c23 : Nat) (l24 : Nat) (hl25 : x0.2.2.2.2.2.2.2.2.2.2.2.2.2.2.2.2.1.length = l24) (r : Bool) (h : M_i_EdOk x0 = some r) :
    FC Try.prog 28 [.agg #[.bool x0.1, .int .i64 x0.2.1, .slice a2 l4 c3, .int .i64 x0.2.2.1.2, .int .i64 x0.2.2.2.1, .int .i64 x0.2.2.2.2.1, .int .i64 x0.2.2.2.2.2.1, .int .i64 x0.2.2.2.2.2.2.1, .int .i64 x0.2.2.2.2.2.2.2.1, .int .i64 x0.2.2.2.2.2.2.2.2.1, .int .i64 x0.2.2.2.2.2.2.2.2.2.1, .slice a6 l8 c7, .slice a10 l12 c11, .int .i64 x0.2.2.2.2.2.2.2.2.2.2.2.2.1, .slice a14 l16 c15, .int .i64 x0.2.2.2.2.2.2.2.2.2.2.2.2.2.1.2, .slice a18 l20 c19, .int .i64 x0.2.2.2.2.2.2.2.2.2.2.2.2.2.2.2.1, .slice a22 l24 c23, .int .i64 x0.2.2.2.2.2.2.2.2.2.2.2.2.2.2.2.2.2]] [⟨(.int .i64), ⟨a2, l4, c3⟩, x0.2.2.1.1⟩, ⟨(.sl (.int .i64)), ⟨a6, l8, c7⟩, x0.2.2.2.2.2.2.2.2.2.2.1⟩, ⟨(.pair (.sl (.int .i64)) (.int .i64)), ⟨a10, l12, c11⟩, x0.2.2.2.2.2.2.2.2.2.2.2.1⟩, ⟨(.int .i64), ⟨a14, l16, c15⟩, x0.2.2.2.2.2.2.2.2.2.2.2.2.2.1.1⟩, ⟨(.int .i64), ⟨a18, l20, c19⟩, x0.2.2.2.2.2.2.2.2.2.2.2.2.2.2.1⟩, ⟨(.int .i64), ⟨a22, l24, c23⟩, x0.2.2.2.2.2.2.2.2.2.2.2.2.2.2.2.2.1⟩] (fun _ : Unit => True) (fun _ => .bool r) (fun _ => []) :=
  by
    subst hl5
    subst hl9
    subst hl13
    subst hl17
    subst hl21
    subst hl25
    refine FC.of (T := TTx) Try.call28 Try.func28 rfl rfl fun w0 => ?_
    unfold M_i_EdOk at h
    refine JS.seq ?_
    refine JS.region ?_
    refine JO.regB ttOk 2 [] [7] [(1, .bp 7 0)] (.new 7 47 [.bool x0.1, .int .i64 x0.2.1, .slice a2 x0.2.2.1.1.length c3, .int .i64 x0.2.2.1.2, .int .i64 x0.2.2.2.1, .int .i64 x0.2.2.2.2.1, .int .i64 x0.2.2.2.2.2.1, .int .i64 x0.2.2.2.2.2.2.1, .int .i64 x0.2.2.2.2.2.2.2.1, .int .i64 x0.2.2.2.2.2.2.2.2.1, .int .i64 x0.2.2.2.2.2.2.2.2.2.1, .slice a6 x0.2.2.2.2.2.2.2.2.2.2.1.length c7, .slice a10 x0.2.2.2.2.2.2.2.2.2.2.2.1.length c11, .int .i64 x0.2.2.2.2.2.2.2.2.2.2.2.2.1, .slice a14 x0.2.2.2.2.2.2.2.2.2.2.2.2.2.1.1.length c15, .int .i64 x0.2.2.2.2.2.2.2.2.2.2.2.2.2.1.2, .slice a18 x0.2.2.2.2.2.2.2.2.2.2.2.2.2.2.1.length c19, .int .i64 x0.2.2.2.2.2.2.2.2.2.2.2.2.2.2.2.1, .slice a22 x0.2.2.2.2.2.2.2.2.2.2.2.2.2.2.2.2.1.length c23, .int .i64 x0.2.2.2.2.2.2.2.2.2.2.2.2.2.2.2.2.2] .nil) rfl ⟨⟨rfl, trivial⟩, ⟨rfl, rfl, rfl, rfl, trivial⟩⟩ ?_
    refine JO.done rfl ?_
    refine JS.seq ?_
    refine JS.seq ?_
    refine JS.region ?_
    refine JO.reg ttOk 2 [] [] [(6, .v (.agg #[.slice a2 x0.2.2.1.1.length c3, .int .i64 x0.2.2.1.2]))] _ rfl ⟨⟨rfl, trivial⟩, rfl⟩ ?_
    obtain ⟨y26, hy27, h⟩ := bindO_some h
    refine JO.call rfl rfl rfl rfl (ok_i_LineOk x0.2.2.1 a2 c3 x0.2.2.1.1.length rfl _ hy27) rfl [0] rfl rfl ?_
    intro _ _
    refine JO.reg ttOk 4 [] [] [(9, .v (.bool (!y26))), (11, .cd [(9, false)] (.v (.agg #[.slice a14 x0.2.2.2.2.2.2.2.2.2.2.2.2.2.1.1.length c15, .int .i64 x0.2.2.2.2.2.2.2.2.2.2.2.2.2.1.2])))] _ rfl ⟨⟨rfl, rfl, trivial⟩, rfl⟩ ?_
    obtain ⟨y28, hy29, -, h⟩ := callO_some h
    refine JO.callg rfl rfl rfl rfl (fun q129 => ok_i_LineOk x0.2.2.2.2.2.2.2.2.2.2.2.2.2.1 a14 c15 x0.2.2.2.2.2.2.2.2.2.2.2.2.2.1.1.length rfl _ (hy29 q129)) rfl [3] rfl rfl ?_
    refine JO.reg ttOk 5 [] [] [(15, .v (.bool (bif (!y26) then true else (!y28)))), (17, .cd [(15, false)] (.v (.agg #[.slice a22 x0.2.2.2.2.2.2.2.2.2.2.2.2.2.2.2.2.1.length c23, .int .i64 x0.2.2.2.2.2.2.2.2.2.2.2.2.2.2.2.2.2])))] _ rfl ⟨⟨rfl, rfl, trivial⟩, rfl⟩ ?_
    obtain ⟨y31, hy32, -, h⟩ := callO_some h
    refine JO.callg rfl rfl rfl rfl (fun q130 => ok_i_LineOk x0.2.2.2.2.2.2.2.2.2.2.2.2.2.2.2.2 a22 c23 x0.2.2.2.2.2.2.2.2.2.2.2.2.2.2.2.2.1.length rfl _ (hy32 q130)) rfl [5] rfl rfl ?_
    refine JO.reg ttOk 5 [] [] [(21, .v (.bool (bif (bif (!y26) then true else (!y28)) then true else (!y31)))), (23, .cd [(21, false)] (.v (.int .i64 x0.2.2.2.1)))] _ rfl ⟨⟨rfl, rfl, trivial⟩, rfl⟩ ?_
    obtain ⟨y34, hy35, -, h⟩ := callO_some h
    refine JO.callg rfl rfl rfl rfl (fun q131 => ok_i_in x0.2.2.2.1 0 999 _ (hy35 q131)) rfl [] rfl rfl ?_
    refine JO.reg ttOk 5 [] [] [(27, .v (.bool (bif (bif (bif (!y26) then true else (!y28)) then true else (!y31)) then true else (!y34)))), (29, .cd [(27, false)] (.v (.int .i64 x0.2.2.2.2.2.1)))] _ rfl ⟨⟨rfl, rfl, trivial⟩, rfl⟩ ?_
    obtain ⟨y37, hy38, -, h⟩ := callO_some h
    refine JO.callg rfl rfl rfl rfl (fun q132 => ok_i_in x0.2.2.2.2.2.1 0 999 _ (hy38 q132)) rfl [] rfl rfl ?_
    refine JO.reg ttOk 4 [] [] [(33, .v (.bool (bif (bif (bif (bif (!y26) then true else (!y28)) then true else (!y31)) then true else (!y34)) then true else (!y37)))), (34, .cd [(33, false)] (.v (.agg #[.bool x0.1, .int .i64 x0.2.1, .slice a2 x0.2.2.1.1.length c3, .int .i64 x0.2.2.1.2, .int .i64 x0.2.2.2.1, .int .i64 x0.2.2.2.2.1, .int .i64 x0.2.2.2.2.2.1, .int .i64 x0.2.2.2.2.2.2.1, .int .i64 x0.2.2.2.2.2.2.2.1, .int .i64 x0.2.2.2.2.2.2.2.2.1, .int .i64 x0.2.2.2.2.2.2.2.2.2.1, .slice a6 x0.2.2.2.2.2.2.2.2.2.2.1.length c7, .slice a10 x0.2.2.2.2.2.2.2.2.2.2.2.1.length c11, .int .i64 x0.2.2.2.2.2.2.2.2.2.2.2.2.1, .slice a14 x0.2.2.2.2.2.2.2.2.2.2.2.2.2.1.1.length c15, .int .i64 x0.2.2.2.2.2.2.2.2.2.2.2.2.2.1.2, .slice a18 x0.2.2.2.2.2.2.2.2.2.2.2.2.2.2.1.length c19, .int .i64 x0.2.2.2.2.2.2.2.2.2.2.2.2.2.2.2.1, .slice a22 x0.2.2.2.2.2.2.2.2.2.2.2.2.2.2.2.2.1.length c23, .int .i64 x0.2.2.2.2.2.2.2.2.2.2.2.2.2.2.2.2.2])))] _ rfl ⟨⟨rfl, rfl, trivial⟩, rfl⟩ ?_
    obtain ⟨y40, hy41, -, h⟩ := callO_some h
    refine JO.callg rfl rfl rfl rfl (fun q133 => ok_i_modeOk x0 a2 c3 x0.2.2.1.1.length rfl a6 c7 x0.2.2.2.2.2.2.2.2.2.2.1.length rfl a10 c11 x0.2.2.2.2.2.2.2.2.2.2.2.1.length rfl a14 c15 x0.2.2.2.2.2.2.2.2.2.2.2.2.2.1.1.length rfl a18 c19 x0.2.2.2.2.2.2.2.2.2.2.2.2.2.2.1.length rfl a22 c23 x0.2.2.2.2.2.2.2.2.2.2.2.2.2.2.2.2.1.length rfl _ (hy41 q133)) rfl [0, 1, 2, 3, 4, 5] rfl rfl ?_
    refine JO.reg ttOk 2 [] [] [(37, .v (.bool (bif (bif (bif (bif (bif (!y26) then true else (!y28)) then true else (!y31)) then true else (!y34)) then true else (!y37)) then true else (!y40))))] _ rfl ⟨⟨rfl, trivial⟩, rfl⟩ ?_
    refine JO.done rfl ?_
    refine JS.cond rfl (fun ht153 => ?_) (fun ht153 => ?_)
    · have h := condT h ht153
      refine JS.seq ?_
      refine JS.region ?_
      refine JO.reg ttOk 1 [] [] [(2, .v (.bool false))] _ rfl ⟨⟨rfl, trivial⟩, rfl⟩ ?_
      refine JO.done rfl ?_
      cases h
      exact JS.ret ttOk () trivial rfl rfl [] rfl
    · have h := condF h ht153
      refine JS.skip ?_
      refine JS.seq ?_
      refine JS.seq ?_
      refine JS.region ?_
      refine JO.reg ttOk 15 [] [] [(46, .v (.bool (bif (decide (x0.2.2.2.2.2.2.2.1 = 0)) then (!(decide (x0.2.2.2.2.2.2.2.2.1 = 0))) else false))), (50, .cd [(46, false)] (.v (.bool (!(decide (x0.2.2.2.2.2.2.2.1 = 0)))))), (52, .cd [(50, true), (46, false)] (.v (.int .i64 x0.2.2.2.2.2.2.2.1)))] _ rfl ⟨⟨rfl, rfl, rfl, trivial⟩, rfl⟩ ?_
      obtain ⟨y43, hy44, -, h⟩ := callO_some h
      refine JO.callg rfl rfl rfl rfl (fun q134 q135 => ok_i_Printable x0.2.2.2.2.2.2.2.1 _ (hy44 ⟨q134, q135⟩)) rfl [] rfl rfl ?_
      refine JO.reg ttOk 4 [] [] [(55, .cd [(50, true), (46, false)] (.v (.bool (!y43)))), (57, .cd [(55, false), (50, true), (46, false)] (.v (.int .i64 x0.2.2.2.2.2.2.2.2.1)))] _ rfl ⟨⟨rfl, rfl, trivial⟩, rfl⟩ ?_
      obtain ⟨y47, hy48, -, h⟩ := callO_some h
      refine JO.callg rfl rfl rfl rfl (fun q136 q137 q138 => ok_i_in x0.2.2.2.2.2.2.2.2.1 0 3 _ (hy48 ⟨q136, q137, q138⟩)) rfl [] rfl rfl ?_
      refine JO.reg ttOk 4 [] [] [(62, .v (.bool (bif (bif (decide (x0.2.2.2.2.2.2.2.1 = 0)) then (!(decide (x0.2.2.2.2.2.2.2.2.1 = 0))) else false) then true else (bif (!(decide (x0.2.2.2.2.2.2.2.1 = 0))) then (bif (!y43) then true else (!y47)) else false))))] _ rfl ⟨⟨rfl, trivial⟩, rfl⟩ ?_
      refine JO.done rfl ?_
      refine JS.cond rfl (fun ht152 => ?_) (fun ht152 => ?_)
      · have h := condT h ht152
        refine JS.seq ?_
        refine JS.region ?_
        refine JO.reg ttOk 1 [] [] [(2, .v (.bool false))] _ rfl ⟨⟨rfl, trivial⟩, rfl⟩ ?_
        refine JO.done rfl ?_
        cases h
        exact JS.ret ttOk () trivial rfl rfl [] rfl
      · have h := condF h ht152
        refine JS.skip ?_
        refine JS.seq ?_
        refine JS.seq ?_
        refine JS.region ?_
        refine JO.reg ttOk 2 [] [] [(64, .v (.int .i64 x0.2.2.2.2.2.2.2.2.2.1))] _ rfl ⟨⟨rfl, trivial⟩, rfl⟩ ?_
        obtain ⟨y52, hy53, h⟩ := bindO_some h
        refine JO.call rfl rfl rfl rfl (ok_i_in x0.2.2.2.2.2.2.2.2.2.1 0 3 _ hy53) rfl [] rfl rfl ?_
        intro _ _
        refine JO.reg ttOk 4 [] [] [(67, .v (.bool (!y52))), (69, .cd [(67, false)] (.v (.agg #[.slice a6 x0.2.2.2.2.2.2.2.2.2.2.1.length c7])))] _ rfl ⟨⟨rfl, rfl, trivial⟩, rfl⟩ ?_
        obtain ⟨y54, hy55, -, h⟩ := callO_some h
        refine JO.callg rfl rfl rfl rfl (fun q139 => ok_i_RingOk x0.2.2.2.2.2.2.2.2.2.2.1 a6 c7 x0.2.2.2.2.2.2.2.2.2.2.1.length rfl _ (hy55 q139)) rfl [1] rfl rfl ?_
        refine JO.reg ttOk 5 [] [] [(73, .v (.bool (bif (!y52) then true else (!y54)))), (75, .cd [(73, false)] (.v (.agg #[.slice a10 x0.2.2.2.2.2.2.2.2.2.2.2.1.length c11])))] _ rfl ⟨⟨rfl, rfl, trivial⟩, rfl⟩ ?_
        obtain ⟨y57, hy58, -, h⟩ := callO_some h
        refine JO.callg rfl rfl rfl rfl (fun q140 => ok_i_UndoOk x0.2.2.2.2.2.2.2.2.2.2.2.1 a10 c11 x0.2.2.2.2.2.2.2.2.2.2.2.1.length rfl _ (hy58 q140)) rfl [2] rfl rfl ?_
        refine JO.reg ttOk 5 [] [] [(79, .v (.bool (bif (bif (!y52) then true else (!y54)) then true else (!y57)))), (81, .cd [(79, false)] (.v (.int .i64 x0.2.2.2.2.2.2.2.2.2.2.2.2.1)))] _ rfl ⟨⟨rfl, rfl, trivial⟩, rfl⟩ ?_
        obtain ⟨y60, hy61, -, h⟩ := callO_some h
        refine JO.callg rfl rfl rfl rfl (fun q141 => ok_i_in x0.2.2.2.2.2.2.2.2.2.2.2.2.1 0 1000000060 _ (hy61 q141)) rfl [] rfl rfl ?_
        refine JO.reg ttOk 5 [] [] [(85, .v (.bool (bif (bif (bif (!y52) then true else (!y54)) then true else (!y57)) then true else (!y60)))), (87, .cd [(85, false)] (.v (.int .i64 x0.2.2.2.2.2.2.2.2.2.2.2.2.2.2.2.1)))] _ rfl ⟨⟨rfl, rfl, trivial⟩, rfl⟩ ?_
        obtain ⟨y63, hy64, -, h⟩ := callO_some h
        refine JO.callg rfl rfl rfl rfl (fun q142 => ok_i_in x0.2.2.2.2.2.2.2.2.2.2.2.2.2.2.2.1 0 1000000060 _ (hy64 q142)) rfl [] rfl rfl ?_
        refine JO.reg ttOk 2 [] [] [(90, .v (.bool (bif (bif (bif (bif (!y52) then true else (!y54)) then true else (!y57)) then true else (!y60)) then true else (!y63))))] _ rfl ⟨⟨rfl, trivial⟩, rfl⟩ ?_
        refine JO.done rfl ?_
        refine JS.cond rfl (fun ht151 => ?_) (fun ht151 => ?_)
        · have h := condT h ht151
          refine JS.seq ?_
          refine JS.region ?_
          refine JO.reg ttOk 1 [] [] [(2, .v (.bool false))] _ rfl ⟨⟨rfl, trivial⟩, rfl⟩ ?_
          refine JO.done rfl ?_
          cases h
          exact JS.ret ttOk () trivial rfl rfl [] rfl
        · have h := condF h ht151
          refine JS.skip ?_
          refine JS.seq ?_
          refine JS.seq ?_
          refine JS.region ?_
          refine JO.reg ttOk 6 [] [] [(94, .v (.bool (decide (x0.2.2.2.2.2.2.2.2.2.2.2.2.1 = 0)))), (96, .cd [(94, true)] (.v (.agg #[.slice a14 x0.2.2.2.2.2.2.2.2.2.2.2.2.2.1.1.length c15, .int .i64 x0.2.2.2.2.2.2.2.2.2.2.2.2.2.1.2])))] _ rfl ⟨⟨rfl, rfl, trivial⟩, rfl⟩ ?_
          obtain ⟨y66, hy67, -, h⟩ := callO_some h
          refine JO.callg rfl rfl rfl rfl (fun q143 => ok_i_emptyLine x0.2.2.2.2.2.2.2.2.2.2.2.2.2.1 a14 c15 x0.2.2.2.2.2.2.2.2.2.2.2.2.2.1.1.length rfl _ (hy67 q143)) rfl [3] rfl rfl ?_
          refine JO.reg ttOk 8 [] [] [(105, .v (.bool (bif (bif (decide (x0.2.2.2.2.2.2.2.2.2.2.2.2.1 = 0)) then (!y66) else false) then true else (decide (40 < (x0.2.2.2.2.2.2.2.2.2.2.2.2.2.2.1.length : Int))))))] _ rfl ⟨⟨rfl, trivial⟩, rfl⟩ ?_
          refine JO.done rfl ?_
          refine JS.cond rfl (fun ht150 => ?_) (fun ht150 => ?_)
          · have h := condT h ht150
            refine JS.seq ?_
            refine JS.region ?_
            refine JO.reg ttOk 1 [] [] [(2, .v (.bool false))] _ rfl ⟨⟨rfl, trivial⟩, rfl⟩ ?_
            refine JO.done rfl ?_
            cases h
            exact JS.ret ttOk () trivial rfl rfl [] rfl
          · have h := condF h ht150
            refine JS.skip ?_
            refine JS.seq ?_
            refine JS.seq ?_
            refine JS.region ?_
            refine JO.reg ttOk 4 [] [] [(107, .v (.slice a18 x0.2.2.2.2.2.2.2.2.2.2.2.2.2.2.1.length c19)), (108, .v (.int .i64 (x0.2.2.2.2.2.2.2.2.2.2.2.2.2.2.1.length : Int))), (109, .v (.int .i64 0))] _ rfl ⟨⟨rfl, rfl, rfl, trivial⟩, rfl⟩ ?_
            refine JO.done rfl ?_
            obtain ⟨j116, hj149, h⟩ := joinO_some h
            refine JS.blockJ (ι := Unit) ⟨fun _ => j116 () = some r, fun _ => [(1, .bp 7 0)], fun _ => (.new 7 47 [.bool x0.1, .int .i64 x0.2.1, .slice a2 x0.2.2.1.1.length c3, .int .i64 x0.2.2.1.2, .int .i64 x0.2.2.2.1, .int .i64 x0.2.2.2.2.1, .int .i64 x0.2.2.2.2.2.1, .int .i64 x0.2.2.2.2.2.2.1, .int .i64 x0.2.2.2.2.2.2.2.1, .int .i64 x0.2.2.2.2.2.2.2.2.1, .int .i64 x0.2.2.2.2.2.2.2.2.2.1, .slice a6 x0.2.2.2.2.2.2.2.2.2.2.1.length c7, .slice a10 x0.2.2.2.2.2.2.2.2.2.2.2.1.length c11, .int .i64 x0.2.2.2.2.2.2.2.2.2.2.2.2.1, .slice a14 x0.2.2.2.2.2.2.2.2.2.2.2.2.2.1.1.length c15, .int .i64 x0.2.2.2.2.2.2.2.2.2.2.2.2.2.1.2, .slice a18 x0.2.2.2.2.2.2.2.2.2.2.2.2.2.2.1.length c19, .int .i64 x0.2.2.2.2.2.2.2.2.2.2.2.2.2.2.2.1, .slice a22 x0.2.2.2.2.2.2.2.2.2.2.2.2.2.2.2.2.1.length c23, .int .i64 x0.2.2.2.2.2.2.2.2.2.2.2.2.2.2.2.2.2] .nil), fun _ => [⟨(.int .i64), ⟨a2, x0.2.2.1.1.length, c3⟩, x0.2.2.1.1⟩, ⟨(.sl (.int .i64)), ⟨a6, x0.2.2.2.2.2.2.2.2.2.2.1.length, c7⟩, x0.2.2.2.2.2.2.2.2.2.2.1⟩, ⟨(.pair (.sl (.int .i64)) (.int .i64)), ⟨a10, x0.2.2.2.2.2.2.2.2.2.2.2.1.length, c11⟩, x0.2.2.2.2.2.2.2.2.2.2.2.1⟩, ⟨(.int .i64), ⟨a14, x0.2.2.2.2.2.2.2.2.2.2.2.2.2.1.1.length, c15⟩, x0.2.2.2.2.2.2.2.2.2.2.2.2.2.1.1⟩, ⟨(.int .i64), ⟨a18, x0.2.2.2.2.2.2.2.2.2.2.2.2.2.2.1.length, c19⟩, x0.2.2.2.2.2.2.2.2.2.2.2.2.2.2.1⟩, ⟨(.int .i64), ⟨a22, x0.2.2.2.2.2.2.2.2.2.2.2.2.2.2.2.2.1.length, c23⟩, x0.2.2.2.2.2.2.2.2.2.2.2.2.2.2.2.2.1⟩], fun _ => [], fun _ => 0⟩ ?_ ?_
            · refine JS.loop (ι := Nat × Int) ⟨fun z => fixF (M_i_EdOk_L1 x0 j116) z.1 z.2 = some r, fun z => [(1, .bp 7 0), (107, .v (.slice a18 x0.2.2.2.2.2.2.2.2.2.2.2.2.2.2.1.length c19)), (108, .v (.int .i64 (x0.2.2.2.2.2.2.2.2.2.2.2.2.2.2.1.length : Int))), (109, .v (.int .i64 z.2))], fun z => (.new 7 47 [.bool x0.1, .int .i64 x0.2.1, .slice a2 x0.2.2.1.1.length c3, .int .i64 x0.2.2.1.2, .int .i64 x0.2.2.2.1, .int .i64 x0.2.2.2.2.1, .int .i64 x0.2.2.2.2.2.1, .int .i64 x0.2.2.2.2.2.2.1, .int .i64 x0.2.2.2.2.2.2.2.1, .int .i64 x0.2.2.2.2.2.2.2.2.1, .int .i64 x0.2.2.2.2.2.2.2.2.2.1, .slice a6 x0.2.2.2.2.2.2.2.2.2.2.1.length c7, .slice a10 x0.2.2.2.2.2.2.2.2.2.2.2.1.length c11, .int .i64 x0.2.2.2.2.2.2.2.2.2.2.2.2.1, .slice a14 x0.2.2.2.2.2.2.2.2.2.2.2.2.2.1.1.length c15, .int .i64 x0.2.2.2.2.2.2.2.2.2.2.2.2.2.1.2, .slice a18 x0.2.2.2.2.2.2.2.2.2.2.2.2.2.2.1.length c19, .int .i64 x0.2.2.2.2.2.2.2.2.2.2.2.2.2.2.2.1, .slice a22 x0.2.2.2.2.2.2.2.2.2.2.2.2.2.2.2.2.1.length c23, .int .i64 x0.2.2.2.2.2.2.2.2.2.2.2.2.2.2.2.2.2] .nil), fun z => [⟨(.int .i64), ⟨a18, x0.2.2.2.2.2.2.2.2.2.2.2.2.2.2.1.length, c19⟩, x0.2.2.2.2.2.2.2.2.2.2.2.2.2.2.1⟩, ⟨(.int .i64), ⟨a2, x0.2.2.1.1.length, c3⟩, x0.2.2.1.1⟩, ⟨(.sl (.int .i64)), ⟨a6, x0.2.2.2.2.2.2.2.2.2.2.1.length, c7⟩, x0.2.2.2.2.2.2.2.2.2.2.1⟩, ⟨(.pair (.sl (.int .i64)) (.int .i64)), ⟨a10, x0.2.2.2.2.2.2.2.2.2.2.2.1.length, c11⟩, x0.2.2.2.2.2.2.2.2.2.2.2.1⟩, ⟨(.int .i64), ⟨a14, x0.2.2.2.2.2.2.2.2.2.2.2.2.2.1.1.length, c15⟩, x0.2.2.2.2.2.2.2.2.2.2.2.2.2.1.1⟩, ⟨(.int .i64), ⟨a22, x0.2.2.2.2.2.2.2.2.2.2.2.2.2.2.2.2.1.length, c23⟩, x0.2.2.2.2.2.2.2.2.2.2.2.2.2.2.2.2.1⟩], fun z => [], fun z => z.1⟩ (FUEL, 0) h ⟨rfl, rfl, rfl, rfl, trivial⟩ ⟨rfl, rfl, rfl, rfl, trivial⟩ [4, 0, 1, 2, 3, 5] rfl [] rfl ?_
              rintro ⟨n112, x69⟩ h
              obtain ⟨n112, rfl, h⟩ := fixF_some h
              rw [M_i_EdOk_L1] at h
              refine JS.seq ?_
              refine JS.region ?_
              refine JO.reg ttOk 1 [] [] [(110, .v (.bool (decide (x69 < (x0.2.2.2.2.2.2.2.2.2.2.2.2.2.2.1.length : Int)))))] _ rfl ⟨⟨rfl, trivial⟩, rfl⟩ ?_
              refine JO.done rfl ?_
              refine JS.seq ?_
              refine JS.cond rfl (fun ht146 => ?_) (fun ht146 => ?_)
              · have h := condT h ht146
                refine JS.skip ?_
                refine JS.seq ?_
                refine JS.block ?_
                refine JS.seq ?_
                refine JS.region ?_
                refine JO.know 0 rfl fun hs144 => ?_
                obtain ⟨g103, h⟩ := guardO_some h
                refine JO.reg ttOk 1 [] [] [(111, .ep ⟨a18, x0.2.2.2.2.2.2.2.2.2.2.2.2.2.2.1.length, c19⟩ (Int.toNat x69 * 1))] _ rfl ⟨hs144.ix g103, ⟨rfl, trivial⟩, rfl⟩ ?_
                refine JO.load ttOk rfl rfl rfl rfl rfl rfl rfl 0 rfl rfl (Int.toNat x69) 0 (at' x0.2.2.2.2.2.2.2.2.2.2.2.2.2.2.1 x69) ⟨at_some g103, rfl⟩ rfl rfl ?_
                refine JO.reg ttOk 1 [] [] [(4, .v (.int .i64 (at' x0.2.2.2.2.2.2.2.2.2.2.2.2.2.2.1 x69)))] _ rfl ⟨⟨rfl, trivial⟩, rfl⟩ ?_
                refine JO.done rfl ?_
                refine JS.seq ?_
                refine JS.region ?_
                refine JO.reg ttOk 1 [] [] [(113, .v (.int .i64 (at' x0.2.2.2.2.2.2.2.2.2.2.2.2.2.2.1 x69)))] _ rfl ⟨⟨rfl, trivial⟩, rfl⟩ ?_
                obtain ⟨y104, hy105, h⟩ := bindO_some h
                refine JO.call rfl rfl rfl rfl (ok_i_Printable (at' x0.2.2.2.2.2.2.2.2.2.2.2.2.2.2.1 x69) _ hy105) rfl [] rfl rfl ?_
                intro _ _
                refine JO.reg ttOk 1 [] [] [(115, .v (.bool (!y104)))] _ rfl ⟨⟨rfl, trivial⟩, rfl⟩ ?_
                refine JO.done rfl ?_
                refine JS.cond rfl (fun ht145 => ?_) (fun ht145 => ?_)
                · have h := condT h ht145
                  refine JS.seq ?_
                  refine JS.region ?_
                  refine JO.reg ttOk 1 [] [] [(2, .v (.bool false))] _ rfl ⟨⟨rfl, trivial⟩, rfl⟩ ?_
                  refine JO.done rfl ?_
                  cases h
                  exact JS.ret ttOk () trivial rfl rfl [] rfl
                · have h := condF h ht145
                  refine JS.skip ?_
                  refine JS.endB ?_
                  refine JS.region ?_
                  refine JO.reg ttOk 2 [(W (x69 + 1))] [] [(109, .v (.int .i64 (W (x69 + 1))))] _ rfl ⟨⟨trivial, rfl⟩, ⟨rfl, trivial⟩, rfl⟩ ?_
                  refine JO.done rfl ?_
                  exact JS.endL (n112, (W (x69 + 1))) h (Nat.lt_succ_self _) ⟨rfl, rfl, rfl, rfl, trivial⟩ ⟨rfl, rfl, rfl, rfl, trivial⟩ [0, 1, 2, 3, 4, 5] rfl [] rfl
              · have h := condF h ht146
                refine JS.exit rfl ?_
                exact JS.endJ () h ⟨rfl, trivial⟩ ⟨rfl, rfl, rfl, rfl, trivial⟩ [1, 2, 3, 4, 0, 5] rfl [] rfl
            · rintro _ h
              subst hj149
              refine JS.seq ?_
              refine JS.region ?_
              refine JO.reg ttOk 16 [] [] [(120, .v (.bool (decide (x0.2.1 = 3)))), (130, .cd [(120, false)] (.v (.bool (bif (decide ((x0.2.2.2.2.2.2.2.2.2.2.2.2.2.2.1.length : Int) = 0)) then (decide (x0.2.2.2.2.2.2.2.2.2.2.2.2.2.2.2.1 = 0)) else false)))), (132, .cd [(130, true), (120, false)] (.v (.agg #[.slice a22 x0.2.2.2.2.2.2.2.2.2.2.2.2.2.2.2.2.1.length c23, .int .i64 x0.2.2.2.2.2.2.2.2.2.2.2.2.2.2.2.2.2])))] _ rfl ⟨⟨rfl, rfl, rfl, trivial⟩, rfl⟩ ?_
              obtain ⟨y120, hy121, -, h⟩ := callO_some h
              refine JO.callg rfl rfl rfl rfl (fun q147 q148 => ok_i_emptyLine (x0.2.2.2.2.2.2.2.2.2.2.2.2.2.2.2.2.1, x0.2.2.2.2.2.2.2.2.2.2.2.2.2.2.2.2.2) a22 c23 x0.2.2.2.2.2.2.2.2.2.2.2.2.2.2.2.2.1.length rfl _ (hy121 ⟨q147, q148⟩)) rfl [5] rfl rfl ?_
              refine JO.reg ttOk 3 [] [] [(2, .v (.bool (bif (decide (x0.2.1 = 3)) then true else (bif (bif (decide ((x0.2.2.2.2.2.2.2.2.2.2.2.2.2.2.1.length : Int) = 0)) then (decide (x0.2.2.2.2.2.2.2.2.2.2.2.2.2.2.2.1 = 0)) else false) then y120 else false))))] _ rfl ⟨⟨rfl, trivial⟩, rfl⟩ ?_
              refine JO.done rfl ?_
              cases h
              exact JS.ret ttOk () trivial rfl rfl [] rfl

def M_i_copyInts (x0 : List Int) : Option (List Int) :=
  (guardO (([] : List Int).length + x0.length ≤ 536870912) <|
  some (([] : List Int) ++ x0))

theorem ok_i_copyInts (x0 : List Int) (a2 : Option Addr) (c3 : Nat) (l4 : Nat) (hl5 : x0.length = l4) (r : List Int) (h : M_i_copyInts x0 = some r) :
    FC Try.prog 137 [.slice a2 l4 c3] [⟨(.int .i64), ⟨a2, l4, c3⟩, x0⟩] (fun _ : Option Addr × Nat => True) (fun q => .slice q.1 r.length q.2) (fun q => [⟨(.int .i64), ⟨q.1, r.length, q.2⟩, r⟩]) :=
  by
    subst hl5
    refine FC.of (T := TTx) Try.call137 Try.func137 rfl rfl fun w0 => ?_
    unfold M_i_copyInts at h
    refine JS.seq ?_
    refine JS.region ?_
    refine JO.reg ttOk 1 [] [] [] _ rfl ⟨trivial, rfl⟩ ?_
    refine JO.done rfl ?_
    refine JS.seq ?_
    refine JS.region ?_
    refine JO.reg ttOk 1 [] [] [(3, .v (.slice a2 x0.length c3))] _ rfl ⟨⟨rfl, trivial⟩, rfl⟩ ?_
    obtain ⟨g6, h⟩ := guardO_some h
    refine JO.nilO (.int .i64) Sl.nil rfl rfl ?_
    refine JO.appendR' ttOk rfl rfl rfl rfl ⟨rfl, rfl, rfl, rfl, trivial, rfl, rfl, rfl, rfl⟩ rfl rfl rfl [0] rfl 0 rfl g6 rfl ?_
    intro a7 c8
    refine JO.reg ttOk 1 [] [] [(2, .v (.slice a7 (([] : List Int) ++ x0).length c8))] _ rfl ⟨⟨rfl, trivial⟩, rfl⟩ ?_
    refine JO.done rfl ?_
    cases h
    exact JS.ret ttOk (a7, c8) trivial rfl rfl [0] rfl

def M_i_copyLine (x0 : List Int × Int) : Option (List Int × Int) :=
  (bindO (M_i_copyInts x0.1) fun (y6 : List Int) =>
  some (y6, x0.2))

theorem ok_i_copyLine (x0 : List Int × Int) (a2 : Option Addr) (c3 : Nat) (l4 : Nat) (hl5 : x0.1.length = l4) (r : List Int × Int) (h : M_i_copyLine x0 = some r) :
    FC Try.prog 128 [.agg #[.slice a2 l4 c3, .int .i64 x0.2]] [⟨(.int .i64), ⟨a2, l4, c3⟩, x0.1⟩] (fun _ : Option Addr × Nat => True) (fun q => .agg #[.slice q.1 r.1.length q.2, .int .i64 r.2]) (fun q => [⟨(.int .i64), ⟨q.1, r.1.length, q.2⟩, r.1⟩]) :=
  by
    subst hl5
    refine FC.of (T := TTx) Try.call128 Try.func128 rfl rfl fun w0 => ?_
    unfold M_i_copyLine at h
    refine JS.seq ?_
    refine JS.region ?_
    refine JO.regB ttOk 2 [] [2, 3] [(1, .bp 2 0), (2, .bp 3 0)] (.new 2 25 [.slice a2 x0.1.length c3, .int .i64 x0.2] (.new 3 25 [.slice none 0 0, .int .i64 0] .nil)) rfl ⟨⟨rfl, rfl, trivial⟩, ⟨rfl, rfl, rfl, rfl, rfl, rfl, rfl, rfl, trivial⟩⟩ ?_
    refine JO.done rfl ?_
    refine JS.seq ?_
    obtain ⟨y6, hy7, h⟩ := bindO_some h
    refine JS.regionA rfl (.new 2 25 [.slice a2 x0.1.length c3, .int .i64 x0.2] .nil) [] [6] ⟨rfl, rfl, rfl, rfl, trivial⟩ rfl (fun be10 => ?_)
    refine JA.reg ttOk panic_cx true 3 [0, 1, 3, 4] rfl (by kernel_rfl) [] [(3, .bp 2 0), (4, .v (.slice a2 x0.1.length c3)), (6, .bp 2 1), (7, .v (.int .i64 x0.2))] ⟨rfl, rfl, rfl, rfl, trivial⟩ [] rfl rfl ⟨rfl, rfl, rfl, rfl, trivial⟩ ?_
    refine JA.one 2 (by kernel_rfl) ?_
    refine JK.call rfl rfl rfl rfl (ok_i_copyInts x0.1 a2 c3 x0.1.length rfl _ hy7) rfl [0] rfl rfl ?_
    rintro ⟨a8, c9⟩ -
    refine JA.next ⟨rfl, rfl, rfl, rfl, trivial⟩ [] rfl ?_
    refine JA.reg ttOk panic_cx true 1 [5] rfl (by kernel_rfl) [] [(3, .bp 2 0), (4, .v (.slice a2 x0.1.length c3)), (5, .v (.slice a8 y6.length c9)), (6, .bp 2 1), (7, .v (.int .i64 x0.2)), (8, .v (.agg #[.slice a8 y6.length c9, .int .i64 x0.2]))] ⟨rfl, rfl, rfl, rfl, trivial⟩ [] rfl rfl ⟨rfl, rfl, rfl, rfl, rfl, rfl, trivial⟩ ?_
    refine JA.one 6 (by kernel_rfl) ?_
    refine JK.stBox ttOk rfl rfl rfl rfl rfl rfl rfl rfl ?_
    refine JK.boxes (B' := (.new 2 25 [.slice a2 x0.1.length c3, .int .i64 x0.2] (.new 3 25 [.slice a8 y6.length c9, .int .i64 x0.2] .nil))) ⟨rfl, rfl, rfl, rfl, rfl, rfl, rfl, rfl, trivial⟩ ?_
    refine JA.nextL rfl ?_
    refine JA.done (by kernel_rfl) ?_
    refine JS.boxes (B' := (.new 3 25 [.slice a8 y6.length c9, .int .i64 x0.2] .nil)) ⟨rfl, rfl, rfl, rfl, trivial⟩ ?_
    cases h
    exact JS.ret ttOk (a8, c9) trivial rfl rfl [0] rfl

def M_i_copyRing_L1 (x0 : List (List Int)) (j39 : (List (List Int)) → Option (List (List Int))) (k32 : (Int × List (List Int)) → Option (List (List Int))) : (Int × List (List Int)) → Option (List (List Int)) := fun (x6, x10) =>
  (bif (decide (x6 < (x0.length : Int))) then
  (guardO (0 ≤ x6 ∧ x6 < (x0.length : Int)) <|
  (bindO (M_i_copyInts (at' x0 x6)) fun (y20 : List Int) =>
  (guardO (x10.length + ([y20] : List (List Int)).length ≤ 536870912) <|
  k32 ((W (x6 + 1)), (x10 ++ ([y20] : List (List Int)))))))
  else
  j39 x10)

def M_i_copyRing (x0 : List (List Int)) : Option (List (List Int)) :=
  (joinO (fun (x36 : List (List Int)) =>
  some x36) fun j39 =>
  (fixF (M_i_copyRing_L1 x0 j39) FUEL (0, ([] : List (List Int)))))

theorem ok_i_copyRing (x0 : List (List Int)) (a2 : Option Addr) (c3 : Nat) (l4 : Nat) (hl5 : x0.length = l4) (r : List (List Int)) (h : M_i_copyRing x0 = some r) :
    FC Try.prog 121 [.agg #[.slice a2 l4 c3]] [⟨(.sl (.int .i64)), ⟨a2, l4, c3⟩, x0⟩] (fun _ : Option Addr × Nat => True) (fun q => .agg #[.slice q.1 r.length q.2]) (fun q => [⟨(.sl (.int .i64)), ⟨q.1, r.length, q.2⟩, r⟩]) :=
  by
    subst hl5
    refine FC.of (T := TTx) Try.call121 Try.func121 rfl rfl fun w0 => ?_
    unfold M_i_copyRing at h
    refine JS.seq ?_
    refine JS.region ?_
    refine JO.regB ttOk 2 [] [2, 3] [(1, .bp 2 0), (2, .bp 3 0)] (.new 2 42 [.slice a2 x0.length c3] (.new 3 42 [.slice none 0 0] .nil)) rfl ⟨⟨rfl, rfl, trivial⟩, ⟨rfl, rfl, rfl, rfl, rfl, rfl, rfl, rfl, trivial⟩⟩ ?_
    refine JO.done rfl ?_
    refine JS.seq ?_
    refine JS.region ?_
    refine JO.regB ttOk 1 [] [4] [(3, .bp 4 0)] (.new 2 42 [.slice a2 x0.length c3] (.new 3 42 [.slice none 0 0] (.new 4 42 [.slice none 0 0] .nil))) rfl ⟨⟨rfl, trivial⟩, ⟨rfl, rfl, rfl, rfl, rfl, rfl, rfl, rfl, rfl, rfl, rfl, rfl, trivial⟩⟩ ?_
    refine JO.done rfl ?_
    refine JS.seq ?_
    refine JS.seq ?_
    refine JS.region ?_
    refine JO.reg ttOk 4 [] [] [(7, .v (.slice a2 x0.length c3)), (8, .v (.int .i64 (x0.length : Int))), (9, .v (.int .i64 0))] _ rfl ⟨⟨rfl, rfl, rfl, trivial⟩, rfl⟩ ?_
    refine JO.done rfl ?_
    obtain ⟨j39, hj45, h⟩ := joinO_some h
    refine JS.blockJ (ι := List (List Int) × Option Addr × Nat) ⟨fun z => j39 z.1 = some r, fun z => [(2, .bp 3 0), (3, .bp 4 0)], fun z => (.new 3 42 [.slice none 0 0] (.new 4 42 [.slice z.2.1 z.1.length z.2.2] .nil)), fun z => [], fun z => [⟨(.sl (.int .i64)), ⟨z.2.1, z.1.length, z.2.2⟩, z.1⟩], fun z => 0⟩ ?_ ?_
    · refine JS.nilO (.sl (.int .i64)) Sl.nil rfl rfl ?_
      refine JS.loop (ι := Nat × Int × List (List Int) × Option Addr × Nat) ⟨fun z => fixF (M_i_copyRing_L1 x0 j39) z.1 (z.2.1, z.2.2.1) = some r, fun z => [(2, .bp 3 0), (3, .bp 4 0), (7, .v (.slice a2 x0.length c3)), (8, .v (.int .i64 (x0.length : Int))), (9, .v (.int .i64 z.2.1))], fun z => (.new 3 42 [.slice none 0 0] (.new 4 42 [.slice z.2.2.2.1 z.2.2.1.length z.2.2.2.2] .nil)), fun z => [⟨(.sl (.int .i64)), ⟨a2, x0.length, c3⟩, x0⟩], fun z => [⟨(.sl (.int .i64)), ⟨z.2.2.2.1, z.2.2.1.length, z.2.2.2.2⟩, z.2.2.1⟩], fun z => z.1⟩ (FUEL, 0, ([] : List (List Int)), none, 0) h ⟨rfl, rfl, rfl, rfl, rfl, trivial⟩ ⟨rfl, rfl, rfl, rfl, rfl, rfl, rfl, rfl, trivial⟩ [0] rfl [0] rfl ?_
      rintro ⟨n33, x6, x10, a11, c12⟩ h
      obtain ⟨n33, rfl, h⟩ := fixF_some h
      rw [M_i_copyRing_L1] at h
      refine JS.seq ?_
      refine JS.region ?_
      refine JO.reg ttOk 1 [] [] [(10, .v (.bool (decide (x6 < (x0.length : Int)))))] _ rfl ⟨⟨rfl, trivial⟩, rfl⟩ ?_
      refine JO.done rfl ?_
      refine JS.seq ?_
      refine JS.cond rfl (fun ht44 => ?_) (fun ht44 => ?_)
      · have h := condT h ht44
        refine JS.skip ?_
        refine JS.seq ?_
        refine JS.block ?_
        refine JS.seq ?_
        refine JS.region ?_
        refine JO.know 0 rfl fun hs43 => ?_
        obtain ⟨g14, h⟩ := guardO_some h
        refine JO.reg ttOk 1 [] [] [(11, .ep ⟨a2, x0.length, c3⟩ (Int.toNat x6 * 1))] _ rfl ⟨hs43.ix g14, ⟨rfl, trivial⟩, rfl⟩ ?_
        refine JO.openR 0 rfl (Int.toNat x6) (at' x0 x6) rfl ?_
        intro a15 c16 ys17 hl18 hy19
        refine JO.loadV ttOk rfl rfl rfl rfl rfl rfl 0 rfl rfl (Int.toNat x6) 0 (Sl.v ⟨a15, (at' x0 x6).length, c16⟩) ⟨hy19 (ltNat g14), rfl⟩ rfl rfl rfl ?_
        refine JO.regB ttOk 2 [] [22] [(5, .bp 22 0)] (.new 3 42 [.slice none 0 0] (.new 4 42 [.slice a11 x10.length c12] (.new 22 113 [.slice a15 (at' x0 x6).length c16] .nil))) rfl ⟨⟨rfl, trivial⟩, ⟨rfl, rfl, rfl, rfl, rfl, rfl, rfl, rfl, rfl, rfl, rfl, rfl, trivial⟩⟩ ?_
        refine JO.done rfl ?_
        obtain ⟨y20, hy21, h⟩ := bindO_some h
        obtain ⟨g25, h⟩ := guardO_some h
        refine JS.regionA rfl (.new 4 42 [.slice a11 x10.length c12] (.new 22 113 [.slice a15 (at' x0 x6).length c16] .nil)) [] [8, 9] ⟨rfl, rfl, rfl, rfl, rfl, rfl, rfl, rfl, trivial⟩ rfl (fun be28 => ?_)
        refine JA.reg ttOk panic_cx true 6 [0, 1, 2, 3] rfl (by kernel_rfl) [] [(13, .bp 4 0), (14, .v (.slice a11 x10.length c12)), (15, .bp 22 0), (16, .v (.slice a15 (at' x0 x6).length c16))] ⟨rfl, rfl, rfl, rfl, rfl, rfl, rfl, rfl, trivial⟩ [] rfl rfl ⟨rfl, rfl, rfl, rfl, trivial⟩ ?_
        refine JA.one 4 (by kernel_rfl) ?_
        refine JK.call rfl rfl rfl rfl (ok_i_copyInts (at' x0 x6) a15 c16 ((at' x0 x6).length) rfl _ hy21) rfl [1] rfl rfl ?_
        rintro ⟨a22, c23⟩ -
        refine JA.next ⟨rfl, rfl, rfl, rfl, rfl, rfl, rfl, rfl, trivial⟩ [] rfl ?_
        refine JA.reg ttOk panic_cx true 4 [5] rfl (by kernel_rfl) [] [(13, .bp 4 0), (14, .v (.slice a11 x10.length c12)), (15, .bp 22 0), (16, .v (.slice a15 (at' x0 x6).length c16)), (17, .v (.slice a22 y20.length c23)), (18, .v (.agg #[.slice a22 y20.length c23]))] ⟨rfl, rfl, rfl, rfl, rfl, rfl, rfl, rfl, trivial⟩ [] rfl rfl ⟨rfl, rfl, rfl, rfl, rfl, rfl, trivial⟩ ?_
        refine JA.one 6 (by kernel_rfl) ?_
        refine JK.buildSlice ttOk rfl rfl rfl rfl rfl rfl rfl rfl rfl rfl rfl [0] rfl (.sl (.int .i64)) [y20] ⟨rfl, rfl, rfl⟩ rfl rfl ?_
        intro a24
        refine JA.next ⟨rfl, rfl, rfl, rfl, rfl, rfl, rfl, rfl, trivial⟩ [] rfl ?_
        refine JA.one 7 (by kernel_rfl) ?_
        refine JK.appendO' ttOk rfl rfl rfl rfl ⟨rfl, rfl, rfl, rfl, trivial, rfl, rfl, rfl, rfl⟩ rfl rfl [1, 0] rfl g25 rfl ?_
        intro a26 c27
        refine JA.next ⟨rfl, rfl, rfl, rfl, rfl, rfl, rfl, rfl, trivial⟩ [] rfl ?_
        refine JA.regL ttOk panic_cx 1 [8] rfl (by kernel_rfl) [] [(13, .bp 4 0), (14, .v (.slice a11 x10.length c12)), (15, .bp 22 0), (16, .v (.slice a15 (at' x0 x6).length c16)), (17, .v (.slice a22 y20.length c23)), (18, .v (.agg #[.slice a22 y20.length c23])), (19, .v (.slice a24 ([y20] : List (List Int)).length ([y20] : List (List Int)).length)), (20, .v (.slice a26 (x10 ++ ([y20] : List (List Int))).length c27)), (21, .bp 4 0)] rfl ⟨rfl, rfl, rfl, rfl, rfl, rfl, rfl, rfl, rfl, trivial⟩ ?_
        refine JA.one 9 (by kernel_rfl) ?_
        refine JK.stBox ttOk rfl rfl rfl rfl rfl rfl rfl rfl ?_
        refine JK.boxes (B' := (.new 3 42 [.slice none 0 0] (.new 4 42 [.slice a26 (x10 ++ ([y20] : List (List Int))).length c27] (.new 22 113 [.slice a15 (at' x0 x6).length c16] .nil)))) ⟨rfl, rfl, rfl, rfl, rfl, rfl, rfl, rfl, rfl, rfl, rfl, rfl, trivial⟩ ?_
        refine JA.nextL rfl ?_
        refine JA.done (by kernel_rfl) ?_
        refine JS.boxes (B' := (.new 3 42 [.slice none 0 0] (.new 4 42 [.slice a26 (x10 ++ ([y20] : List (List Int))).length c27] .nil))) ⟨rfl, rfl, rfl, rfl, rfl, rfl, rfl, rfl, trivial⟩ ?_
        refine JS.endB ?_
        refine JS.region ?_
        refine JO.reg ttOk 2 [(W (x6 + 1))] [] [(9, .v (.int .i64 (W (x6 + 1))))] _ rfl ⟨⟨trivial, rfl⟩, ⟨rfl, trivial⟩, rfl⟩ ?_
        refine JO.done rfl ?_
        exact JS.endL (n33, (W (x6 + 1)), (x10 ++ ([y20] : List (List Int))), a26, c27) h (Nat.lt_succ_self _) ⟨rfl, rfl, rfl, rfl, rfl, trivial⟩ ⟨rfl, rfl, rfl, rfl, rfl, rfl, rfl, rfl, trivial⟩ [2] rfl [0] rfl
      · have h := condF h ht44
        refine JS.exit rfl ?_
        exact JS.endJ (x10, a11, c12) h ⟨rfl, rfl, trivial⟩ ⟨rfl, rfl, rfl, rfl, rfl, rfl, rfl, rfl, trivial⟩ [] rfl [0] rfl
    · rintro ⟨x36, a37, c38⟩ h
      subst hj45
      refine JS.seq ?_
      refine JS.region ?_
      refine JO.regB ttOk 2 [] [] [] (.new 3 42 [.slice a37 x36.length c38] .nil) rfl ⟨trivial, ⟨rfl, rfl, rfl, rfl, trivial⟩⟩ ?_
      refine JO.done rfl ?_
      cases h
      exact JS.ret ttOk (a37, c38) trivial rfl rfl [0] rfl

def M_i_copyUndo_L1 (x0 : List (List Int × Int)) (j39 : (List (List Int × Int)) → Option (List (List Int × Int))) (k32 : (Int × (List (List Int × Int))) → Option (List (List Int × Int))) : (Int × (List (List Int × Int))) → Option (List (List Int × Int)) := fun (x6, x10) =>
  (bif (decide (x6 < (x0.length : Int))) then
  (guardO (0 ≤ x6 ∧ x6 < (x0.length : Int)) <|
  (bindO (M_i_copyLine ((at' x0 x6).1, (at' x0 x6).2)) fun (y20 : List Int × Int) =>
  (guardO (x10.length + ([y20] : List (List Int × Int)).length ≤ 536870912) <|
  k32 ((W (x6 + 1)), (x10 ++ ([y20] : List (List Int × Int)))))))
  else
  j39 x10)

def M_i_copyUndo (x0 : List (List Int × Int)) : Option (List (List Int × Int)) :=
  (joinO (fun (x36 : List (List Int × Int)) =>
  some x36) fun j39 =>
  (fixF (M_i_copyUndo_L1 x0 j39) FUEL (0, ([] : List (List Int × Int)))))

theorem ok_i_copyUndo (x0 : List (List Int × Int)) (a2 : Option Addr) (c3 : Nat) (l4 : Nat) (hl5 : x0.length = l4) (r : List (List Int × Int)) (h : M_i_copyUndo x0 = some r) :
    FC Try.prog 138 [.agg #[.slice a2 l4 c3]] [⟨(.pair (.sl (.int .i64)) (.int .i64)), ⟨a2, l4, c3⟩, x0⟩] (fun _ : Option Addr × Nat => True) (fun q => .agg #[.slice q.1 r.length q.2]) (fun q => [⟨(.pair (.sl (.int .i64)) (.int .i64)), ⟨q.1, r.length, q.2⟩, r⟩]) :=
  by
    subst hl5
    refine FC.of (T := TTx) Try.call138 Try.func138 rfl rfl fun w0 => ?_
    unfold M_i_copyUndo at h
    refine JS.seq ?_
    refine JS.region ?_
    refine JO.regB ttOk 2 [] [2, 3] [(1, .bp 2 0), (2, .bp 3 0)] (.new 2 45 [.slice a2 x0.length c3] (.new 3 45 [.slice none 0 0] .nil)) rfl ⟨⟨rfl, rfl, trivial⟩, ⟨rfl, rfl, rfl, rfl, rfl, rfl, rfl, rfl, trivial⟩⟩ ?_
    refine JO.done rfl ?_
    refine JS.seq ?_
    refine JS.region ?_
    refine JO.regB ttOk 1 [] [4] [(3, .bp 4 0)] (.new 2 45 [.slice a2 x0.length c3] (.new 3 45 [.slice none 0 0] (.new 4 45 [.slice none 0 0] .nil))) rfl ⟨⟨rfl, trivial⟩, ⟨rfl, rfl, rfl, rfl, rfl, rfl, rfl, rfl, rfl, rfl, rfl, rfl, trivial⟩⟩ ?_
    refine JO.done rfl ?_
    refine JS.seq ?_
    refine JS.seq ?_
    refine JS.region ?_
    refine JO.reg ttOk 4 [] [] [(7, .v (.slice a2 x0.length c3)), (8, .v (.int .i64 (x0.length : Int))), (9, .v (.int .i64 0))] _ rfl ⟨⟨rfl, rfl, rfl, trivial⟩, rfl⟩ ?_
    refine JO.done rfl ?_
    obtain ⟨j39, hj45, h⟩ := joinO_some h
    refine JS.blockJ (ι := (List (List Int × Int)) × Option Addr × Nat) ⟨fun z => j39 z.1 = some r, fun z => [(2, .bp 3 0), (3, .bp 4 0)], fun z => (.new 3 45 [.slice none 0 0] (.new 4 45 [.slice z.2.1 z.1.length z.2.2] .nil)), fun z => [], fun z => [⟨(.pair (.sl (.int .i64)) (.int .i64)), ⟨z.2.1, z.1.length, z.2.2⟩, z.1⟩], fun z => 0⟩ ?_ ?_
    · refine JS.nilO (.pair (.sl (.int .i64)) (.int .i64)) Sl.nil rfl rfl ?_
      refine JS.loop (ι := Nat × Int × (List (List Int × Int)) × Option Addr × Nat) ⟨fun z => fixF (M_i_copyUndo_L1 x0 j39) z.1 (z.2.1, z.2.2.1) = some r, fun z => [(2, .bp 3 0), (3, .bp 4 0), (7, .v (.slice a2 x0.length c3)), (8, .v (.int .i64 (x0.length : Int))), (9, .v (.int .i64 z.2.1))], fun z => (.new 3 45 [.slice none 0 0] (.new 4 45 [.slice z.2.2.2.1 z.2.2.1.length z.2.2.2.2] .nil)), fun z => [⟨(.pair (.sl (.int .i64)) (.int .i64)), ⟨a2, x0.length, c3⟩, x0⟩], fun z => [⟨(.pair (.sl (.int .i64)) (.int .i64)), ⟨z.2.2.2.1, z.2.2.1.length, z.2.2.2.2⟩, z.2.2.1⟩], fun z => z.1⟩ (FUEL, 0, ([] : List (List Int × Int)), none, 0) h ⟨rfl, rfl, rfl, rfl, rfl, trivial⟩ ⟨rfl, rfl, rfl, rfl, rfl, rfl, rfl, rfl, trivial⟩ [0] rfl [0] rfl ?_
      rintro ⟨n33, x6, x10, a11, c12⟩ h
      obtain ⟨n33, rfl, h⟩ := fixF_some h
      rw [M_i_copyUndo_L1] at h
      refine JS.seq ?_
      refine JS.region ?_
      refine JO.reg ttOk 1 [] [] [(10, .v (.bool (decide (x6 < (x0.length : Int)))))] _ rfl ⟨⟨rfl, trivial⟩, rfl⟩ ?_
      refine JO.done rfl ?_
      refine JS.seq ?_
      refine JS.cond rfl (fun ht44 => ?_) (fun ht44 => ?_)
      · have h := condT h ht44
        refine JS.skip ?_
        refine JS.seq ?_
        refine JS.block ?_
        refine JS.seq ?_
        refine JS.region ?_
        refine JO.know 0 rfl fun hs43 => ?_
        obtain ⟨g14, h⟩ := guardO_some h
        refine JO.reg ttOk 1 [] [] [(11, .ep ⟨a2, x0.length, c3⟩ (Int.toNat x6 * 2))] _ rfl ⟨hs43.ix g14, ⟨rfl, trivial⟩, rfl⟩ ?_
        refine JO.openR 0 rfl (Int.toNat x6) (at' x0 x6) rfl ?_
        intro a15 c16 ys17 hl18 hy19
        refine JO.loadV ttOk rfl rfl rfl rfl rfl rfl 0 rfl rfl (Int.toNat x6) 0 ((Sl.v ⟨a15, ((at' x0 x6).1).length, c16⟩), (at' x0 x6).2) ⟨hy19 (ltNat g14), rfl⟩ rfl rfl rfl ?_
        refine JO.regB ttOk 2 [] [22] [(5, .bp 22 0)] (.new 3 45 [.slice none 0 0] (.new 4 45 [.slice a11 x10.length c12] (.new 22 25 [.slice a15 ((at' x0 x6).1).length c16, .int .i64 (at' x0 x6).2] .nil))) rfl ⟨⟨rfl, trivial⟩, ⟨rfl, rfl, rfl, rfl, rfl, rfl, rfl, rfl, rfl, rfl, rfl, rfl, trivial⟩⟩ ?_
        refine JO.done rfl ?_
        obtain ⟨y20, hy21, h⟩ := bindO_some h
        obtain ⟨g25, h⟩ := guardO_some h
        refine JS.regionA rfl (.new 4 45 [.slice a11 x10.length c12] (.new 22 25 [.slice a15 ((at' x0 x6).1).length c16, .int .i64 (at' x0 x6).2] .nil)) [] [6, 7] ⟨rfl, rfl, rfl, rfl, rfl, rfl, rfl, rfl, trivial⟩ rfl (fun be28 => ?_)
        refine JA.reg ttOk panic_cx true 5 [0, 1, 2] rfl (by kernel_rfl) [] [(13, .bp 4 0), (14, .v (.slice a11 x10.length c12)), (15, .v (.agg #[.slice a15 ((at' x0 x6).1).length c16, .int .i64 (at' x0 x6).2]))] ⟨rfl, rfl, rfl, rfl, rfl, rfl, rfl, rfl, trivial⟩ [] rfl rfl ⟨rfl, rfl, rfl, trivial⟩ ?_
        refine JA.one 3 (by kernel_rfl) ?_
        refine JK.call rfl rfl rfl rfl (ok_i_copyLine ((at' x0 x6).1, (at' x0 x6).2) a15 c16 (((at' x0 x6).1).length) rfl _ hy21) rfl [1] rfl rfl ?_
        rintro ⟨a22, c23⟩ -
        refine JA.next ⟨rfl, rfl, rfl, rfl, rfl, rfl, rfl, rfl, trivial⟩ [] rfl ?_
        refine JA.one 4 (by kernel_rfl) ?_
        refine JK.buildSlice ttOk rfl rfl rfl rfl rfl rfl rfl rfl rfl rfl rfl [0] rfl (.pair (.sl (.int .i64)) (.int .i64)) [y20] ⟨rfl, rfl, rfl⟩ rfl rfl ?_
        intro a24
        refine JA.next ⟨rfl, rfl, rfl, rfl, rfl, rfl, rfl, rfl, trivial⟩ [] rfl ?_
        refine JA.one 5 (by kernel_rfl) ?_
        refine JK.appendO' ttOk rfl rfl rfl rfl ⟨rfl, rfl, rfl, rfl, trivial, rfl, rfl, rfl, rfl⟩ rfl rfl [1, 0] rfl g25 rfl ?_
        intro a26 c27
        refine JA.next ⟨rfl, rfl, rfl, rfl, rfl, rfl, rfl, rfl, trivial⟩ [] rfl ?_
        refine JA.regL ttOk panic_cx 1 [6] rfl (by kernel_rfl) [] [(13, .bp 4 0), (14, .v (.slice a11 x10.length c12)), (15, .v (.agg #[.slice a15 ((at' x0 x6).1).length c16, .int .i64 (at' x0 x6).2])), (16, .v (.agg #[.slice a22 y20.1.length c23, .int .i64 y20.2])), (17, .v (.slice a24 ([y20] : List (List Int × Int)).length ([y20] : List (List Int × Int)).length)), (18, .v (.slice a26 (x10 ++ ([y20] : List (List Int × Int))).length c27)), (19, .bp 4 0)] rfl ⟨rfl, rfl, rfl, rfl, rfl, rfl, rfl, trivial⟩ ?_
        refine JA.one 7 (by kernel_rfl) ?_
        refine JK.stBox ttOk rfl rfl rfl rfl rfl rfl rfl rfl ?_
        refine JK.boxes (B' := (.new 3 45 [.slice none 0 0] (.new 4 45 [.slice a26 (x10 ++ ([y20] : List (List Int × Int))).length c27] (.new 22 25 [.slice a15 ((at' x0 x6).1).length c16, .int .i64 (at' x0 x6).2] .nil)))) ⟨rfl, rfl, rfl, rfl, rfl, rfl, rfl, rfl, rfl, rfl, rfl, rfl, trivial⟩ ?_
        refine JA.nextL rfl ?_
        refine JA.done (by kernel_rfl) ?_
        refine JS.boxes (B' := (.new 3 45 [.slice none 0 0] (.new 4 45 [.slice a26 (x10 ++ ([y20] : List (List Int × Int))).length c27] .nil))) ⟨rfl, rfl, rfl, rfl, rfl, rfl, rfl, rfl, trivial⟩ ?_
        refine JS.endB ?_
        refine JS.region ?_
        refine JO.reg ttOk 2 [(W (x6 + 1))] [] [(9, .v (.int .i64 (W (x6 + 1))))] _ rfl ⟨⟨trivial, rfl⟩, ⟨rfl, trivial⟩, rfl⟩ ?_
        refine JO.done rfl ?_
        exact JS.endL (n33, (W (x6 + 1)), (x10 ++ ([y20] : List (List Int × Int))), a26, c27) h (Nat.lt_succ_self _) ⟨rfl, rfl, rfl, rfl, rfl, trivial⟩ ⟨rfl, rfl, rfl, rfl, rfl, rfl, rfl, rfl, trivial⟩ [2] rfl [0] rfl
      · have h := condF h ht44
        refine JS.exit rfl ?_
        exact JS.endJ (x10, a11, c12) h ⟨rfl, rfl, trivial⟩ ⟨rfl, rfl, rfl, rfl, rfl, rfl, rfl, rfl, trivial⟩ [] rfl [0] rfl
    · rintro ⟨x36, a37, c38⟩ h
      subst hj45
      refine JS.seq ?_
      refine JS.region ?_
      refine JO.regB ttOk 2 [] [] [] (.new 3 45 [.slice a37 x36.length c38] .nil) rfl ⟨trivial, ⟨rfl, rfl, rfl, rfl, trivial⟩⟩ ?_
      refine JO.done rfl ?_
      cases h
      exact JS.ret ttOk (a37, c38) trivial rfl rfl [0] rfl

def M_i_copyEd (x0 : Bool × Int × (List Int × Int) × Int × Int × Int × Int × Int × Int × Int × List (List Int) × (List (List Int × Int)) × Int × (List Int × Int) × List Int × Int × List Int × Int) : Option (Bool × Int × (List Int × Int) × Int × Int × Int × Int × Int × Int × Int × List (List Int) × (List (List Int × Int)) × Int × (List Int × Int) × List Int × Int × List Int × Int) :=
  (bindO (M_i_copyLine x0.2.2.1) fun (y26 : List Int × Int) =>
  (bindO (M_i_copyLine x0.2.2.2.2.2.2.2.2.2.2.2.2.2.1) fun (y30 : List Int × Int) =>
  (bindO (M_i_copyLine x0.2.2.2.2.2.2.2.2.2.2.2.2.2.2.2.2) fun (y34 : List Int × Int) =>
  (bindO (M_i_copyRing x0.2.2.2.2.2.2.2.2.2.2.1) fun (y39 : List (List Int)) =>
  (bindO (M_i_copyUndo x0.2.2.2.2.2.2.2.2.2.2.2.1) fun (y43 : List (List Int × Int)) =>
  (bindO (M_i_copyInts x0.2.2.2.2.2.2.2.2.2.2.2.2.2.2.1) fun (y48 : List Int) =>
  some (x0.1, x0.2.1, y26, x0.2.2.2.1, x0.2.2.2.2.1, x0.2.2.2.2.2.1, x0.2.2.2.2.2.2.1, x0.2.2.2.2.2.2.2.1, x0.2.2.2.2.2.2.2.2.1, x0.2.2.2.2.2.2.2.2.2.1, y39, y43, x0.2.2.2.2.2.2.2.2.2.2.2.2.1, y30, y48, x0.2.2.2.2.2.2.2.2.2.2.2.2.2.2.2.1, y34)))))))

theorem ok_i_copyEd (x0 : Bool × Int × (List Int × Int) × Int × Int × Int × Int × Int × Int × Int × List (List Int) × (List (List Int × Int)) × Int × (List Int × Int) × List Int × Int × List Int × Int) (a2 : Option Addr) (c3 : Nat) (l4 : Nat) (hl5 : x0.2.2.1.1.length = l4) (a6 : Option Addr) (c7 : Nat) (l8 : Nat) (hl9 : x0.2.2.2.2.2.2.2.2.2.2.1.length = l8) (a10 : Option Addr) (c11 : Nat) (l12 : Nat) (hl13 : x0.2.2.2.2.2.2.2.2.2.2.2.1.length = l12) (a14 : Option Addr) (c15 : Nat) (l16 : Nat) (hl17 : x0.2.2.2.2.2.2.2.2.2.2.2.2.2.1.1.length = l16) (a18 : Option Addr) (c19 : Nat) (l20 : Nat) (hl21 : x0.2.2.2.2.2.2.2.2.2.2.2.2.2.2.1.length = l20) (a22 : Option Addr) (c23 : Nat) (l24 : Nat) (hl25 : x0.2.2.2.2.2.2.2.2.2.2.2.2.2.2.2.2.1.length = l24) (r : Bool × Int × (List Int × Int) × Int × Int × Int × Int × Int × Int × Int × List (List Int) × (List (List Int × Int)) × Int × (List Int × Int) × List Int × Int × List Int × Int) (h : M_i_copyEd x0 = some r) :
    FC Try.prog 123 [.agg #[.bool x0.1, .int .i64 x0.2.1, .slice a2 l4 c3, .int .i64 x0.2.2.1.2, .int .i64 x0.2.2.2.1, .int .i64 x0.2.2.2.2.1, .int .i64 x0.2.2.2.2.2.1, .int .i64 x0.2.2.2.2.2.2.1, .int .i64 x0.2.2.2.2.2.2.2.1, .int .i64 x0.2.2.2.2.2.2.2.2.1, .int .i64 x0.2.2.2.2.2.2.2.2.2.1, .slice a6 l8 c7, .slice a10 l12 c11, .int .i64 x0.2.2.2.2.2.2.2.2.2.2.2.2.1, .slice a14 l16 c15, .int .i64 x0.2.2.2.2.2.2.2.2.2.2.2.2.2.1.2, .slice a18 l20 c19, .int .i64 x0.2.2.2.2.2.2.2.2.2.2.2.2.2.2.2.1, .slice a22 l24 c23, .int .i64 x0.2.2.2.2.2.2.2.2.2.2.2.2.2.2.2.2.2]] [⟨(.int .i64), ⟨a2, l4, c3⟩, x0.2.2.1.1⟩, ⟨(.sl (.int .i64)), ⟨a6, l8, c7⟩, x0.2.2.2.2.2.2.2.2.2.2.1⟩, ⟨(.pair (.sl (.int .i64)) (.int .i64)), ⟨a10, l12, c11⟩, x0.2.2.2.2.2.2.2.2.2.2.2.1⟩, ⟨(.int .i64), ⟨a14, l16, c15⟩, x0.2.2.2.2.2.2.2.2.2.2.2.2.2.1.1⟩, ⟨(.int .i64), ⟨a18, l20, c19⟩, x0.2.2.2.2.2.2.2.2.2.2.2.2.2.2.1⟩, ⟨(.int .i64), ⟨a22, l24, c23⟩, x0.2.2.2.2.2.2.2.2.2.2.2.2.2.2.2.2.1⟩] (fun _ : Option Addr × Nat × Option Addr × Nat × Option Addr × Nat × Option Addr × Nat × Option Addr × Nat × Option Addr × Nat => True) (fun q => .agg #[.bool r.1, .int .i64 r.2.1, .slice q.1 r.2.2.1.1.length q.2.1, .int .i64 r.2.2.1.2, .int .i64 r.2.2.2.1, .int .i64 r.2.2.2.2.1, .int .i64 r.2.2.2.2.2.1, .int .i64 r.2.2.2.2.2.2.1, .int .i64 r.2.2.2.2.2.2.2.1, .int .i64 r.2.2.2.2.2.2.2.2.1, .int .i64 r.2.2.2.2.2.2.2.2.2.1, .slice q.2.2.1 r.2.2.2.2.2.2.2.2.2.2.1.length q.2.2.2.1, .slice q.2.2.2.2.1 r.2.2.2.2.2.2.2.2.2.2.2.1.length q.2.2.2.2.2.1, .int .i64 r.2.2.2.2.2.2.2.2.2.2.2.2.1, .slice q.2.2.2.2.2.2.1 r.2.2.2.2.2.2.2.2.2.2.2.2.2.1.1.length q.2.2.2.2.2.2.2.1, .int .i64 r.2.2.2.2.2.2.2.2.2.2.2.2.2.1.2, .slice q.2.2.2.2.2.2.2.2.1 r.2.2.2.2.2.2.2.2.2.2.2.2.2.2.1.length q.2.2.2.2.2.2.2.2.2.1, .int .i64 r.2.2.2.2.2.2.2.2.2.2.2.2.2.2.2.1, .slice q.2.2.2.2.2.2.2.2.2.2.1 r.2.2.2.2.2.2.2.2.2.2.2.2.2.2.2.2.1.length q.2.2.2.2.2.2.2.2.2.2.2, .int .i64 r.2.2.2.2.2.2.2.2.2.2.2.2.2.2.2.2.2]) (fun q => [⟨(.int .i64), ⟨q.1, r.2.2.1.1.length, q.2.1⟩, r.2.2.1.1⟩, ⟨(.sl (.int .i64)), ⟨q.2.2.1, r.2.2.2.2.2.2.2.2.2.2.1.length, q.2.2.2.1⟩, r.2.2.2.2.2.2.2.2.2.2.1⟩, ⟨(.pair (.sl (.int .i64)) (.int .i64)), ⟨q.2.2.2.2.1, r.2.2.2.2.2.2.2.2.2.2.2.1.length, q.2.2.2.2.2.1⟩, r.2.2.2.2.2.2.2.2.2.2.2.1⟩, ⟨(.int .i64), ⟨q.2.2.2.2.2.2.1, r.2.2.2.2.2.2.2.2.2.2.2.2.2.1.1.length, q.2.2.2.2.2.2.2.1⟩, r.2.2.2.2.2.2.2.2.2.2.2.2.2.1.1⟩, ⟨(.int .i64), ⟨q.2.2.2.2.2.2.2.2.1, r.2.2.2.2.2.2.2.2.2.2.2.2.2.2.1.length, q.2.2.2.2.2.2.2.2.2.1⟩, r.2.2.2.2.2.2.2.2.2.2.2.2.2.2.1⟩, ⟨(.int .i64), ⟨q.2.2.2.2.2.2.2.2.2.2.1, r.2.2.2.2.2.2.2.2.2.2.2.2.2.2.2.2.1.length, q.2.2.2.2.2.2.2.2.2.2.2⟩, r.2.2.2.2.2.2.2.2.2.2.2.2.2.2.2.2.1⟩]) :=
  by
    subst hl5
    subst hl9
    subst hl13
    subst hl17
    subst hl21
    subst hl25
    refine FC.of (T := TTx) Try.call123 Try.func123 rfl rfl fun w0 => ?_
    unfold M_i_copyEd at h
    refine JS.seq ?_
    refine JS.region ?_
    refine JO.regB ttOk 2 [] [7, 8] [(1, .bp 7 0), (2, .bp 8 0)] (.new 7 47 [.bool x0.1, .int .i64 x0.2.1, .slice a2 x0.2.2.1.1.length c3, .int .i64 x0.2.2.1.2, .int .i64 x0.2.2.2.1, .int .i64 x0.2.2.2.2.1, .int .i64 x0.2.2.2.2.2.1, .int .i64 x0.2.2.2.2.2.2.1, .int .i64 x0.2.2.2.2.2.2.2.1, .int .i64 x0.2.2.2.2.2.2.2.2.1, .int .i64 x0.2.2.2.2.2.2.2.2.2.1, .slice a6 x0.2.2.2.2.2.2.2.2.2.2.1.length c7, .slice a10 x0.2.2.2.2.2.2.2.2.2.2.2.1.length c11, .int .i64 x0.2.2.2.2.2.2.2.2.2.2.2.2.1, .slice a14 x0.2.2.2.2.2.2.2.2.2.2.2.2.2.1.1.length c15, .int .i64 x0.2.2.2.2.2.2.2.2.2.2.2.2.2.1.2, .slice a18 x0.2.2.2.2.2.2.2.2.2.2.2.2.2.2.1.length c19, .int .i64 x0.2.2.2.2.2.2.2.2.2.2.2.2.2.2.2.1, .slice a22 x0.2.2.2.2.2.2.2.2.2.2.2.2.2.2.2.2.1.length c23, .int .i64 x0.2.2.2.2.2.2.2.2.2.2.2.2.2.2.2.2.2] (.new 8 47 [.bool false, .int .i64 0, .slice none 0 0, .int .i64 0, .int .i64 0, .int .i64 0, .int .i64 0, .int .i64 0, .int .i64 0, .int .i64 0, .int .i64 0, .slice none 0 0, .slice none 0 0, .int .i64 0, .slice none 0 0, .int .i64 0, .slice none 0 0, .int .i64 0, .slice none 0 0, .int .i64 0] .nil)) rfl ⟨⟨rfl, rfl, trivial⟩, ⟨rfl, rfl, rfl, rfl, rfl, rfl, rfl, rfl, trivial⟩⟩ ?_
    refine JO.done rfl ?_
    refine JS.seq ?_
    obtain ⟨y26, hy27, h⟩ := bindO_some h
    obtain ⟨y30, hy31, h⟩ := bindO_some h
    obtain ⟨y34, hy35, h⟩ := bindO_some h
    refine JS.regionA rfl (.new 7 47 [.bool x0.1, .int .i64 x0.2.1, .slice a2 x0.2.2.1.1.length c3, .int .i64 x0.2.2.1.2, .int .i64 x0.2.2.2.1, .int .i64 x0.2.2.2.2.1, .int .i64 x0.2.2.2.2.2.1, .int .i64 x0.2.2.2.2.2.2.1, .int .i64 x0.2.2.2.2.2.2.2.1, .int .i64 x0.2.2.2.2.2.2.2.2.1, .int .i64 x0.2.2.2.2.2.2.2.2.2.1, .slice a6 x0.2.2.2.2.2.2.2.2.2.2.1.length c7, .slice a10 x0.2.2.2.2.2.2.2.2.2.2.2.1.length c11, .int .i64 x0.2.2.2.2.2.2.2.2.2.2.2.2.1, .slice a14 x0.2.2.2.2.2.2.2.2.2.2.2.2.2.1.1.length c15, .int .i64 x0.2.2.2.2.2.2.2.2.2.2.2.2.2.1.2, .slice a18 x0.2.2.2.2.2.2.2.2.2.2.2.2.2.2.1.length c19, .int .i64 x0.2.2.2.2.2.2.2.2.2.2.2.2.2.2.2.1, .slice a22 x0.2.2.2.2.2.2.2.2.2.2.2.2.2.2.2.2.1.length c23, .int .i64 x0.2.2.2.2.2.2.2.2.2.2.2.2.2.2.2.2.2] .nil) [] [9, 10, 11, 12, 13, 14] ⟨rfl, rfl, rfl, rfl, trivial⟩ rfl (fun be38 => ?_)
    refine JA.reg ttOk panic_cx true 9 [0, 1, 3, 4, 6, 7] rfl (by kernel_rfl) [] [(3, .bp 7 2), (4, .v (.agg #[.slice a2 x0.2.2.1.1.length c3, .int .i64 x0.2.2.1.2])), (6, .bp 7 14), (7, .v (.agg #[.slice a14 x0.2.2.2.2.2.2.2.2.2.2.2.2.2.1.1.length c15, .int .i64 x0.2.2.2.2.2.2.2.2.2.2.2.2.2.1.2])), (9, .bp 7 18), (10, .v (.agg #[.slice a22 x0.2.2.2.2.2.2.2.2.2.2.2.2.2.2.2.2.1.length c23, .int .i64 x0.2.2.2.2.2.2.2.2.2.2.2.2.2.2.2.2.2]))] ⟨rfl, rfl, rfl, rfl, trivial⟩ [] rfl rfl ⟨rfl, rfl, rfl, rfl, rfl, rfl, trivial⟩ ?_
    refine JA.one 2 (by kernel_rfl) ?_
    refine JK.call rfl rfl rfl rfl (ok_i_copyLine x0.2.2.1 a2 c3 x0.2.2.1.1.length rfl _ hy27) rfl [0] rfl rfl ?_
    rintro ⟨a28, c29⟩ -
    refine JA.next ⟨rfl, rfl, rfl, rfl, trivial⟩ [] rfl ?_
    refine JA.regL ttOk panic_cx 7 [9] rfl (by kernel_rfl) [] [(3, .bp 7 2), (4, .v (.agg #[.slice a2 x0.2.2.1.1.length c3, .int .i64 x0.2.2.1.2])), (5, .v (.agg #[.slice a28 y26.1.length c29, .int .i64 y26.2])), (6, .bp 7 14), (7, .v (.agg #[.slice a14 x0.2.2.2.2.2.2.2.2.2.2.2.2.2.1.1.length c15, .int .i64 x0.2.2.2.2.2.2.2.2.2.2.2.2.2.1.2])), (9, .bp 7 18), (10, .v (.agg #[.slice a22 x0.2.2.2.2.2.2.2.2.2.2.2.2.2.2.2.2.1.length c23, .int .i64 x0.2.2.2.2.2.2.2.2.2.2.2.2.2.2.2.2.2])), (12, .bp 7 2)] rfl ⟨rfl, rfl, rfl, rfl, rfl, rfl, rfl, rfl, trivial⟩ ?_
    refine JA.one 5 (by kernel_rfl) ?_
    refine JK.call rfl rfl rfl rfl (ok_i_copyLine x0.2.2.2.2.2.2.2.2.2.2.2.2.2.1 a14 c15 x0.2.2.2.2.2.2.2.2.2.2.2.2.2.1.1.length rfl _ hy31) rfl [3] rfl rfl ?_
    rintro ⟨a32, c33⟩ -
    refine JA.next ⟨rfl, rfl, rfl, rfl, trivial⟩ [] rfl ?_
    refine JA.one 8 (by kernel_rfl) ?_
    refine JK.call rfl rfl rfl rfl (ok_i_copyLine x0.2.2.2.2.2.2.2.2.2.2.2.2.2.2.2.2 a22 c23 x0.2.2.2.2.2.2.2.2.2.2.2.2.2.2.2.2.1.length rfl _ hy35) rfl [5] rfl rfl ?_
    rintro ⟨a36, c37⟩ -
    refine JA.next ⟨rfl, rfl, rfl, rfl, trivial⟩ [] rfl ?_
    refine JA.one 10 (by kernel_rfl) ?_
    refine JK.stBox ttOk rfl rfl rfl rfl rfl rfl rfl rfl ?_
    refine JK.boxes (B' := (.new 7 47 [.bool x0.1, .int .i64 x0.2.1, .slice a28 y26.1.length c29, .int .i64 y26.2, .int .i64 x0.2.2.2.1, .int .i64 x0.2.2.2.2.1, .int .i64 x0.2.2.2.2.2.1, .int .i64 x0.2.2.2.2.2.2.1, .int .i64 x0.2.2.2.2.2.2.2.1, .int .i64 x0.2.2.2.2.2.2.2.2.1, .int .i64 x0.2.2.2.2.2.2.2.2.2.1, .slice a6 x0.2.2.2.2.2.2.2.2.2.2.1.length c7, .slice a10 x0.2.2.2.2.2.2.2.2.2.2.2.1.length c11, .int .i64 x0.2.2.2.2.2.2.2.2.2.2.2.2.1, .slice a14 x0.2.2.2.2.2.2.2.2.2.2.2.2.2.1.1.length c15, .int .i64 x0.2.2.2.2.2.2.2.2.2.2.2.2.2.1.2, .slice a18 x0.2.2.2.2.2.2.2.2.2.2.2.2.2.2.1.length c19, .int .i64 x0.2.2.2.2.2.2.2.2.2.2.2.2.2.2.2.1, .slice a22 x0.2.2.2.2.2.2.2.2.2.2.2.2.2.2.2.2.1.length c23, .int .i64 x0.2.2.2.2.2.2.2.2.2.2.2.2.2.2.2.2.2] (.new 8 47 [.bool false, .int .i64 0, .slice none 0 0, .int .i64 0, .int .i64 0, .int .i64 0, .int .i64 0, .int .i64 0, .int .i64 0, .int .i64 0, .int .i64 0, .slice none 0 0, .slice none 0 0, .int .i64 0, .slice none 0 0, .int .i64 0, .slice none 0 0, .int .i64 0, .slice none 0 0, .int .i64 0] .nil))) ⟨rfl, rfl, rfl, rfl, rfl, rfl, rfl, rfl, trivial⟩ ?_
    refine JA.nextL rfl ?_
    refine JA.regL ttOk panic_cx 3 [11] rfl (by kernel_rfl) [] [(3, .bp 7 2), (4, .v (.agg #[.slice a2 x0.2.2.1.1.length c3, .int .i64 x0.2.2.1.2])), (5, .v (.agg #[.slice a28 y26.1.length c29, .int .i64 y26.2])), (6, .bp 7 14), (7, .v (.agg #[.slice a14 x0.2.2.2.2.2.2.2.2.2.2.2.2.2.1.1.length c15, .int .i64 x0.2.2.2.2.2.2.2.2.2.2.2.2.2.1.2])), (8, .v (.agg #[.slice a32 y30.1.length c33, .int .i64 y30.2])), (9, .bp 7 18), (10, .v (.agg #[.slice a22 x0.2.2.2.2.2.2.2.2.2.2.2.2.2.2.2.2.1.length c23, .int .i64 x0.2.2.2.2.2.2.2.2.2.2.2.2.2.2.2.2.2])), (11, .v (.agg #[.slice a36 y34.1.length c37, .int .i64 y34.2])), (12, .bp 7 2), (13, .bp 7 14)] rfl ⟨rfl, rfl, rfl, rfl, rfl, rfl, rfl, rfl, rfl, rfl, rfl, trivial⟩ ?_
    refine JA.one 12 (by kernel_rfl) ?_
    refine JK.stBox ttOk rfl rfl rfl rfl rfl rfl rfl rfl ?_
    refine JK.boxes (B' := (.new 7 47 [.bool x0.1, .int .i64 x0.2.1, .slice a28 y26.1.length c29, .int .i64 y26.2, .int .i64 x0.2.2.2.1, .int .i64 x0.2.2.2.2.1, .int .i64 x0.2.2.2.2.2.1, .int .i64 x0.2.2.2.2.2.2.1, .int .i64 x0.2.2.2.2.2.2.2.1, .int .i64 x0.2.2.2.2.2.2.2.2.1, .int .i64 x0.2.2.2.2.2.2.2.2.2.1, .slice a6 x0.2.2.2.2.2.2.2.2.2.2.1.length c7, .slice a10 x0.2.2.2.2.2.2.2.2.2.2.2.1.length c11, .int .i64 x0.2.2.2.2.2.2.2.2.2.2.2.2.1, .slice a32 y30.1.length c33, .int .i64 y30.2, .slice a18 x0.2.2.2.2.2.2.2.2.2.2.2.2.2.2.1.length c19, .int .i64 x0.2.2.2.2.2.2.2.2.2.2.2.2.2.2.2.1, .slice a22 x0.2.2.2.2.2.2.2.2.2.2.2.2.2.2.2.2.1.length c23, .int .i64 x0.2.2.2.2.2.2.2.2.2.2.2.2.2.2.2.2.2] (.new 8 47 [.bool false, .int .i64 0, .slice none 0 0, .int .i64 0, .int .i64 0, .int .i64 0, .int .i64 0, .int .i64 0, .int .i64 0, .int .i64 0, .int .i64 0, .slice none 0 0, .slice none 0 0, .int .i64 0, .slice none 0 0, .int .i64 0, .slice none 0 0, .int .i64 0, .slice none 0 0, .int .i64 0] .nil))) ⟨rfl, rfl, rfl, rfl, rfl, rfl, rfl, rfl, trivial⟩ ?_
    refine JA.nextL rfl ?_
    refine JA.regL ttOk panic_cx 1 [13] rfl (by kernel_rfl) [] [(3, .bp 7 2), (4, .v (.agg #[.slice a2 x0.2.2.1.1.length c3, .int .i64 x0.2.2.1.2])), (5, .v (.agg #[.slice a28 y26.1.length c29, .int .i64 y26.2])), (6, .bp 7 14), (7, .v (.agg #[.slice a14 x0.2.2.2.2.2.2.2.2.2.2.2.2.2.1.1.length c15, .int .i64 x0.2.2.2.2.2.2.2.2.2.2.2.2.2.1.2])), (8, .v (.agg #[.slice a32 y30.1.length c33, .int .i64 y30.2])), (9, .bp 7 18), (10, .v (.agg #[.slice a22 x0.2.2.2.2.2.2.2.2.2.2.2.2.2.2.2.2.1.length c23, .int .i64 x0.2.2.2.2.2.2.2.2.2.2.2.2.2.2.2.2.2])), (11, .v (.agg #[.slice a36 y34.1.length c37, .int .i64 y34.2])), (12, .bp 7 2), (13, .bp 7 14), (14, .bp 7 18)] rfl ⟨rfl, rfl, rfl, rfl, rfl, rfl, rfl, rfl, rfl, rfl, rfl, rfl, trivial⟩ ?_
    refine JA.one 14 (by kernel_rfl) ?_
    refine JK.stBox ttOk rfl rfl rfl rfl rfl rfl rfl rfl ?_
    refine JK.boxes (B' := (.new 7 47 [.bool x0.1, .int .i64 x0.2.1, .slice a28 y26.1.length c29, .int .i64 y26.2, .int .i64 x0.2.2.2.1, .int .i64 x0.2.2.2.2.1, .int .i64 x0.2.2.2.2.2.1, .int .i64 x0.2.2.2.2.2.2.1, .int .i64 x0.2.2.2.2.2.2.2.1, .int .i64 x0.2.2.2.2.2.2.2.2.1, .int .i64 x0.2.2.2.2.2.2.2.2.2.1, .slice a6 x0.2.2.2.2.2.2.2.2.2.2.1.length c7, .slice a10 x0.2.2.2.2.2.2.2.2.2.2.2.1.length c11, .int .i64 x0.2.2.2.2.2.2.2.2.2.2.2.2.1, .slice a32 y30.1.length c33, .int .i64 y30.2, .slice a18 x0.2.2.2.2.2.2.2.2.2.2.2.2.2.2.1.length c19, .int .i64 x0.2.2.2.2.2.2.2.2.2.2.2.2.2.2.2.1, .slice a36 y34.1.length c37, .int .i64 y34.2] (.new 8 47 [.bool false, .int .i64 0, .slice none 0 0, .int .i64 0, .int .i64 0, .int .i64 0, .int .i64 0, .int .i64 0, .int .i64 0, .int .i64 0, .int .i64 0, .slice none 0 0, .slice none 0 0, .int .i64 0, .slice none 0 0, .int .i64 0, .slice none 0 0, .int .i64 0, .slice none 0 0, .int .i64 0] .nil))) ⟨rfl, rfl, rfl, rfl, rfl, rfl, rfl, rfl, trivial⟩ ?_
    refine JA.nextL rfl ?_
    refine JA.done (by kernel_rfl) ?_
    refine JS.boxes (B' := (.new 7 47 [.bool x0.1, .int .i64 x0.2.1, .slice a28 y26.1.length c29, .int .i64 y26.2, .int .i64 x0.2.2.2.1, .int .i64 x0.2.2.2.2.1, .int .i64 x0.2.2.2.2.2.1, .int .i64 x0.2.2.2.2.2.2.1, .int .i64 x0.2.2.2.2.2.2.2.1, .int .i64 x0.2.2.2.2.2.2.2.2.1, .int .i64 x0.2.2.2.2.2.2.2.2.2.1, .slice a6 x0.2.2.2.2.2.2.2.2.2.2.1.length c7, .slice a10 x0.2.2.2.2.2.2.2.2.2.2.2.1.length c11, .int .i64 x0.2.2.2.2.2.2.2.2.2.2.2.2.1, .slice a32 y30.1.length c33, .int .i64 y30.2, .slice a18 x0.2.2.2.2.2.2.2.2.2.2.2.2.2.2.1.length c19, .int .i64 x0.2.2.2.2.2.2.2.2.2.2.2.2.2.2.2.1, .slice a36 y34.1.length c37, .int .i64 y34.2] (.new 8 47 [.bool false, .int .i64 0, .slice none 0 0, .int .i64 0, .int .i64 0, .int .i64 0, .int .i64 0, .int .i64 0, .int .i64 0, .int .i64 0, .int .i64 0, .slice none 0 0, .slice none 0 0, .int .i64 0, .slice none 0 0, .int .i64 0, .slice none 0 0, .int .i64 0, .slice none 0 0, .int .i64 0] .nil))) ⟨rfl, rfl, rfl, rfl, rfl, rfl, rfl, rfl, trivial⟩ ?_
    refine JS.seq ?_
    obtain ⟨y39, hy40, h⟩ := bindO_some h
    obtain ⟨y43, hy44, h⟩ := bindO_some h
    refine JS.regionA rfl (.new 7 47 [.bool x0.1, .int .i64 x0.2.1, .slice a28 y26.1.length c29, .int .i64 y26.2, .int .i64 x0.2.2.2.1, .int .i64 x0.2.2.2.2.1, .int .i64 x0.2.2.2.2.2.1, .int .i64 x0.2.2.2.2.2.2.1, .int .i64 x0.2.2.2.2.2.2.2.1, .int .i64 x0.2.2.2.2.2.2.2.2.1, .int .i64 x0.2.2.2.2.2.2.2.2.2.1, .slice a6 x0.2.2.2.2.2.2.2.2.2.2.1.length c7, .slice a10 x0.2.2.2.2.2.2.2.2.2.2.2.1.length c11, .int .i64 x0.2.2.2.2.2.2.2.2.2.2.2.2.1, .slice a32 y30.1.length c33, .int .i64 y30.2, .slice a18 x0.2.2.2.2.2.2.2.2.2.2.2.2.2.2.1.length c19, .int .i64 x0.2.2.2.2.2.2.2.2.2.2.2.2.2.2.2.1, .slice a36 y34.1.length c37, .int .i64 y34.2] .nil) [] [6, 7, 8, 9] ⟨rfl, rfl, rfl, rfl, trivial⟩ rfl (fun be47 => ?_)
    refine JA.reg ttOk panic_cx true 6 [0, 1, 3, 4] rfl (by kernel_rfl) [] [(15, .bp 7 11), (16, .v (.agg #[.slice a6 x0.2.2.2.2.2.2.2.2.2.2.1.length c7])), (18, .bp 7 12), (19, .v (.agg #[.slice a10 x0.2.2.2.2.2.2.2.2.2.2.2.1.length c11]))] ⟨rfl, rfl, rfl, rfl, trivial⟩ [] rfl rfl ⟨rfl, rfl, rfl, rfl, trivial⟩ ?_
    refine JA.one 2 (by kernel_rfl) ?_
    refine JK.call rfl rfl rfl rfl (ok_i_copyRing x0.2.2.2.2.2.2.2.2.2.2.1 a6 c7 x0.2.2.2.2.2.2.2.2.2.2.1.length rfl _ hy40) rfl [1] rfl rfl ?_
    rintro ⟨a41, c42⟩ -
    refine JA.next ⟨rfl, rfl, rfl, rfl, trivial⟩ [] rfl ?_
    refine JA.regL ttOk panic_cx 4 [6] rfl (by kernel_rfl) [] [(15, .bp 7 11), (16, .v (.agg #[.slice a6 x0.2.2.2.2.2.2.2.2.2.2.1.length c7])), (17, .v (.agg #[.slice a41 y39.length c42])), (18, .bp 7 12), (19, .v (.agg #[.slice a10 x0.2.2.2.2.2.2.2.2.2.2.2.1.length c11])), (21, .bp 7 11)] rfl ⟨rfl, rfl, rfl, rfl, rfl, rfl, trivial⟩ ?_
    refine JA.one 5 (by kernel_rfl) ?_
    refine JK.call rfl rfl rfl rfl (ok_i_copyUndo x0.2.2.2.2.2.2.2.2.2.2.2.1 a10 c11 x0.2.2.2.2.2.2.2.2.2.2.2.1.length rfl _ hy44) rfl [2] rfl rfl ?_
    rintro ⟨a45, c46⟩ -
    refine JA.next ⟨rfl, rfl, rfl, rfl, trivial⟩ [] rfl ?_
    refine JA.one 7 (by kernel_rfl) ?_
    refine JK.stBox ttOk rfl rfl rfl rfl rfl rfl rfl rfl ?_
    refine JK.boxes (B' := (.new 7 47 [.bool x0.1, .int .i64 x0.2.1, .slice a28 y26.1.length c29, .int .i64 y26.2, .int .i64 x0.2.2.2.1, .int .i64 x0.2.2.2.2.1, .int .i64 x0.2.2.2.2.2.1, .int .i64 x0.2.2.2.2.2.2.1, .int .i64 x0.2.2.2.2.2.2.2.1, .int .i64 x0.2.2.2.2.2.2.2.2.1, .int .i64 x0.2.2.2.2.2.2.2.2.2.1, .slice a41 y39.length c42, .slice a10 x0.2.2.2.2.2.2.2.2.2.2.2.1.length c11, .int .i64 x0.2.2.2.2.2.2.2.2.2.2.2.2.1, .slice a32 y30.1.length c33, .int .i64 y30.2, .slice a18 x0.2.2.2.2.2.2.2.2.2.2.2.2.2.2.1.length c19, .int .i64 x0.2.2.2.2.2.2.2.2.2.2.2.2.2.2.2.1, .slice a36 y34.1.length c37, .int .i64 y34.2] (.new 8 47 [.bool false, .int .i64 0, .slice none 0 0, .int .i64 0, .int .i64 0, .int .i64 0, .int .i64 0, .int .i64 0, .int .i64 0, .int .i64 0, .int .i64 0, .slice none 0 0, .slice none 0 0, .int .i64 0, .slice none 0 0, .int .i64 0, .slice none 0 0, .int .i64 0, .slice none 0 0, .int .i64 0] .nil))) ⟨rfl, rfl, rfl, rfl, rfl, rfl, rfl, rfl, trivial⟩ ?_
    refine JA.nextL rfl ?_
    refine JA.regL ttOk panic_cx 1 [8] rfl (by kernel_rfl) [] [(15, .bp 7 11), (16, .v (.agg #[.slice a6 x0.2.2.2.2.2.2.2.2.2.2.1.length c7])), (17, .v (.agg #[.slice a41 y39.length c42])), (18, .bp 7 12), (19, .v (.agg #[.slice a10 x0.2.2.2.2.2.2.2.2.2.2.2.1.length c11])), (20, .v (.agg #[.slice a45 y43.length c46])), (21, .bp 7 11), (22, .bp 7 12)] rfl ⟨rfl, rfl, rfl, rfl, rfl, rfl, rfl, rfl, trivial⟩ ?_
    refine JA.one 9 (by kernel_rfl) ?_
    refine JK.stBox ttOk rfl rfl rfl rfl rfl rfl rfl rfl ?_
    refine JK.boxes (B' := (.new 7 47 [.bool x0.1, .int .i64 x0.2.1, .slice a28 y26.1.length c29, .int .i64 y26.2, .int .i64 x0.2.2.2.1, .int .i64 x0.2.2.2.2.1, .int .i64 x0.2.2.2.2.2.1, .int .i64 x0.2.2.2.2.2.2.1, .int .i64 x0.2.2.2.2.2.2.2.1, .int .i64 x0.2.2.2.2.2.2.2.2.1, .int .i64 x0.2.2.2.2.2.2.2.2.2.1, .slice a41 y39.length c42, .slice a45 y43.length c46, .int .i64 x0.2.2.2.2.2.2.2.2.2.2.2.2.1, .slice a32 y30.1.length c33, .int .i64 y30.2, .slice a18 x0.2.2.2.2.2.2.2.2.2.2.2.2.2.2.1.length c19, .int .i64 x0.2.2.2.2.2.2.2.2.2.2.2.2.2.2.2.1, .slice a36 y34.1.length c37, .int .i64 y34.2] (.new 8 47 [.bool false, .int .i64 0, .slice none 0 0, .int .i64 0, .int .i64 0, .int .i64 0, .int .i64 0, .int .i64 0, .int .i64 0, .int .i64 0, .int .i64 0, .slice none 0 0, .slice none 0 0, .int .i64 0, .slice none 0 0, .int .i64 0, .slice none 0 0, .int .i64 0, .slice none 0 0, .int .i64 0] .nil))) ⟨rfl, rfl, rfl, rfl, rfl, rfl, rfl, rfl, trivial⟩ ?_
    refine JA.nextL rfl ?_
    refine JA.done (by kernel_rfl) ?_
    refine JS.boxes (B' := (.new 7 47 [.bool x0.1, .int .i64 x0.2.1, .slice a28 y26.1.length c29, .int .i64 y26.2, .int .i64 x0.2.2.2.1, .int .i64 x0.2.2.2.2.1, .int .i64 x0.2.2.2.2.2.1, .int .i64 x0.2.2.2.2.2.2.1, .int .i64 x0.2.2.2.2.2.2.2.1, .int .i64 x0.2.2.2.2.2.2.2.2.1, .int .i64 x0.2.2.2.2.2.2.2.2.2.1, .slice a41 y39.length c42, .slice a45 y43.length c46, .int .i64 x0.2.2.2.2.2.2.2.2.2.2.2.2.1, .slice a32 y30.1.length c33, .int .i64 y30.2, .slice a18 x0.2.2.2.2.2.2.2.2.2.2.2.2.2.2.1.length c19, .int .i64 x0.2.2.2.2.2.2.2.2.2.2.2.2.2.2.2.1, .slice a36 y34.1.length c37, .int .i64 y34.2] (.new 8 47 [.bool false, .int .i64 0, .slice none 0 0, .int .i64 0, .int .i64 0, .int .i64 0, .int .i64 0, .int .i64 0, .int .i64 0, .int .i64 0, .int .i64 0, .slice none 0 0, .slice none 0 0, .int .i64 0, .slice none 0 0, .int .i64 0, .slice none 0 0, .int .i64 0, .slice none 0 0, .int .i64 0] .nil))) ⟨rfl, rfl, rfl, rfl, rfl, rfl, rfl, rfl, trivial⟩ ?_
    refine JS.seq ?_
    refine JS.region ?_
    refine JO.reg ttOk 2 [] [] [(24, .v (.slice a18 x0.2.2.2.2.2.2.2.2.2.2.2.2.2.2.1.length c19))] _ rfl ⟨⟨rfl, trivial⟩, rfl⟩ ?_
    obtain ⟨y48, hy49, h⟩ := bindO_some h
    refine JO.call rfl rfl rfl rfl (ok_i_copyInts x0.2.2.2.2.2.2.2.2.2.2.2.2.2.2.1 a18 c19 x0.2.2.2.2.2.2.2.2.2.2.2.2.2.2.1.length rfl _ hy49) rfl [4] rfl rfl ?_
    rintro ⟨a50, c51⟩ -
    refine JO.regB ttOk 2 [] [] [] (.new 7 47 [.bool x0.1, .int .i64 x0.2.1, .slice a28 y26.1.length c29, .int .i64 y26.2, .int .i64 x0.2.2.2.1, .int .i64 x0.2.2.2.2.1, .int .i64 x0.2.2.2.2.2.1, .int .i64 x0.2.2.2.2.2.2.1, .int .i64 x0.2.2.2.2.2.2.2.1, .int .i64 x0.2.2.2.2.2.2.2.2.1, .int .i64 x0.2.2.2.2.2.2.2.2.2.1, .slice a41 y39.length c42, .slice a45 y43.length c46, .int .i64 x0.2.2.2.2.2.2.2.2.2.2.2.2.1, .slice a32 y30.1.length c33, .int .i64 y30.2, .slice a50 y48.length c51, .int .i64 x0.2.2.2.2.2.2.2.2.2.2.2.2.2.2.2.1, .slice a36 y34.1.length c37, .int .i64 y34.2] (.new 8 47 [.bool false, .int .i64 0, .slice none 0 0, .int .i64 0, .int .i64 0, .int .i64 0, .int .i64 0, .int .i64 0, .int .i64 0, .int .i64 0, .int .i64 0, .slice none 0 0, .slice none 0 0, .int .i64 0, .slice none 0 0, .int .i64 0, .slice none 0 0, .int .i64 0, .slice none 0 0, .int .i64 0] .nil)) rfl ⟨trivial, ⟨rfl, rfl, rfl, rfl, rfl, rfl, rfl, rfl, trivial⟩⟩ ?_
    refine JO.done rfl ?_
    refine JS.seq ?_
    refine JS.region ?_
    refine JO.regB ttOk 2 [] [] [] (.new 8 47 [.bool x0.1, .int .i64 x0.2.1, .slice a28 y26.1.length c29, .int .i64 y26.2, .int .i64 x0.2.2.2.1, .int .i64 x0.2.2.2.2.1, .int .i64 x0.2.2.2.2.2.1, .int .i64 x0.2.2.2.2.2.2.1, .int .i64 x0.2.2.2.2.2.2.2.1, .int .i64 x0.2.2.2.2.2.2.2.2.1, .int .i64 x0.2.2.2.2.2.2.2.2.2.1, .slice a41 y39.length c42, .slice a45 y43.length c46, .int .i64 x0.2.2.2.2.2.2.2.2.2.2.2.2.1, .slice a32 y30.1.length c33, .int .i64 y30.2, .slice a50 y48.length c51, .int .i64 x0.2.2.2.2.2.2.2.2.2.2.2.2.2.2.2.1, .slice a36 y34.1.length c37, .int .i64 y34.2] .nil) rfl ⟨trivial, ⟨rfl, rfl, rfl, rfl, trivial⟩⟩ ?_
    refine JO.done rfl ?_
    cases h
    exact JS.ret ttOk (a28, c29, a41, c42, a45, c46, a32, c33, a50, c51, a36, c37) trivial rfl rfl [5, 2, 1, 2, 0, 0] rfl

def M_i_inCommand (x0 : List Int × Int) (x1 : Int) : Option (List Int × Int) :=
  (joinO (fun (x11 : Int) =>
  some (x0.1, x11)) fun j12 =>
  (callO ((decide (x1 = 2)) = true) (M_i_isAtEnd x0) false fun (y7 : Bool) =>
  (bif (bif (decide (x1 = 2)) then y7 else false) then
  j12 (W (x0.2 - 1))
  else
  j12 x0.2)))

theorem ok_i_inCommand (x0 : List Int × Int) (x1 : Int) (a3 : Option Addr) (c4 : Nat) (l5 : Nat) (hl6 : x0.1.length = l5) (r : List Int × Int) (h : M_i_inCommand x0 x1 = some r) :
    FC Try.prog 124 [.agg #[.slice a3 l5 c4, .int .i64 x0.2], .int .i64 x1] [⟨(.int .i64), ⟨a3, l5, c4⟩, x0.1⟩] (fun _ : Unit => True) (fun _ => .agg #[.slice a3 l5 c4, .int .i64 r.2]) (fun _ => []) :=
  by
    subst hl6
    refine FC.of (T := TTx) Try.call124 Try.func124 rfl rfl fun w0 => ?_
    unfold M_i_inCommand at h
    refine JS.seq ?_
    refine JS.region ?_
    refine JO.regB ttOk 2 [] [2, 3] [(2, .bp 2 0), (4, .bp 3 0)] (.new 2 25 [.slice a3 x0.1.length c4, .int .i64 x0.2] (.new 3 25 [.slice none 0 0, .int .i64 0] .nil)) rfl ⟨⟨rfl, rfl, trivial⟩, ⟨rfl, rfl, rfl, rfl, rfl, rfl, rfl, rfl, trivial⟩⟩ ?_
    refine JO.done rfl ?_
    obtain ⟨j12, hj18, h⟩ := joinO_some h
    refine JS.seqJ (ι := Int) ⟨fun z => j12 z = some r, fun z => [(2, .bp 2 0), (4, .bp 3 0)], fun z => (.new 2 25 [.slice a3 x0.1.length c4, .int .i64 z] (.new 3 25 [.slice none 0 0, .int .i64 0] .nil)), fun z => [⟨(.int .i64), ⟨a3, x0.1.length, c4⟩, x0.1⟩], fun z => [], fun z => 0⟩ ?_ ?_
    · refine JS.seq ?_
      refine JS.region ?_
      refine JO.reg ttOk 4 [] [] [(7, .v (.bool (decide (x1 = 2)))), (8, .cd [(7, true)] (.v (.agg #[.slice a3 x0.1.length c4, .int .i64 x0.2])))] _ rfl ⟨⟨rfl, rfl, trivial⟩, rfl⟩ ?_
      obtain ⟨y7, hy8, -, h⟩ := callO_some h
      refine JO.callg rfl rfl rfl rfl (fun q16 => ok_i_isAtEnd x0 a3 c4 x0.1.length rfl _ (hy8 q16)) rfl [0] rfl rfl ?_
      refine JO.reg ttOk 1 [] [] [(10, .v (.bool (bif (decide (x1 = 2)) then y7 else false)))] _ rfl ⟨⟨rfl, trivial⟩, rfl⟩ ?_
      refine JO.done rfl ?_
      refine JS.cond rfl (fun ht17 => ?_) (fun ht17 => ?_)
      · have h := condT h ht17
        refine JS.region ?_
        refine JO.regB ttOk 5 [(W (x0.2 - 1))] [] [] (.new 2 25 [.slice a3 x0.1.length c4, .int .i64 (W (x0.2 - 1))] (.new 3 25 [.slice none 0 0, .int .i64 0] .nil)) rfl ⟨⟨trivial, rfl⟩, trivial, ⟨rfl, rfl, rfl, rfl, rfl, rfl, rfl, rfl, trivial⟩⟩ ?_
        refine JO.done rfl ?_
        exact JS.endJ (W (x0.2 - 1)) h ⟨rfl, rfl, trivial⟩ ⟨rfl, rfl, rfl, rfl, rfl, rfl, rfl, rfl, trivial⟩ [0] rfl [] rfl
      · have h := condF h ht17
        refine JS.skip ?_
        exact JS.endJ x0.2 h ⟨rfl, rfl, trivial⟩ ⟨rfl, rfl, rfl, rfl, rfl, rfl, rfl, rfl, trivial⟩ [0] rfl [] rfl
    · rintro x11 h
      subst hj18
      refine JS.seq ?_
      refine JS.region ?_
      refine JO.regB ttOk 2 [] [] [] (.new 3 25 [.slice a3 x0.1.length c4, .int .i64 x11] .nil) rfl ⟨trivial, ⟨rfl, rfl, rfl, rfl, trivial⟩⟩ ?_
      refine JO.done rfl ?_
      cases h
      exact JS.ret ttOk () trivial rfl rfl [] rfl

def M_i_left (x0 : Bool × Int × (List Int × Int) × Int × Int × Int × Int × Int × Int × Int × List (List Int) × (List (List Int × Int)) × Int × (List Int × Int) × List Int × Int × List Int × Int) : Option (Bool × Int × (List Int × Int) × Int × Int × Int × Int × Int × Int × Int × List (List Int) × (List (List Int × Int)) × Int × (List Int × Int) × List Int × Int × List Int × Int) :=
  (bindO (M_i_copyEd x0) fun (y26 : Bool × Int × (List Int × Int) × Int × Int × Int × Int × Int × Int × Int × List (List Int) × (List (List Int × Int)) × Int × (List Int × Int) × List Int × Int × List Int × Int) =>
  (joinO (fun (x41 : Int) =>
  (bindO (M_i_inCommand (y26.2.2.1.1, y26.2.2.1.2) x41) fun (y44 : List Int × Int) =>
  some (y26.1, x41, (y26.2.2.1.1, y44.2), y26.2.2.2.1, y26.2.2.2.2.1, y26.2.2.2.2.2.1, y26.2.2.2.2.2.2.1, y26.2.2.2.2.2.2.2.1, y26.2.2.2.2.2.2.2.2.1, y26.2.2.2.2.2.2.2.2.2.1, y26.2.2.2.2.2.2.2.2.2.2.1, y26.2.2.2.2.2.2.2.2.2.2.2.1, y26.2.2.2.2.2.2.2.2.2.2.2.2.1, (y26.2.2.2.2.2.2.2.2.2.2.2.2.2.1.1, y26.2.2.2.2.2.2.2.2.2.2.2.2.2.1.2), [], 0, ([], 0)))) fun j42 =>
  (bif x0.1 then
  j42 2
  else
  j42 0)))

theorem ok_i_left (x0 : Bool × Int × (List Int × Int) × Int × Int × Int × Int × Int × Int × Int × List (List Int) × (List (List Int × Int)) × Int × (List Int × Int) × List Int × Int × List Int × Int) (a2 : Option Addr) (c3 : Nat) (l4 : Nat) (hl5 : x0.2.2.1.1.length = l4) (a6 : Option Addr) (c7 : Nat) (l8 : Nat) (hl9 : x0.2.2.2.2.2.2.2.2.2.2.1.length = l8) (a10 : Option Addr) (c11 : Nat) (l12 : Nat) (hl13 : x0.2.2.2.2.2.2.2.2.2.2.2.1.length = l12) (a14 : Option Addr) (c15 : Nat) (l16 : Nat) (hl17 : x0.2.2.2.2.2.2.2.2.2.2.2.2.2.1.1.length = l16) (a18 : Option Addr) (c19 : Nat) (l20 : Nat) (hl21 : x0.2.2.2.2.2.2.2.2.2.2.2.2.2.2.1.length = l20) (a22 : Option Addr) (c23 : Nat) (l24 : Nat) (hl25 : x0.2.2.2.2.2.2.2.2.2.2.2.2.2.2.2.2.1.length = l24) (r : Bool × Int × (List Int × Int) × Int × Int × Int × Int × Int × Int × Int × List (List Int) × (List (List Int × Int)) × Int × (List Int × Int) × List Int × Int × List Int × Int) (h : M_i_left x0 = some r) :
    FC Try.prog 88 [.agg #[.bool x0.1, .int .i64 x0.2.1, .slice a2 l4 c3, .int .i64 x0.2.2.1.2, .int .i64 x0.2.2.2.1, .int .i64 x0.2.2.2.2.1, .int .i64 x0.2.2.2.2.2.1, .int .i64 x0.2.2.2.2.2.2.1, .int .i64 x0.2.2.2.2.2.2.2.1, .int .i64 x0.2.2.2.2.2.2.2.2.1, .int .i64 x0.2.2.2.2.2.2.2.2.2.1, .slice a6 l8 c7, .slice a10 l12 c11, .int .i64 x0.2.2.2.2.2.2.2.2.2.2.2.2.1, .slice a14 l16 c15, .int .i64 x0.2.2.2.2.2.2.2.2.2.2.2.2.2.1.2, .slice a18 l20 c19, .int .i64 x0.2.2.2.2.2.2.2.2.2.2.2.2.2.2.2.1, .slice a22 l24 c23, .int .i64 x0.2.2.2.2.2.2.2.2.2.2.2.2.2.2.2.2.2]] [⟨(.int .i64), ⟨a2, l4, c3⟩, x0.2.2.1.1⟩, ⟨(.sl (.int .i64)), ⟨a6, l8, c7⟩, x0.2.2.2.2.2.2.2.2.2.2.1⟩, ⟨(.pair (.sl (.int .i64)) (.int .i64)), ⟨a10, l12, c11⟩, x0.2.2.2.2.2.2.2.2.2.2.2.1⟩, ⟨(.int .i64), ⟨a14, l16, c15⟩, x0.2.2.2.2.2.2.2.2.2.2.2.2.2.1.1⟩, ⟨(.int .i64), ⟨a18, l20, c19⟩, x0.2.2.2.2.2.2.2.2.2.2.2.2.2.2.1⟩, ⟨(.int .i64), ⟨a22, l24, c23⟩, x0.2.2.2.2.2.2.2.2.2.2.2.2.2.2.2.2.1⟩] (fun _ : Option Addr × Nat × Option Addr × Nat × Option Addr × Nat × Option Addr × Nat => True) (fun q => .agg #[.bool r.1, .int .i64 r.2.1, .slice q.1 r.2.2.1.1.length q.2.1, .int .i64 r.2.2.1.2, .int .i64 r.2.2.2.1, .int .i64 r.2.2.2.2.1, .int .i64 r.2.2.2.2.2.1, .int .i64 r.2.2.2.2.2.2.1, .int .i64 r.2.2.2.2.2.2.2.1, .int .i64 r.2.2.2.2.2.2.2.2.1, .int .i64 r.2.2.2.2.2.2.2.2.2.1, .slice q.2.2.1 r.2.2.2.2.2.2.2.2.2.2.1.length q.2.2.2.1, .slice q.2.2.2.2.1 r.2.2.2.2.2.2.2.2.2.2.2.1.length q.2.2.2.2.2.1, .int .i64 r.2.2.2.2.2.2.2.2.2.2.2.2.1, .slice q.2.2.2.2.2.2.1 r.2.2.2.2.2.2.2.2.2.2.2.2.2.1.1.length q.2.2.2.2.2.2.2, .int .i64 r.2.2.2.2.2.2.2.2.2.2.2.2.2.1.2, .slice none 0 0, .int .i64 r.2.2.2.2.2.2.2.2.2.2.2.2.2.2.2.1, .slice none 0 0, .int .i64 r.2.2.2.2.2.2.2.2.2.2.2.2.2.2.2.2.2]) (fun q => [⟨(.int .i64), ⟨q.1, r.2.2.1.1.length, q.2.1⟩, r.2.2.1.1⟩, ⟨(.sl (.int .i64)), ⟨q.2.2.1, r.2.2.2.2.2.2.2.2.2.2.1.length, q.2.2.2.1⟩, r.2.2.2.2.2.2.2.2.2.2.1⟩, ⟨(.pair (.sl (.int .i64)) (.int .i64)), ⟨q.2.2.2.2.1, r.2.2.2.2.2.2.2.2.2.2.2.1.length, q.2.2.2.2.2.1⟩, r.2.2.2.2.2.2.2.2.2.2.2.1⟩, ⟨(.int .i64), ⟨q.2.2.2.2.2.2.1, r.2.2.2.2.2.2.2.2.2.2.2.2.2.1.1.length, q.2.2.2.2.2.2.2⟩, r.2.2.2.2.2.2.2.2.2.2.2.2.2.1.1⟩]) :=
  by
    subst hl5
    subst hl9
    subst hl13
    subst hl17
    subst hl21
    subst hl25
    refine FC.of (T := TTx) Try.call88 Try.func88 rfl rfl fun w0 => ?_
    unfold M_i_left at h
    refine JS.seq ?_
    refine JS.region ?_
    refine JO.regB ttOk 2 [] [7, 8] [(1, .bp 7 0), (2, .bp 8 0)] (.new 7 47 [.bool x0.1, .int .i64 x0.2.1, .slice a2 x0.2.2.1.1.length c3, .int .i64 x0.2.2.1.2, .int .i64 x0.2.2.2.1, .int .i64 x0.2.2.2.2.1, .int .i64 x0.2.2.2.2.2.1, .int .i64 x0.2.2.2.2.2.2.1, .int .i64 x0.2.2.2.2.2.2.2.1, .int .i64 x0.2.2.2.2.2.2.2.2.1, .int .i64 x0.2.2.2.2.2.2.2.2.2.1, .slice a6 x0.2.2.2.2.2.2.2.2.2.2.1.length c7, .slice a10 x0.2.2.2.2.2.2.2.2.2.2.2.1.length c11, .int .i64 x0.2.2.2.2.2.2.2.2.2.2.2.2.1, .slice a14 x0.2.2.2.2.2.2.2.2.2.2.2.2.2.1.1.length c15, .int .i64 x0.2.2.2.2.2.2.2.2.2.2.2.2.2.1.2, .slice a18 x0.2.2.2.2.2.2.2.2.2.2.2.2.2.2.1.length c19, .int .i64 x0.2.2.2.2.2.2.2.2.2.2.2.2.2.2.2.1, .slice a22 x0.2.2.2.2.2.2.2.2.2.2.2.2.2.2.2.2.1.length c23, .int .i64 x0.2.2.2.2.2.2.2.2.2.2.2.2.2.2.2.2.2] (.new 8 47 [.bool false, .int .i64 0, .slice none 0 0, .int .i64 0, .int .i64 0, .int .i64 0, .int .i64 0, .int .i64 0, .int .i64 0, .int .i64 0, .int .i64 0, .slice none 0 0, .slice none 0 0, .int .i64 0, .slice none 0 0, .int .i64 0, .slice none 0 0, .int .i64 0, .slice none 0 0, .int .i64 0] .nil)) rfl ⟨⟨rfl, rfl, trivial⟩, ⟨rfl, rfl, rfl, rfl, rfl, rfl, rfl, rfl, trivial⟩⟩ ?_
    refine JO.done rfl ?_
    refine JS.seq ?_
    refine JS.region ?_
    refine JO.reg ttOk 1 [] [] [(4, .v (.agg #[.bool x0.1, .int .i64 x0.2.1, .slice a2 x0.2.2.1.1.length c3, .int .i64 x0.2.2.1.2, .int .i64 x0.2.2.2.1, .int .i64 x0.2.2.2.2.1, .int .i64 x0.2.2.2.2.2.1, .int .i64 x0.2.2.2.2.2.2.1, .int .i64 x0.2.2.2.2.2.2.2.1, .int .i64 x0.2.2.2.2.2.2.2.2.1, .int .i64 x0.2.2.2.2.2.2.2.2.2.1, .slice a6 x0.2.2.2.2.2.2.2.2.2.2.1.length c7, .slice a10 x0.2.2.2.2.2.2.2.2.2.2.2.1.length c11, .int .i64 x0.2.2.2.2.2.2.2.2.2.2.2.2.1, .slice a14 x0.2.2.2.2.2.2.2.2.2.2.2.2.2.1.1.length c15, .int .i64 x0.2.2.2.2.2.2.2.2.2.2.2.2.2.1.2, .slice a18 x0.2.2.2.2.2.2.2.2.2.2.2.2.2.2.1.length c19, .int .i64 x0.2.2.2.2.2.2.2.2.2.2.2.2.2.2.2.1, .slice a22 x0.2.2.2.2.2.2.2.2.2.2.2.2.2.2.2.2.1.length c23, .int .i64 x0.2.2.2.2.2.2.2.2.2.2.2.2.2.2.2.2.2]))] _ rfl ⟨⟨rfl, trivial⟩, rfl⟩ ?_
    obtain ⟨y26, hy27, h⟩ := bindO_some h
    refine JO.call rfl rfl rfl rfl (ok_i_copyEd x0 a2 c3 x0.2.2.1.1.length rfl a6 c7 x0.2.2.2.2.2.2.2.2.2.2.1.length rfl a10 c11 x0.2.2.2.2.2.2.2.2.2.2.2.1.length rfl a14 c15 x0.2.2.2.2.2.2.2.2.2.2.2.2.2.1.1.length rfl a18 c19 x0.2.2.2.2.2.2.2.2.2.2.2.2.2.2.1.length rfl a22 c23 x0.2.2.2.2.2.2.2.2.2.2.2.2.2.2.2.2.1.length rfl _ hy27) rfl [0, 1, 2, 3, 4, 5] rfl rfl ?_
    rintro ⟨a28, c29, a30, c31, a32, c33, a34, c35, a36, c37, a38, c39⟩ -
    refine JO.regB ttOk 2 [] [29] [(3, .bp 29 0)] (.new 7 47 [.bool x0.1, .int .i64 x0.2.1, .slice a2 x0.2.2.1.1.length c3, .int .i64 x0.2.2.1.2, .int .i64 x0.2.2.2.1, .int .i64 x0.2.2.2.2.1, .int .i64 x0.2.2.2.2.2.1, .int .i64 x0.2.2.2.2.2.2.1, .int .i64 x0.2.2.2.2.2.2.2.1, .int .i64 x0.2.2.2.2.2.2.2.2.1, .int .i64 x0.2.2.2.2.2.2.2.2.2.1, .slice a6 x0.2.2.2.2.2.2.2.2.2.2.1.length c7, .slice a10 x0.2.2.2.2.2.2.2.2.2.2.2.1.length c11, .int .i64 x0.2.2.2.2.2.2.2.2.2.2.2.2.1, .slice a14 x0.2.2.2.2.2.2.2.2.2.2.2.2.2.1.1.length c15, .int .i64 x0.2.2.2.2.2.2.2.2.2.2.2.2.2.1.2, .slice a18 x0.2.2.2.2.2.2.2.2.2.2.2.2.2.2.1.length c19, .int .i64 x0.2.2.2.2.2.2.2.2.2.2.2.2.2.2.2.1, .slice a22 x0.2.2.2.2.2.2.2.2.2.2.2.2.2.2.2.2.1.length c23, .int .i64 x0.2.2.2.2.2.2.2.2.2.2.2.2.2.2.2.2.2] (.new 8 47 [.bool false, .int .i64 0, .slice none 0 0, .int .i64 0, .int .i64 0, .int .i64 0, .int .i64 0, .int .i64 0, .int .i64 0, .int .i64 0, .int .i64 0, .slice none 0 0, .slice none 0 0, .int .i64 0, .slice none 0 0, .int .i64 0, .slice none 0 0, .int .i64 0, .slice none 0 0, .int .i64 0] (.new 29 47 [.bool y26.1, .int .i64 y26.2.1, .slice a28 y26.2.2.1.1.length c29, .int .i64 y26.2.2.1.2, .int .i64 y26.2.2.2.1, .int .i64 y26.2.2.2.2.1, .int .i64 y26.2.2.2.2.2.1, .int .i64 y26.2.2.2.2.2.2.1, .int .i64 y26.2.2.2.2.2.2.2.1, .int .i64 y26.2.2.2.2.2.2.2.2.1, .int .i64 y26.2.2.2.2.2.2.2.2.2.1, .slice a30 y26.2.2.2.2.2.2.2.2.2.2.1.length c31, .slice a32 y26.2.2.2.2.2.2.2.2.2.2.2.1.length c33, .int .i64 y26.2.2.2.2.2.2.2.2.2.2.2.2.1, .slice a34 y26.2.2.2.2.2.2.2.2.2.2.2.2.2.1.1.length c35, .int .i64 y26.2.2.2.2.2.2.2.2.2.2.2.2.2.1.2, .slice a36 y26.2.2.2.2.2.2.2.2.2.2.2.2.2.2.1.length c37, .int .i64 y26.2.2.2.2.2.2.2.2.2.2.2.2.2.2.2.1, .slice a38 y26.2.2.2.2.2.2.2.2.2.2.2.2.2.2.2.2.1.length c39, .int .i64 y26.2.2.2.2.2.2.2.2.2.2.2.2.2.2.2.2.2] .nil))) rfl ⟨⟨rfl, trivial⟩, ⟨rfl, rfl, rfl, rfl, rfl, rfl, rfl, rfl, rfl, rfl, rfl, rfl, trivial⟩⟩ ?_
    refine JO.done rfl ?_
    refine JS.seq ?_
    refine JS.region ?_
    refine JO.regB ttOk 2 [] [] [] (.new 7 47 [.bool x0.1, .int .i64 x0.2.1, .slice a2 x0.2.2.1.1.length c3, .int .i64 x0.2.2.1.2, .int .i64 x0.2.2.2.1, .int .i64 x0.2.2.2.2.1, .int .i64 x0.2.2.2.2.2.1, .int .i64 x0.2.2.2.2.2.2.1, .int .i64 x0.2.2.2.2.2.2.2.1, .int .i64 x0.2.2.2.2.2.2.2.2.1, .int .i64 x0.2.2.2.2.2.2.2.2.2.1, .slice a6 x0.2.2.2.2.2.2.2.2.2.2.1.length c7, .slice a10 x0.2.2.2.2.2.2.2.2.2.2.2.1.length c11, .int .i64 x0.2.2.2.2.2.2.2.2.2.2.2.2.1, .slice a14 x0.2.2.2.2.2.2.2.2.2.2.2.2.2.1.1.length c15, .int .i64 x0.2.2.2.2.2.2.2.2.2.2.2.2.2.1.2, .slice a18 x0.2.2.2.2.2.2.2.2.2.2.2.2.2.2.1.length c19, .int .i64 x0.2.2.2.2.2.2.2.2.2.2.2.2.2.2.2.1, .slice a22 x0.2.2.2.2.2.2.2.2.2.2.2.2.2.2.2.2.1.length c23, .int .i64 x0.2.2.2.2.2.2.2.2.2.2.2.2.2.2.2.2.2] (.new 8 47 [.bool false, .int .i64 0, .slice none 0 0, .int .i64 0, .int .i64 0, .int .i64 0, .int .i64 0, .int .i64 0, .int .i64 0, .int .i64 0, .int .i64 0, .slice none 0 0, .slice none 0 0, .int .i64 0, .slice none 0 0, .int .i64 0, .slice none 0 0, .int .i64 0, .slice none 0 0, .int .i64 0] (.new 29 47 [.bool y26.1, .int .i64 0, .slice a28 y26.2.2.1.1.length c29, .int .i64 y26.2.2.1.2, .int .i64 y26.2.2.2.1, .int .i64 y26.2.2.2.2.1, .int .i64 y26.2.2.2.2.2.1, .int .i64 y26.2.2.2.2.2.2.1, .int .i64 y26.2.2.2.2.2.2.2.1, .int .i64 y26.2.2.2.2.2.2.2.2.1, .int .i64 y26.2.2.2.2.2.2.2.2.2.1, .slice a30 y26.2.2.2.2.2.2.2.2.2.2.1.length c31, .slice a32 y26.2.2.2.2.2.2.2.2.2.2.2.1.length c33, .int .i64 y26.2.2.2.2.2.2.2.2.2.2.2.2.1, .slice a34 y26.2.2.2.2.2.2.2.2.2.2.2.2.2.1.1.length c35, .int .i64 y26.2.2.2.2.2.2.2.2.2.2.2.2.2.1.2, .slice a36 y26.2.2.2.2.2.2.2.2.2.2.2.2.2.2.1.length c37, .int .i64 y26.2.2.2.2.2.2.2.2.2.2.2.2.2.2.2.1, .slice a38 y26.2.2.2.2.2.2.2.2.2.2.2.2.2.2.2.2.1.length c39, .int .i64 y26.2.2.2.2.2.2.2.2.2.2.2.2.2.2.2.2.2] .nil))) rfl ⟨trivial, ⟨rfl, rfl, rfl, rfl, rfl, rfl, rfl, rfl, rfl, rfl, rfl, rfl, trivial⟩⟩ ?_
    refine JO.done rfl ?_
    obtain ⟨j42, hj48, h⟩ := joinO_some h
    refine JS.seqJ (ι := Int) ⟨fun z => j42 z = some r, fun z => [(2, .bp 8 0), (3, .bp 29 0)], fun z => (.new 8 47 [.bool false, .int .i64 0, .slice none 0 0, .int .i64 0, .int .i64 0, .int .i64 0, .int .i64 0, .int .i64 0, .int .i64 0, .int .i64 0, .int .i64 0, .slice none 0 0, .slice none 0 0, .int .i64 0, .slice none 0 0, .int .i64 0, .slice none 0 0, .int .i64 0, .slice none 0 0, .int .i64 0] (.new 29 47 [.bool y26.1, .int .i64 z, .slice a28 y26.2.2.1.1.length c29, .int .i64 y26.2.2.1.2, .int .i64 y26.2.2.2.1, .int .i64 y26.2.2.2.2.1, .int .i64 y26.2.2.2.2.2.1, .int .i64 y26.2.2.2.2.2.2.1, .int .i64 y26.2.2.2.2.2.2.2.1, .int .i64 y26.2.2.2.2.2.2.2.2.1, .int .i64 y26.2.2.2.2.2.2.2.2.2.1, .slice a30 y26.2.2.2.2.2.2.2.2.2.2.1.length c31, .slice a32 y26.2.2.2.2.2.2.2.2.2.2.2.1.length c33, .int .i64 y26.2.2.2.2.2.2.2.2.2.2.2.2.1, .slice a34 y26.2.2.2.2.2.2.2.2.2.2.2.2.2.1.1.length c35, .int .i64 y26.2.2.2.2.2.2.2.2.2.2.2.2.2.1.2, .slice a36 y26.2.2.2.2.2.2.2.2.2.2.2.2.2.2.1.length c37, .int .i64 y26.2.2.2.2.2.2.2.2.2.2.2.2.2.2.2.1, .slice a38 y26.2.2.2.2.2.2.2.2.2.2.2.2.2.2.2.2.1.length c39, .int .i64 y26.2.2.2.2.2.2.2.2.2.2.2.2.2.2.2.2.2] .nil)), fun z => [], fun z => [⟨(.int .i64), ⟨a28, y26.2.2.1.1.length, c29⟩, y26.2.2.1.1⟩, ⟨(.sl (.int .i64)), ⟨a30, y26.2.2.2.2.2.2.2.2.2.2.1.length, c31⟩, y26.2.2.2.2.2.2.2.2.2.2.1⟩, ⟨(.pair (.sl (.int .i64)) (.int .i64)), ⟨a32, y26.2.2.2.2.2.2.2.2.2.2.2.1.length, c33⟩, y26.2.2.2.2.2.2.2.2.2.2.2.1⟩, ⟨(.int .i64), ⟨a34, y26.2.2.2.2.2.2.2.2.2.2.2.2.2.1.1.length, c35⟩, y26.2.2.2.2.2.2.2.2.2.2.2.2.2.1.1⟩, ⟨(.int .i64), ⟨a36, y26.2.2.2.2.2.2.2.2.2.2.2.2.2.2.1.length, c37⟩, y26.2.2.2.2.2.2.2.2.2.2.2.2.2.2.1⟩, ⟨(.int .i64), ⟨a38, y26.2.2.2.2.2.2.2.2.2.2.2.2.2.2.2.2.1.length, c39⟩, y26.2.2.2.2.2.2.2.2.2.2.2.2.2.2.2.2.1⟩], fun z => 0⟩ ?_ ?_
    · refine JS.seq ?_
      refine JS.region ?_
      refine JO.reg ttOk 2 [] [] [(8, .v (.bool x0.1))] _ rfl ⟨⟨rfl, trivial⟩, rfl⟩ ?_
      refine JO.done rfl ?_
      refine JS.cond rfl (fun ht47 => ?_) (fun ht47 => ?_)
      · have h := condT h ht47
        refine JS.region ?_
        refine JO.regB ttOk 2 [] [] [] (.new 8 47 [.bool false, .int .i64 0, .slice none 0 0, .int .i64 0, .int .i64 0, .int .i64 0, .int .i64 0, .int .i64 0, .int .i64 0, .int .i64 0, .int .i64 0, .slice none 0 0, .slice none 0 0, .int .i64 0, .slice none 0 0, .int .i64 0, .slice none 0 0, .int .i64 0, .slice none 0 0, .int .i64 0] (.new 29 47 [.bool y26.1, .int .i64 2, .slice a28 y26.2.2.1.1.length c29, .int .i64 y26.2.2.1.2, .int .i64 y26.2.2.2.1, .int .i64 y26.2.2.2.2.1, .int .i64 y26.2.2.2.2.2.1, .int .i64 y26.2.2.2.2.2.2.1, .int .i64 y26.2.2.2.2.2.2.2.1, .int .i64 y26.2.2.2.2.2.2.2.2.1, .int .i64 y26.2.2.2.2.2.2.2.2.2.1, .slice a30 y26.2.2.2.2.2.2.2.2.2.2.1.length c31, .slice a32 y26.2.2.2.2.2.2.2.2.2.2.2.1.length c33, .int .i64 y26.2.2.2.2.2.2.2.2.2.2.2.2.1, .slice a34 y26.2.2.2.2.2.2.2.2.2.2.2.2.2.1.1.length c35, .int .i64 y26.2.2.2.2.2.2.2.2.2.2.2.2.2.1.2, .slice a36 y26.2.2.2.2.2.2.2.2.2.2.2.2.2.2.1.length c37, .int .i64 y26.2.2.2.2.2.2.2.2.2.2.2.2.2.2.2.1, .slice a38 y26.2.2.2.2.2.2.2.2.2.2.2.2.2.2.2.2.1.length c39, .int .i64 y26.2.2.2.2.2.2.2.2.2.2.2.2.2.2.2.2.2] .nil)) rfl ⟨trivial, ⟨rfl, rfl, rfl, rfl, rfl, rfl, rfl, rfl, trivial⟩⟩ ?_
        refine JO.done rfl ?_
        exact JS.endJA 2 h ⟨rfl, rfl, trivial⟩ ⟨rfl, rfl, rfl, rfl, rfl, rfl, rfl, rfl, trivial⟩ [] rfl [0, 1, 2, 3, 4, 5] rfl rfl
      · have h := condF h ht47
        refine JS.skip ?_
        exact JS.endJA 0 h ⟨rfl, rfl, trivial⟩ ⟨rfl, rfl, rfl, rfl, rfl, rfl, rfl, rfl, trivial⟩ [] rfl [0, 1, 2, 3, 4, 5] rfl rfl
    · rintro x41 h
      subst hj48
      refine JS.seq ?_
      refine JS.region ?_
      refine JO.regB ttOk 7 [] [] [] (.new 8 47 [.bool false, .int .i64 0, .slice none 0 0, .int .i64 0, .int .i64 0, .int .i64 0, .int .i64 0, .int .i64 0, .int .i64 0, .int .i64 0, .int .i64 0, .slice none 0 0, .slice none 0 0, .int .i64 0, .slice none 0 0, .int .i64 0, .slice none 0 0, .int .i64 0, .slice none 0 0, .int .i64 0] (.new 29 47 [.bool y26.1, .int .i64 x41, .slice a28 y26.2.2.1.1.length c29, .int .i64 y26.2.2.1.2, .int .i64 y26.2.2.2.1, .int .i64 y26.2.2.2.2.1, .int .i64 y26.2.2.2.2.2.1, .int .i64 y26.2.2.2.2.2.2.1, .int .i64 y26.2.2.2.2.2.2.2.1, .int .i64 y26.2.2.2.2.2.2.2.2.1, .int .i64 y26.2.2.2.2.2.2.2.2.2.1, .slice a30 y26.2.2.2.2.2.2.2.2.2.2.1.length c31, .slice a32 y26.2.2.2.2.2.2.2.2.2.2.2.1.length c33, .int .i64 y26.2.2.2.2.2.2.2.2.2.2.2.2.1, .slice a34 y26.2.2.2.2.2.2.2.2.2.2.2.2.2.1.1.length c35, .int .i64 y26.2.2.2.2.2.2.2.2.2.2.2.2.2.1.2, .slice none 0 0, .int .i64 0, .slice none 0 0, .int .i64 0] .nil)) rfl ⟨trivial, ⟨rfl, rfl, rfl, rfl, rfl, rfl, rfl, rfl, trivial⟩⟩ ?_
      refine JO.done rfl ?_
      refine JS.seq ?_
      refine JS.region ?_
      refine JO.reg ttOk 4 [] [] [(15, .v (.agg #[.slice a28 y26.2.2.1.1.length c29, .int .i64 y26.2.2.1.2])), (17, .v (.int .i64 x41))] _ rfl ⟨⟨rfl, rfl, trivial⟩, rfl⟩ ?_
      obtain ⟨y44, hy45, h⟩ := bindO_some h
      refine JO.call rfl rfl rfl rfl (ok_i_inCommand (y26.2.2.1.1, y26.2.2.1.2) x41 a28 c29 y26.2.2.1.1.length rfl _ hy45) rfl [0] rfl rfl ?_
      intro _ _
      refine JO.regB ttOk 2 [] [] [] (.new 8 47 [.bool false, .int .i64 0, .slice none 0 0, .int .i64 0, .int .i64 0, .int .i64 0, .int .i64 0, .int .i64 0, .int .i64 0, .int .i64 0, .int .i64 0, .slice none 0 0, .slice none 0 0, .int .i64 0, .slice none 0 0, .int .i64 0, .slice none 0 0, .int .i64 0, .slice none 0 0, .int .i64 0] (.new 29 47 [.bool y26.1, .int .i64 x41, .slice a28 y26.2.2.1.1.length c29, .int .i64 y44.2, .int .i64 y26.2.2.2.1, .int .i64 y26.2.2.2.2.1, .int .i64 y26.2.2.2.2.2.1, .int .i64 y26.2.2.2.2.2.2.1, .int .i64 y26.2.2.2.2.2.2.2.1, .int .i64 y26.2.2.2.2.2.2.2.2.1, .int .i64 y26.2.2.2.2.2.2.2.2.2.1, .slice a30 y26.2.2.2.2.2.2.2.2.2.2.1.length c31, .slice a32 y26.2.2.2.2.2.2.2.2.2.2.2.1.length c33, .int .i64 y26.2.2.2.2.2.2.2.2.2.2.2.2.1, .slice a34 y26.2.2.2.2.2.2.2.2.2.2.2.2.2.1.1.length c35, .int .i64 y26.2.2.2.2.2.2.2.2.2.2.2.2.2.1.2, .slice none 0 0, .int .i64 0, .slice none 0 0, .int .i64 0] .nil)) rfl ⟨trivial, ⟨rfl, rfl, rfl, rfl, rfl, rfl, rfl, rfl, trivial⟩⟩ ?_
      refine JO.done rfl ?_
      refine JS.seq ?_
      refine JS.region ?_
      refine JO.regB ttOk 2 [] [] [] (.new 8 47 [.bool y26.1, .int .i64 x41, .slice a28 y26.2.2.1.1.length c29, .int .i64 y44.2, .int .i64 y26.2.2.2.1, .int .i64 y26.2.2.2.2.1, .int .i64 y26.2.2.2.2.2.1, .int .i64 y26.2.2.2.2.2.2.1, .int .i64 y26.2.2.2.2.2.2.2.1, .int .i64 y26.2.2.2.2.2.2.2.2.1, .int .i64 y26.2.2.2.2.2.2.2.2.2.1, .slice a30 y26.2.2.2.2.2.2.2.2.2.2.1.length c31, .slice a32 y26.2.2.2.2.2.2.2.2.2.2.2.1.length c33, .int .i64 y26.2.2.2.2.2.2.2.2.2.2.2.2.1, .slice a34 y26.2.2.2.2.2.2.2.2.2.2.2.2.2.1.1.length c35, .int .i64 y26.2.2.2.2.2.2.2.2.2.2.2.2.2.1.2, .slice none 0 0, .int .i64 0, .slice none 0 0, .int .i64 0] .nil) rfl ⟨trivial, ⟨rfl, rfl, rfl, rfl, trivial⟩⟩ ?_
      refine JO.done rfl ?_
      cases h
      exact JS.ret ttOk (a28, c29, a30, c31, a32, c33, a34, c35) trivial rfl rfl [0, 0, 0, 0] rfl

def M_i_Leave (x0 : Bool × Int × (List Int × Int) × Int × Int × Int × Int × Int × Int × Int × List (List Int) × (List (List Int × Int)) × Int × (List Int × Int) × List Int × Int × List Int × Int) : Option (Bool × Int × (List Int × Int) × Int × Int × Int × Int × Int × Int × Int × List (List Int) × (List (List Int × Int)) × Int × (List Int × Int) × List Int × Int × List Int × Int) :=
  (bindO (M_i_EdOk x0) fun (y26 : Bool) =>
  (bif (bif (!y26) then true else (!(decide (x0.2.1 = 3)))) then
  some (false, 0, ([], 0), 0, 0, 0, 0, 0, 0, 0, [], [], 0, ([], 0), [], 0, ([], 0))
  else
  (bindO (M_i_left x0) fun (y28 : Bool × Int × (List Int × Int) × Int × Int × Int × Int × Int × Int × Int × List (List Int) × (List (List Int × Int)) × Int × (List Int × Int) × List Int × Int × List Int × Int) =>
  some (y28.1, y28.2.1, (y28.2.2.1.1, y28.2.2.1.2), y28.2.2.2.1, y28.2.2.2.2.1, y28.2.2.2.2.2.1, y28.2.2.2.2.2.2.1, y28.2.2.2.2.2.2.2.1, y28.2.2.2.2.2.2.2.2.1, y28.2.2.2.2.2.2.2.2.2.1, y28.2.2.2.2.2.2.2.2.2.2.1, y28.2.2.2.2.2.2.2.2.2.2.2.1, y28.2.2.2.2.2.2.2.2.2.2.2.2.1, (y28.2.2.2.2.2.2.2.2.2.2.2.2.2.1.1, y28.2.2.2.2.2.2.2.2.2.2.2.2.2.1.2), [], y28.2.2.2.2.2.2.2.2.2.2.2.2.2.2.2.1, ([], y28.2.2.2.2.2.2.2.2.2.2.2.2.2.2.2.2.2)))))

theorem ok_i_Leave (x0 : Bool × Int × (List Int × Int) × Int × Int × Int × Int × Int × Int × Int × List (List Int) × (List (List Int × Int)) × Int × (List Int × Int) × List Int × Int × List Int × Int) (a2 : Option Addr) (c3 : Nat) (l4 : Nat) (hl5 : x0.2.2.1.1.length = l4) (a6 : Option Addr) (c7 : Nat) (l8 : Nat) (hl9 : x0.2.2.2.2.2.2.2.2.2.2.1.length = l8) (a10 : Option Addr) (c11 : Nat) (l12 : Nat) (hl13 : x0.2.2.2.2.2.2.2.2.2.2.2.1.length = l12) (a14 : Option Addr) (c15 : Nat) (l16 : Nat) (hl17 : x0.2.2.2.2.2.2.2.2.2.2.2.2.2.1.1.length = l16) (a18 : Option Addr) (c19 : Nat) (l20 : Nat) (hl21 : x0.2.2.2.2.2.2.2.2.2.2.2.2.2.2.1.length = l20) (a22 : Option Addr) (c23 : Nat) (l24 : Nat) (hl25 : x0.2.2.2.2.2.2.2.2.2.2.2.2.2.2.2.2.1.length = l24) (r : Bool × Int × (List Int × Int) × Int × Int × Int × Int × Int × Int × Int × List (List Int) × (List (List Int × Int)) × Int × (List Int × Int) × List Int × Int × List Int × Int) (h : M_i_Leave x0 = some r) :
    FC Try.prog 32 [.agg #[.bool x0.1, .int .i64 x0.2.1, .slice a2 l4 c3, .int .i64 x0.2.2.1.2, .int .i64 x0.2.2.2.1, .int .i64 x0.2.2.2.2.1, .int .i64 x0.2.2.2.2.2.1, .int .i64 x0.2.2.2.2.2.2.1, .int .i64 x0.2.2.2.2.2.2.2.1, .int .i64 x0.2.2.2.2.2.2.2.2.1, .int .i64 x0.2.2.2.2.2.2.2.2.2.1, .slice a6 l8 c7, .slice a10 l12 c11, .int .i64 x0.2.2.2.2.2.2.2.2.2.2.2.2.1, .slice a14 l16 c15, .int .i64 x0.2.2.2.2.2.2.2.2.2.2.2.2.2.1.2, .slice a18 l20 c19, .int .i64 x0.2.2.2.2.2.2.2.2.2.2.2.2.2.2.2.1, .slice a22 l24 c23, .int .i64 x0.2.2.2.2.2.2.2.2.2.2.2.2.2.2.2.2.2]] [⟨(.int .i64), ⟨a2, l4, c3⟩, x0.2.2.1.1⟩, ⟨(.sl (.int .i64)), ⟨a6, l8, c7⟩, x0.2.2.2.2.2.2.2.2.2.2.1⟩, ⟨(.pair (.sl (.int .i64)) (.int .i64)), ⟨a10, l12, c11⟩, x0.2.2.2.2.2.2.2.2.2.2.2.1⟩, ⟨(.int .i64), ⟨a14, l16, c15⟩, x0.2.2.2.2.2.2.2.2.2.2.2.2.2.1.1⟩, ⟨(.int .i64), ⟨a18, l20, c19⟩, x0.2.2.2.2.2.2.2.2.2.2.2.2.2.2.1⟩, ⟨(.int .i64), ⟨a22, l24, c23⟩, x0.2.2.2.2.2.2.2.2.2.2.2.2.2.2.2.2.1⟩] (fun _ : Option Addr × Nat × Option Addr × Nat × Option Addr × Nat × Option Addr × Nat => True) (fun q => .agg #[.bool r.1, .int .i64 r.2.1, .slice q.1 r.2.2.1.1.length q.2.1, .int .i64 r.2.2.1.2, .int .i64 r.2.2.2.1, .int .i64 r.2.2.2.2.1, .int .i64 r.2.2.2.2.2.1, .int .i64 r.2.2.2.2.2.2.1, .int .i64 r.2.2.2.2.2.2.2.1, .int .i64 r.2.2.2.2.2.2.2.2.1, .int .i64 r.2.2.2.2.2.2.2.2.2.1, .slice q.2.2.1 r.2.2.2.2.2.2.2.2.2.2.1.length q.2.2.2.1, .slice q.2.2.2.2.1 r.2.2.2.2.2.2.2.2.2.2.2.1.length q.2.2.2.2.2.1, .int .i64 r.2.2.2.2.2.2.2.2.2.2.2.2.1, .slice q.2.2.2.2.2.2.1 r.2.2.2.2.2.2.2.2.2.2.2.2.2.1.1.length q.2.2.2.2.2.2.2, .int .i64 r.2.2.2.2.2.2.2.2.2.2.2.2.2.1.2, .slice none 0 0, .int .i64 r.2.2.2.2.2.2.2.2.2.2.2.2.2.2.2.1, .slice none 0 0, .int .i64 r.2.2.2.2.2.2.2.2.2.2.2.2.2.2.2.2.2]) (fun q => [⟨(.int .i64), ⟨q.1, r.2.2.1.1.length, q.2.1⟩, r.2.2.1.1⟩, ⟨(.sl (.int .i64)), ⟨q.2.2.1, r.2.2.2.2.2.2.2.2.2.2.1.length, q.2.2.2.1⟩, r.2.2.2.2.2.2.2.2.2.2.1⟩, ⟨(.pair (.sl (.int .i64)) (.int .i64)), ⟨q.2.2.2.2.1, r.2.2.2.2.2.2.2.2.2.2.2.1.length, q.2.2.2.2.2.1⟩, r.2.2.2.2.2.2.2.2.2.2.2.1⟩, ⟨(.int .i64), ⟨q.2.2.2.2.2.2.1, r.2.2.2.2.2.2.2.2.2.2.2.2.2.1.1.length, q.2.2.2.2.2.2.2⟩, r.2.2.2.2.2.2.2.2.2.2.2.2.2.1.1⟩]) :=
  by
    subst hl5
    subst hl9
    subst hl13
    subst hl17
    subst hl21
    subst hl25
    refine FC.of (T := TTx) Try.call32 Try.func32 rfl rfl fun w0 => ?_
    unfold M_i_Leave at h
    refine JS.seq ?_
    refine JS.region ?_
    refine JO.regB ttOk 2 [] [7, 8] [(1, .bp 7 0), (2, .bp 8 0)] (.new 7 47 [.bool x0.1, .int .i64 x0.2.1, .slice a2 x0.2.2.1.1.length c3, .int .i64 x0.2.2.1.2, .int .i64 x0.2.2.2.1, .int .i64 x0.2.2.2.2.1, .int .i64 x0.2.2.2.2.2.1, .int .i64 x0.2.2.2.2.2.2.1, .int .i64 x0.2.2.2.2.2.2.2.1, .int .i64 x0.2.2.2.2.2.2.2.2.1, .int .i64 x0.2.2.2.2.2.2.2.2.2.1, .slice a6 x0.2.2.2.2.2.2.2.2.2.2.1.length c7, .slice a10 x0.2.2.2.2.2.2.2.2.2.2.2.1.length c11, .int .i64 x0.2.2.2.2.2.2.2.2.2.2.2.2.1, .slice a14 x0.2.2.2.2.2.2.2.2.2.2.2.2.2.1.1.length c15, .int .i64 x0.2.2.2.2.2.2.2.2.2.2.2.2.2.1.2, .slice a18 x0.2.2.2.2.2.2.2.2.2.2.2.2.2.2.1.length c19, .int .i64 x0.2.2.2.2.2.2.2.2.2.2.2.2.2.2.2.1, .slice a22 x0.2.2.2.2.2.2.2.2.2.2.2.2.2.2.2.2.1.length c23, .int .i64 x0.2.2.2.2.2.2.2.2.2.2.2.2.2.2.2.2.2] (.new 8 47 [.bool false, .int .i64 0, .slice none 0 0, .int .i64 0, .int .i64 0, .int .i64 0, .int .i64 0, .int .i64 0, .int .i64 0, .int .i64 0, .int .i64 0, .slice none 0 0, .slice none 0 0, .int .i64 0, .slice none 0 0, .int .i64 0, .slice none 0 0, .int .i64 0, .slice none 0 0, .int .i64 0] .nil)) rfl ⟨⟨rfl, rfl, trivial⟩, ⟨rfl, rfl, rfl, rfl, rfl, rfl, rfl, rfl, trivial⟩⟩ ?_
    refine JO.done rfl ?_
    refine JS.seq ?_
    refine JS.seq ?_
    refine JS.region ?_
    refine JO.reg ttOk 1 [] [] [(3, .v (.agg #[.bool x0.1, .int .i64 x0.2.1, .slice a2 x0.2.2.1.1.length c3, .int .i64 x0.2.2.1.2, .int .i64 x0.2.2.2.1, .int .i64 x0.2.2.2.2.1, .int .i64 x0.2.2.2.2.2.1, .int .i64 x0.2.2.2.2.2.2.1, .int .i64 x0.2.2.2.2.2.2.2.1, .int .i64 x0.2.2.2.2.2.2.2.2.1, .int .i64 x0.2.2.2.2.2.2.2.2.2.1, .slice a6 x0.2.2.2.2.2.2.2.2.2.2.1.length c7, .slice a10 x0.2.2.2.2.2.2.2.2.2.2.2.1.length c11, .int .i64 x0.2.2.2.2.2.2.2.2.2.2.2.2.1, .slice a14 x0.2.2.2.2.2.2.2.2.2.2.2.2.2.1.1.length c15, .int .i64 x0.2.2.2.2.2.2.2.2.2.2.2.2.2.1.2, .slice a18 x0.2.2.2.2.2.2.2.2.2.2.2.2.2.2.1.length c19, .int .i64 x0.2.2.2.2.2.2.2.2.2.2.2.2.2.2.2.1, .slice a22 x0.2.2.2.2.2.2.2.2.2.2.2.2.2.2.2.2.1.length c23, .int .i64 x0.2.2.2.2.2.2.2.2.2.2.2.2.2.2.2.2.2]))] _ rfl ⟨⟨rfl, trivial⟩, rfl⟩ ?_
    obtain ⟨y26, hy27, h⟩ := bindO_some h
    refine JO.call rfl rfl rfl rfl (ok_i_EdOk x0 a2 c3 x0.2.2.1.1.length rfl a6 c7 x0.2.2.2.2.2.2.2.2.2.2.1.length rfl a10 c11 x0.2.2.2.2.2.2.2.2.2.2.2.1.length rfl a14 c15 x0.2.2.2.2.2.2.2.2.2.2.2.2.2.1.1.length rfl a18 c19 x0.2.2.2.2.2.2.2.2.2.2.2.2.2.2.1.length rfl a22 c23 x0.2.2.2.2.2.2.2.2.2.2.2.2.2.2.2.2.1.length rfl _ hy27) rfl [0, 1, 2, 3, 4, 5] rfl rfl ?_
    intro _ _
    refine JO.reg ttOk 6 [] [] [(10, .v (.bool (bif (!y26) then true else (!(decide (x0.2.1 = 3))))))] _ rfl ⟨⟨rfl, trivial⟩, rfl⟩ ?_
    refine JO.done rfl ?_
    refine JS.cond rfl (fun ht39 => ?_) (fun ht39 => ?_)
    · have h := condT h ht39
      refine JS.seq ?_
      refine JS.region ?_
      refine JO.regB ttOk 2 [] [] [] (.new 8 47 [.bool false, .int .i64 0, .slice none 0 0, .int .i64 0, .int .i64 0, .int .i64 0, .int .i64 0, .int .i64 0, .int .i64 0, .int .i64 0, .int .i64 0, .slice none 0 0, .slice none 0 0, .int .i64 0, .slice none 0 0, .int .i64 0, .slice none 0 0, .int .i64 0, .slice none 0 0, .int .i64 0] .nil) rfl ⟨trivial, ⟨rfl, rfl, rfl, rfl, trivial⟩⟩ ?_
      refine JO.done rfl ?_
      cases h
      refine JS.nilO (.int .i64) Sl.nil rfl rfl ?_
      refine JS.nilO (.sl (.int .i64)) Sl.nil rfl rfl ?_
      refine JS.nilO (.pair (.sl (.int .i64)) (.int .i64)) Sl.nil rfl rfl ?_
      refine JS.nilO (.int .i64) Sl.nil rfl rfl ?_
      exact JS.ret ttOk (none, 0, none, 0, none, 0, none, 0) trivial rfl rfl [3, 2, 1, 0] rfl
    · have h := condF h ht39
      refine JS.skip ?_
      refine JS.seq ?_
      refine JS.region ?_
      refine JO.reg ttOk 1 [] [] [(12, .v (.agg #[.bool x0.1, .int .i64 x0.2.1, .slice a2 x0.2.2.1.1.length c3, .int .i64 x0.2.2.1.2, .int .i64 x0.2.2.2.1, .int .i64 x0.2.2.2.2.1, .int .i64 x0.2.2.2.2.2.1, .int .i64 x0.2.2.2.2.2.2.1, .int .i64 x0.2.2.2.2.2.2.2.1, .int .i64 x0.2.2.2.2.2.2.2.2.1, .int .i64 x0.2.2.2.2.2.2.2.2.2.1, .slice a6 x0.2.2.2.2.2.2.2.2.2.2.1.length c7, .slice a10 x0.2.2.2.2.2.2.2.2.2.2.2.1.length c11, .int .i64 x0.2.2.2.2.2.2.2.2.2.2.2.2.1, .slice a14 x0.2.2.2.2.2.2.2.2.2.2.2.2.2.1.1.length c15, .int .i64 x0.2.2.2.2.2.2.2.2.2.2.2.2.2.1.2, .slice a18 x0.2.2.2.2.2.2.2.2.2.2.2.2.2.2.1.length c19, .int .i64 x0.2.2.2.2.2.2.2.2.2.2.2.2.2.2.2.1, .slice a22 x0.2.2.2.2.2.2.2.2.2.2.2.2.2.2.2.2.1.length c23, .int .i64 x0.2.2.2.2.2.2.2.2.2.2.2.2.2.2.2.2.2]))] _ rfl ⟨⟨rfl, trivial⟩, rfl⟩ ?_
      obtain ⟨y28, hy29, h⟩ := bindO_some h
      refine JO.call rfl rfl rfl rfl (ok_i_left x0 a2 c3 x0.2.2.1.1.length rfl a6 c7 x0.2.2.2.2.2.2.2.2.2.2.1.length rfl a10 c11 x0.2.2.2.2.2.2.2.2.2.2.2.1.length rfl a14 c15 x0.2.2.2.2.2.2.2.2.2.2.2.2.2.1.1.length rfl a18 c19 x0.2.2.2.2.2.2.2.2.2.2.2.2.2.2.1.length rfl a22 c23 x0.2.2.2.2.2.2.2.2.2.2.2.2.2.2.2.2.1.length rfl _ hy29) rfl [0, 1, 2, 3, 4, 5] rfl rfl ?_
      rintro ⟨a30, c31, a32, c33, a34, c35, a36, c37⟩ -
      refine JO.regB ttOk 1 [] [] [] (.new 8 47 [.bool y28.1, .int .i64 y28.2.1, .slice a30 y28.2.2.1.1.length c31, .int .i64 y28.2.2.1.2, .int .i64 y28.2.2.2.1, .int .i64 y28.2.2.2.2.1, .int .i64 y28.2.2.2.2.2.1, .int .i64 y28.2.2.2.2.2.2.1, .int .i64 y28.2.2.2.2.2.2.2.1, .int .i64 y28.2.2.2.2.2.2.2.2.1, .int .i64 y28.2.2.2.2.2.2.2.2.2.1, .slice a32 y28.2.2.2.2.2.2.2.2.2.2.1.length c33, .slice a34 y28.2.2.2.2.2.2.2.2.2.2.2.1.length c35, .int .i64 y28.2.2.2.2.2.2.2.2.2.2.2.2.1, .slice a36 y28.2.2.2.2.2.2.2.2.2.2.2.2.2.1.1.length c37, .int .i64 y28.2.2.2.2.2.2.2.2.2.2.2.2.2.1.2, .slice none 0 0, .int .i64 y28.2.2.2.2.2.2.2.2.2.2.2.2.2.2.2.1, .slice none 0 0, .int .i64 y28.2.2.2.2.2.2.2.2.2.2.2.2.2.2.2.2.2] .nil) rfl ⟨trivial, ⟨rfl, rfl, rfl, rfl, trivial⟩⟩ ?_
      refine JO.done rfl ?_
      cases h
      exact JS.ret ttOk (a30, c31, a32, c33, a34, c35, a36, c37) trivial rfl rfl [0, 0, 0, 0] rfl

def M_l_eqIntS_L1 (x0 : List Int) (x1 : List Int) (j28 : Unit → Option Bool) (k20 : Int → Option Bool) : Int → Option Bool := fun x11 =>
  (bif (decide (x11 < (x0.length : Int))) then
  (guardO (0 ≤ x11 ∧ x11 < (x0.length : Int)) <|
  (guardO (0 ≤ x11 ∧ x11 < (x1.length : Int)) <|
  (bif (!(decide ((at' x0 x11) = (at' x1 x11)))) then
  some false
  else
  k20 (W (x11 + 1)))))
  else
  j28 ())

def M_l_eqIntS (x0 : List Int) (x1 : List Int) : Option Bool :=
  (bif (!(decide ((x0.length : Int) = (x1.length : Int)))) then
  some false
  else
  (joinO (fun (_ : Unit) =>
  some true) fun j28 =>
  (fixF (M_l_eqIntS_L1 x0 x1 j28) FUEL 0)))

theorem ok_l_eqIntS (x0 : List Int) (x1 : List Int) (a3 : Option Addr) (c4 : Nat) (l5 : Nat) (hl6 : x0.length = l5) (a7 : Option Addr) (c8 : Nat) (l9 : Nat) (hl10 : x1.length = l9) (r : Bool) (h : M_l_eqIntS x0 x1 = some r) :
    FC Try.prog 19 [.slice a3 l5 c4, .slice a7 l9 c8] [⟨(.int .i64), ⟨a3, l5, c4⟩, x0⟩, ⟨(.int .i64), ⟨a7, l9, c8⟩, x1⟩] (fun _ : Unit => True) (fun _ => .bool r) (fun _ => []) :=
  by
    subst hl6
    subst hl10
    refine FC.of (T := TTx) Try.call19 Try.func19 rfl rfl fun w0 => ?_
    unfold M_l_eqIntS at h
    refine JS.seq ?_
    refine JS.region ?_
    refine JO.reg ttOk 1 [] [] [] _ rfl ⟨trivial, rfl⟩ ?_
    refine JO.done rfl ?_
    refine JS.seq ?_
    refine JS.seq ?_
    refine JS.region ?_
    refine JO.reg ttOk 5 [] [] [(10, .v (.bool (!(decide ((x0.length : Int) = (x1.length : Int))))))] _ rfl ⟨⟨rfl, trivial⟩, rfl⟩ ?_
    refine JO.done rfl ?_
    refine JS.cond rfl (fun ht44 => ?_) (fun ht44 => ?_)
    · have h := condT h ht44
      refine JS.seq ?_
      refine JS.region ?_
      refine JO.reg ttOk 1 [] [] [(4, .v (.bool false))] _ rfl ⟨⟨rfl, trivial⟩, rfl⟩ ?_
      refine JO.done rfl ?_
      cases h
      exact JS.ret ttOk () trivial rfl rfl [] rfl
    · have h := condF h ht44
      refine JS.skip ?_
      refine JS.seq ?_
      refine JS.seq ?_
      refine JS.region ?_
      refine JO.reg ttOk 1 [] [] [(5, .v (.int .i64 0))] _ rfl ⟨⟨rfl, trivial⟩, rfl⟩ ?_
      refine JO.done rfl ?_
      obtain ⟨j28, hj43, h⟩ := joinO_some h
      refine JS.blockJ (ι := Unit) ⟨fun _ => j28 () = some r, fun _ => [], fun _ => .nil, fun _ => [], fun _ => [], fun _ => 0⟩ ?_ ?_
      · refine JS.loop (ι := Nat × Int) ⟨fun z => fixF (M_l_eqIntS_L1 x0 x1 j28) z.1 z.2 = some r, fun z => [(0, .v (.slice a3 x0.length c4)), (1, .v (.slice a7 x1.length c8)), (5, .v (.int .i64 z.2))], fun z => .nil, fun z => [⟨(.int .i64), ⟨a3, x0.length, c4⟩, x0⟩, ⟨(.int .i64), ⟨a7, x1.length, c8⟩, x1⟩], fun z => [], fun z => z.1⟩ (FUEL, 0) h ⟨rfl, rfl, rfl, trivial⟩ trivial [0, 1] rfl [] rfl ?_
        rintro ⟨n21, x11⟩ h
        obtain ⟨n21, rfl, h⟩ := fixF_some h
        rw [M_l_eqIntS_L1] at h
        refine JS.seq ?_
        refine JS.seq ?_
        refine JS.region ?_
        refine JO.reg ttOk 4 [] [] [(14, .v (.bool (decide (x11 < (x0.length : Int)))))] _ rfl ⟨⟨rfl, trivial⟩, rfl⟩ ?_
        refine JO.done rfl ?_
        refine JS.cond rfl (fun ht42 => ?_) (fun ht42 => ?_)
        · have h := condT h ht42
          refine JS.skip ?_
          refine JS.seq ?_
          refine JS.block ?_
          refine JS.seq ?_
          obtain ⟨g13, h⟩ := guardO_some h
          obtain ⟨g15, h⟩ := guardO_some h
          refine JS.know 0 rfl fun hs39 => ?_
          refine JS.know 1 rfl fun hs40 => ?_
          refine JS.regionQ rfl (by kernel_rfl) ?_
          refine JQ.reg ttOk 3 [] [(19, .ep ⟨a3, x0.length, c4⟩ (Int.toNat x11 * 1))] rfl ⟨hs39.ix g13, ⟨rfl, trivial⟩⟩ ?_
          refine JQ.load ttOk rfl rfl rfl rfl rfl rfl rfl 0 rfl rfl (Int.toNat x11) 0 (at' x0 x11) ⟨at_some g13, rfl⟩ rfl rfl ?_
          refine JQ.reg ttOk 3 [] [(23, .ep ⟨a7, x1.length, c8⟩ (Int.toNat x11 * 1))] rfl ⟨hs40.ix g15, ⟨rfl, trivial⟩⟩ ?_
          refine JQ.load ttOk rfl rfl rfl rfl rfl rfl rfl 1 rfl rfl (Int.toNat x11) 0 (at' x1 x11) ⟨at_some g15, rfl⟩ rfl rfl ?_
          refine JQ.reg ttOk 1 [] [(25, .v (.bool (!(decide ((at' x0 x11) = (at' x1 x11))))))] rfl ⟨rfl, trivial⟩ ?_
          refine JQ.done rfl ?_
          refine JS.cond rfl (fun ht41 => ?_) (fun ht41 => ?_)
          · have h := condT h ht41
            refine JS.seq ?_
            refine JS.region ?_
            refine JO.reg ttOk 1 [] [] [(4, .v (.bool false))] _ rfl ⟨⟨rfl, trivial⟩, rfl⟩ ?_
            refine JO.done rfl ?_
            cases h
            exact JS.ret ttOk () trivial rfl rfl [] rfl
          · have h := condF h ht41
            refine JS.skip ?_
            refine JS.endB ?_
            refine JS.region ?_
            refine JO.reg ttOk 3 [(W (x11 + 1))] [] [(5, .v (.int .i64 (W (x11 + 1))))] _ rfl ⟨⟨trivial, rfl⟩, ⟨rfl, trivial⟩, rfl⟩ ?_
            refine JO.done rfl ?_
            exact JS.endL (n21, (W (x11 + 1))) h (Nat.lt_succ_self _) ⟨rfl, rfl, rfl, trivial⟩ trivial [0, 1] rfl [] rfl
        · have h := condF h ht42
          refine JS.exit rfl ?_
          exact JS.endJ () h trivial trivial [] rfl [] rfl
      · rintro _ h
        subst hj43
        refine JS.seq ?_
        refine JS.region ?_
        refine JO.reg ttOk 1 [] [] [(4, .v (.bool true))] _ rfl ⟨⟨rfl, trivial⟩, rfl⟩ ?_
        refine JO.done rfl ?_
        cases h
        exact JS.ret ttOk () trivial rfl rfl [] rfl

def M_l_eqLine (x0 : List Int × Int) (x1 : List Int × Int) : Option Bool :=
  (bindO (M_l_eqIntS x0.1 x1.1) fun (y11 : Bool) =>
  (bif (!y11) then
  some false
  else
  (bif (!(decide (x0.2 = x1.2))) then
  some false
  else
  some true)))

theorem ok_l_eqLine (x0 : List Int × Int) (x1 : List Int × Int) (a3 : Option Addr) (c4 : Nat) (l5 : Nat) (hl6 : x0.1.length = l5) (a7 : Option Addr) (c8 : Nat) (l9 : Nat) (hl10 : x1.1.length = l9) (r : Bool) (h : M_l_eqLine x0 x1 = some r) :
    FC Try.prog 37 [.agg #[.slice a3 l5 c4, .int .i64 x0.2], .agg #[.slice a7 l9 c8, .int .i64 x1.2]] [⟨(.int .i64), ⟨a3, l5, c4⟩, x0.1⟩, ⟨(.int .i64), ⟨a7, l9, c8⟩, x1.1⟩] (fun _ : Unit => True) (fun _ => .bool r) (fun _ => []) :=
  by
    subst hl6
    subst hl10
    refine FC.of (T := TTx) Try.call37 Try.func37 rfl rfl fun w0 => ?_
    unfold M_l_eqLine at h
    refine JS.seq ?_
    refine JS.region ?_
    refine JO.regB ttOk 3 [] [3, 4] [(2, .bp 3 0), (3, .bp 4 0)] (.new 3 25 [.slice a3 x0.1.length c4, .int .i64 x0.2] (.new 4 25 [.slice a7 x1.1.length c8, .int .i64 x1.2] .nil)) rfl ⟨⟨rfl, rfl, trivial⟩, ⟨rfl, rfl, rfl, rfl, rfl, rfl, rfl, rfl, trivial⟩⟩ ?_
    refine JO.done rfl ?_
    refine JS.seq ?_
    refine JS.seq ?_
    refine JS.region ?_
    refine JO.reg ttOk 4 [] [] [(6, .v (.slice a3 x0.1.length c4)), (8, .v (.slice a7 x1.1.length c8))] _ rfl ⟨⟨rfl, rfl, trivial⟩, rfl⟩ ?_
    obtain ⟨y11, hy12, h⟩ := bindO_some h
    refine JO.call rfl rfl rfl rfl (ok_l_eqIntS x0.1 x1.1 a3 c4 x0.1.length rfl a7 c8 x1.1.length rfl _ hy12) rfl [0, 1] rfl rfl ?_
    intro _ _
    refine JO.reg ttOk 1 [] [] [(10, .v (.bool (!y11)))] _ rfl ⟨⟨rfl, trivial⟩, rfl⟩ ?_
    refine JO.done rfl ?_
    refine JS.cond rfl (fun ht16 => ?_) (fun ht16 => ?_)
    · have h := condT h ht16
      refine JS.seq ?_
      refine JS.region ?_
      refine JO.reg ttOk 1 [] [] [(4, .v (.bool false))] _ rfl ⟨⟨rfl, trivial⟩, rfl⟩ ?_
      refine JO.done rfl ?_
      cases h
      exact JS.ret ttOk () trivial rfl rfl [] rfl
    · have h := condF h ht16
      refine JS.skip ?_
      refine JS.seq ?_
      refine JS.seq ?_
      refine JS.region ?_
      refine JO.reg ttOk 5 [] [] [(15, .v (.bool (!(decide (x0.2 = x1.2)))))] _ rfl ⟨⟨rfl, trivial⟩, rfl⟩ ?_
      refine JO.done rfl ?_
      refine JS.cond rfl (fun ht15 => ?_) (fun ht15 => ?_)
      · have h := condT h ht15
        refine JS.seq ?_
        refine JS.region ?_
        refine JO.reg ttOk 1 [] [] [(4, .v (.bool false))] _ rfl ⟨⟨rfl, trivial⟩, rfl⟩ ?_
        refine JO.done rfl ?_
        cases h
        exact JS.ret ttOk () trivial rfl rfl [] rfl
      · have h := condF h ht15
        refine JS.skip ?_
        refine JS.seq ?_
        refine JS.region ?_
        refine JO.reg ttOk 1 [] [] [(4, .v (.bool true))] _ rfl ⟨⟨rfl, trivial⟩, rfl⟩ ?_
        refine JO.done rfl ?_
        cases h
        exact JS.ret ttOk () trivial rfl rfl [] rfl

def M_l_eqPiece (x0 : List Int) (x1 : List Int) : Option Bool :=
  (bindO (M_l_eqIntS x0 x1) fun (y11 : Bool) =>
  (bif (!y11) then
  some false
  else
  some true))

theorem ok_l_eqPiece (x0 : List Int) (x1 : List Int) (a3 : Option Addr) (c4 : Nat) (l5 : Nat) (hl6 : x0.length = l5) (a7 : Option Addr) (c8 : Nat) (l9 : Nat) (hl10 : x1.length = l9) (r : Bool) (h : M_l_eqPiece x0 x1 = some r) :
    FC Try.prog 131 [.agg #[.slice a3 l5 c4], .agg #[.slice a7 l9 c8]] [⟨(.int .i64), ⟨a3, l5, c4⟩, x0⟩, ⟨(.int .i64), ⟨a7, l9, c8⟩, x1⟩] (fun _ : Unit => True) (fun _ => .bool r) (fun _ => []) :=
  by
    subst hl6
    subst hl10
    refine FC.of (T := TTx) Try.call131 Try.func131 rfl rfl fun w0 => ?_
    unfold M_l_eqPiece at h
    refine JS.seq ?_
    refine JS.region ?_
    refine JO.regB ttOk 3 [] [3, 4] [(2, .bp 3 0), (3, .bp 4 0)] (.new 3 113 [.slice a3 x0.length c4] (.new 4 113 [.slice a7 x1.length c8] .nil)) rfl ⟨⟨rfl, rfl, trivial⟩, ⟨rfl, rfl, rfl, rfl, rfl, rfl, rfl, rfl, trivial⟩⟩ ?_
    refine JO.done rfl ?_
    refine JS.seq ?_
    refine JS.seq ?_
    refine JS.region ?_
    refine JO.reg ttOk 4 [] [] [(6, .v (.slice a3 x0.length c4)), (8, .v (.slice a7 x1.length c8))] _ rfl ⟨⟨rfl, rfl, trivial⟩, rfl⟩ ?_
    obtain ⟨y11, hy12, h⟩ := bindO_some h
    refine JO.call rfl rfl rfl rfl (ok_l_eqIntS x0 x1 a3 c4 x0.length rfl a7 c8 x1.length rfl _ hy12) rfl [0, 1] rfl rfl ?_
    intro _ _
    refine JO.reg ttOk 1 [] [] [(10, .v (.bool (!y11)))] _ rfl ⟨⟨rfl, trivial⟩, rfl⟩ ?_
    refine JO.done rfl ?_
    refine JS.cond rfl (fun ht14 => ?_) (fun ht14 => ?_)
    · have h := condT h ht14
      refine JS.seq ?_
      refine JS.region ?_
      refine JO.reg ttOk 1 [] [] [(4, .v (.bool false))] _ rfl ⟨⟨rfl, trivial⟩, rfl⟩ ?_
      refine JO.done rfl ?_
      cases h
      exact JS.ret ttOk () trivial rfl rfl [] rfl
    · have h := condF h ht14
      refine JS.skip ?_
      refine JS.seq ?_
      refine JS.region ?_
      refine JO.reg ttOk 1 [] [] [(4, .v (.bool true))] _ rfl ⟨⟨rfl, trivial⟩, rfl⟩ ?_
      refine JO.done rfl ?_
      cases h
      exact JS.ret ttOk () trivial rfl rfl [] rfl

def M_l_eqPieceS_L1 (x0 : List (List Int)) (x1 : List (List Int)) (j44 : Unit → Option Bool) (k34 : Int → Option Bool) : Int → Option Bool := fun x11 =>
  (bif (decide (x11 < (x0.length : Int))) then
  (guardO (0 ≤ x11 ∧ x11 < (x0.length : Int)) <|
  (guardO (0 ≤ x11 ∧ x11 < (x1.length : Int)) <|
  (bindO (M_l_eqPiece (at' x0 x11) (at' x1 x11)) fun (y26 : Bool) =>
  (bif (!y26) then
  some false
  else
  k34 (W (x11 + 1))))))
  else
  j44 ())

def M_l_eqPieceS (x0 : List (List Int)) (x1 : List (List Int)) : Option Bool :=
  (bif (!(decide ((x0.length : Int) = (x1.length : Int)))) then
  some false
  else
  (joinO (fun (_ : Unit) =>
  some true) fun j44 =>
  (fixF (M_l_eqPieceS_L1 x0 x1 j44) FUEL 0)))

theorem ok_l_eqPieceS (x0 : List (List Int)) (x1 : List (List Int)) (a3 : Option Addr) (c4 : Nat) (l5 : Nat) (hl6 : x0.length = l5) (a7 : Option Addr) (c8 : Nat) (l9 : Nat) (hl10 : x1.length = l9) (r : Bool) (h : M_l_eqPieceS x0 x1 = some r) :
    FC Try.prog 103 [.slice a3 l5 c4, .slice a7 l9 c8] [⟨(.sl (.int .i64)), ⟨a3, l5, c4⟩, x0⟩, ⟨(.sl (.int .i64)), ⟨a7, l9, c8⟩, x1⟩] (fun _ : Unit => True) (fun _ => .bool r) (fun _ => []) :=
  by
    subst hl6
    subst hl10
    refine FC.of (T := TTx) Try.call103 Try.func103 rfl rfl fun w0 => ?_
    unfold M_l_eqPieceS at h
    refine JS.seq ?_
    refine JS.region ?_
    refine JO.reg ttOk 1 [] [] [] _ rfl ⟨trivial, rfl⟩ ?_
    refine JO.done rfl ?_
    refine JS.seq ?_
    refine JS.seq ?_
    refine JS.region ?_
    refine JO.reg ttOk 5 [] [] [(10, .v (.bool (!(decide ((x0.length : Int) = (x1.length : Int))))))] _ rfl ⟨⟨rfl, trivial⟩, rfl⟩ ?_
    refine JO.done rfl ?_
    refine JS.cond rfl (fun ht64 => ?_) (fun ht64 => ?_)
    · have h := condT h ht64
      refine JS.seq ?_
      refine JS.region ?_
      refine JO.reg ttOk 1 [] [] [(4, .v (.bool false))] _ rfl ⟨⟨rfl, trivial⟩, rfl⟩ ?_
      refine JO.done rfl ?_
      cases h
      exact JS.ret ttOk () trivial rfl rfl [] rfl
    · have h := condF h ht64
      refine JS.skip ?_
      refine JS.seq ?_
      refine JS.seq ?_
      refine JS.region ?_
      refine JO.reg ttOk 1 [] [] [(5, .v (.int .i64 0))] _ rfl ⟨⟨rfl, trivial⟩, rfl⟩ ?_
      refine JO.done rfl ?_
      obtain ⟨j44, hj63, h⟩ := joinO_some h
      refine JS.blockJ (ι := Unit) ⟨fun _ => j44 () = some r, fun _ => [], fun _ => .nil, fun _ => [], fun _ => [], fun _ => 0⟩ ?_ ?_
      · refine JS.loop (ι := Nat × Int) ⟨fun z => fixF (M_l_eqPieceS_L1 x0 x1 j44) z.1 z.2 = some r, fun z => [(0, .v (.slice a3 x0.length c4)), (1, .v (.slice a7 x1.length c8)), (5, .v (.int .i64 z.2))], fun z => .nil, fun z => [⟨(.sl (.int .i64)), ⟨a3, x0.length, c4⟩, x0⟩, ⟨(.sl (.int .i64)), ⟨a7, x1.length, c8⟩, x1⟩], fun z => [], fun z => z.1⟩ (FUEL, 0) h ⟨rfl, rfl, rfl, trivial⟩ trivial [0, 1] rfl [] rfl ?_
        rintro ⟨n35, x11⟩ h
        obtain ⟨n35, rfl, h⟩ := fixF_some h
        rw [M_l_eqPieceS_L1] at h
        refine JS.seq ?_
        refine JS.seq ?_
        refine JS.region ?_
        refine JO.reg ttOk 4 [] [] [(14, .v (.bool (decide (x11 < (x0.length : Int)))))] _ rfl ⟨⟨rfl, trivial⟩, rfl⟩ ?_
        refine JO.done rfl ?_
        refine JS.cond rfl (fun ht62 => ?_) (fun ht62 => ?_)
        · have h := condT h ht62
          refine JS.skip ?_
          refine JS.seq ?_
          refine JS.block ?_
          refine JS.seq ?_
          obtain ⟨g13, h⟩ := guardO_some h
          obtain ⟨g20, h⟩ := guardO_some h
          obtain ⟨y26, hy27, h⟩ := bindO_some h
          refine JS.openR 0 rfl (Int.toNat x11) (at' x0 x11) rfl ?_
          intro a14 c15 ys16 hl17 hy18
          refine JS.openR 3 rfl (Int.toNat x11) (at' x1 x11) rfl ?_
          intro a21 c22 ys23 hl24 hy25
          refine JS.know 4 rfl fun hs59 => ?_
          refine JS.know 5 rfl fun hs60 => ?_
          refine JS.regionQ rfl (by kernel_rfl) ?_
          refine JQ.reg ttOk 3 [] [(19, .ep ⟨a3, x0.length, c4⟩ (Int.toNat x11 * 1))] rfl ⟨hs59.ix g13, ⟨rfl, trivial⟩⟩ ?_
          refine JQ.loadV ttOk rfl rfl rfl rfl rfl rfl 2 rfl rfl (Int.toNat x11) 0 (Sl.v ⟨a14, (at' x0 x11).length, c15⟩) ⟨hy18 (ltNat g13), rfl⟩ rfl rfl rfl ?_
          refine JQ.reg ttOk 3 [] [(23, .ep ⟨a7, x1.length, c8⟩ (Int.toNat x11 * 1))] rfl ⟨hs60.ix g20, ⟨rfl, trivial⟩⟩ ?_
          refine JQ.loadV ttOk rfl rfl rfl rfl rfl rfl 0 rfl rfl (Int.toNat x11) 0 (Sl.v ⟨a21, (at' x1 x11).length, c22⟩) ⟨hy25 (ltNat g20), rfl⟩ rfl rfl rfl ?_
          refine JQ.call rfl rfl rfl rfl (ok_l_eqPiece (at' x0 x11) (at' x1 x11) a14 c15 ((at' x0 x11).length) rfl a21 c22 ((at' x1 x11).length) rfl _ hy27) rfl [3, 1] rfl rfl ?_
          refine JQ.reg ttOk 1 [] [(26, .v (.bool (!y26)))] rfl ⟨rfl, trivial⟩ ?_
          refine JQ.done rfl ?_
          refine JS.cond rfl (fun ht61 => ?_) (fun ht61 => ?_)
          · have h := condT h ht61
            refine JS.seq ?_
            refine JS.region ?_
            refine JO.reg ttOk 1 [] [] [(4, .v (.bool false))] _ rfl ⟨⟨rfl, trivial⟩, rfl⟩ ?_
            refine JO.done rfl ?_
            cases h
            exact JS.ret ttOk () trivial rfl rfl [] rfl
          · have h := condF h ht61
            refine JS.skip ?_
            refine JS.endB ?_
            refine JS.region ?_
            refine JO.reg ttOk 3 [(W (x11 + 1))] [] [(5, .v (.int .i64 (W (x11 + 1))))] _ rfl ⟨⟨trivial, rfl⟩, ⟨rfl, trivial⟩, rfl⟩ ?_
            refine JO.done rfl ?_
            exact JS.endL (n35, (W (x11 + 1))) h (Nat.lt_succ_self _) ⟨rfl, rfl, rfl, trivial⟩ trivial [4, 5] rfl [] rfl
        · have h := condF h ht62
          refine JS.exit rfl ?_
          exact JS.endJ () h trivial trivial [] rfl [] rfl
      · rintro _ h
        subst hj63
        refine JS.seq ?_
        refine JS.region ?_
        refine JO.reg ttOk 1 [] [] [(4, .v (.bool true))] _ rfl ⟨⟨rfl, trivial⟩, rfl⟩ ?_
        refine JO.done rfl ?_
        cases h
        exact JS.ret ttOk () trivial rfl rfl [] rfl

def M_l_eqRing (x0 : List (List Int)) (x1 : List (List Int)) : Option Bool :=
  (bindO (M_l_eqPieceS x0 x1) fun (y11 : Bool) =>
  (bif (!y11) then
  some false
  else
  some true))

theorem ok_l_eqRing (x0 : List (List Int)) (x1 : List (List Int)) (a3 : Option Addr) (c4 : Nat) (l5 : Nat) (hl6 : x0.length = l5) (a7 : Option Addr) (c8 : Nat) (l9 : Nat) (hl10 : x1.length = l9) (r : Bool) (h : M_l_eqRing x0 x1 = some r) :
    FC Try.prog 57 [.agg #[.slice a3 l5 c4], .agg #[.slice a7 l9 c8]] [⟨(.sl (.int .i64)), ⟨a3, l5, c4⟩, x0⟩, ⟨(.sl (.int .i64)), ⟨a7, l9, c8⟩, x1⟩] (fun _ : Unit => True) (fun _ => .bool r) (fun _ => []) :=
  by
    subst hl6
    subst hl10
    refine FC.of (T := TTx) Try.call57 Try.func57 rfl rfl fun w0 => ?_
    unfold M_l_eqRing at h
    refine JS.seq ?_
    refine JS.region ?_
    refine JO.regB ttOk 3 [] [3, 4] [(2, .bp 3 0), (3, .bp 4 0)] (.new 3 42 [.slice a3 x0.length c4] (.new 4 42 [.slice a7 x1.length c8] .nil)) rfl ⟨⟨rfl, rfl, trivial⟩, ⟨rfl, rfl, rfl, rfl, rfl, rfl, rfl, rfl, trivial⟩⟩ ?_
    refine JO.done rfl ?_
    refine JS.seq ?_
    refine JS.seq ?_
    refine JS.region ?_
    refine JO.reg ttOk 4 [] [] [(6, .v (.slice a3 x0.length c4)), (8, .v (.slice a7 x1.length c8))] _ rfl ⟨⟨rfl, rfl, trivial⟩, rfl⟩ ?_
    obtain ⟨y11, hy12, h⟩ := bindO_some h
    refine JO.call rfl rfl rfl rfl (ok_l_eqPieceS x0 x1 a3 c4 x0.length rfl a7 c8 x1.length rfl _ hy12) rfl [0, 1] rfl rfl ?_
    intro _ _
    refine JO.reg ttOk 1 [] [] [(10, .v (.bool (!y11)))] _ rfl ⟨⟨rfl, trivial⟩, rfl⟩ ?_
    refine JO.done rfl ?_
    refine JS.cond rfl (fun ht14 => ?_) (fun ht14 => ?_)
    · have h := condT h ht14
      refine JS.seq ?_
      refine JS.region ?_
      refine JO.reg ttOk 1 [] [] [(4, .v (.bool false))] _ rfl ⟨⟨rfl, trivial⟩, rfl⟩ ?_
      refine JO.done rfl ?_
      cases h
      exact JS.ret ttOk () trivial rfl rfl [] rfl
    · have h := condF h ht14
      refine JS.skip ?_
      refine JS.seq ?_
      refine JS.region ?_
      refine JO.reg ttOk 1 [] [] [(4, .v (.bool true))] _ rfl ⟨⟨rfl, trivial⟩, rfl⟩ ?_
      refine JO.done rfl ?_
      cases h
      exact JS.ret ttOk () trivial rfl rfl [] rfl

def M_l_eqLineS_L1 (x0 : List (List Int × Int)) (x1 : List (List Int × Int)) (j44 : Unit → Option Bool) (k34 : Int → Option Bool) : Int → Option Bool := fun x11 =>
  (bif (decide (x11 < (x0.length : Int))) then
  (guardO (0 ≤ x11 ∧ x11 < (x0.length : Int)) <|
  (guardO (0 ≤ x11 ∧ x11 < (x1.length : Int)) <|
  (bindO (M_l_eqLine ((at' x0 x11).1, (at' x0 x11).2) ((at' x1 x11).1, (at' x1 x11).2)) fun (y26 : Bool) =>
  (bif (!y26) then
  some false
  else
  k34 (W (x11 + 1))))))
  else
  j44 ())

def M_l_eqLineS (x0 : List (List Int × Int)) (x1 : List (List Int × Int)) : Option Bool :=
  (bif (!(decide ((x0.length : Int) = (x1.length : Int)))) then
  some false
  else
  (joinO (fun (_ : Unit) =>
  some true) fun j44 =>
  (fixF (M_l_eqLineS_L1 x0 x1 j44) FUEL 0)))

theorem ok_l_eqLineS (x0 : List (List Int × Int)) (x1 : List (List Int × Int)) (a3 : Option Addr) (c4 : Nat) (l5 : Nat) (hl6 : x0.length = l5) (a7 : Option Addr) (c8 : Nat) (l9 : Nat) (hl10 : x1.length = l9) (r : Bool) (h : M_l_eqLineS x0 x1 = some r) :
    FC Try.prog 104 [.slice a3 l5 c4, .slice a7 l9 c8] [⟨(.pair (.sl (.int .i64)) (.int .i64)), ⟨a3, l5, c4⟩, x0⟩, ⟨(.pair (.sl (.int .i64)) (.int .i64)), ⟨a7, l9, c8⟩, x1⟩] (fun _ : Unit => True) (fun _ => .bool r) (fun _ => []) :=
  by
    subst hl6
    subst hl10
    refine FC.of (T := TTx) Try.call104 Try.func104 rfl rfl fun w0 => ?_
    unfold M_l_eqLineS at h
    refine JS.seq ?_
    refine JS.region ?_
    refine JO.reg ttOk 1 [] [] [] _ rfl ⟨trivial, rfl⟩ ?_
    refine JO.done rfl ?_
    refine JS.seq ?_
    refine JS.seq ?_
    refine JS.region ?_
    refine JO.reg ttOk 5 [] [] [(10, .v (.bool (!(decide ((x0.length : Int) = (x1.length : Int))))))] _ rfl ⟨⟨rfl, trivial⟩, rfl⟩ ?_
    refine JO.done rfl ?_
    refine JS.cond rfl (fun ht64 => ?_) (fun ht64 => ?_)
    · have h := condT h ht64
      refine JS.seq ?_
      refine JS.region ?_
      refine JO.reg ttOk 1 [] [] [(4, .v (.bool false))] _ rfl ⟨⟨rfl, trivial⟩, rfl⟩ ?_
      refine JO.done rfl ?_
      cases h
      exact JS.ret ttOk () trivial rfl rfl [] rfl
    · have h := condF h ht64
      refine JS.skip ?_
      refine JS.seq ?_
      refine JS.seq ?_
      refine JS.region ?_
      refine JO.reg ttOk 1 [] [] [(5, .v (.int .i64 0))] _ rfl ⟨⟨rfl, trivial⟩, rfl⟩ ?_
      refine JO.done rfl ?_
      obtain ⟨j44, hj63, h⟩ := joinO_some h
      refine JS.blockJ (ι := Unit) ⟨fun _ => j44 () = some r, fun _ => [], fun _ => .nil, fun _ => [], fun _ => [], fun _ => 0⟩ ?_ ?_
      · refine JS.loop (ι := Nat × Int) ⟨fun z => fixF (M_l_eqLineS_L1 x0 x1 j44) z.1 z.2 = some r, fun z => [(0, .v (.slice a3 x0.length c4)), (1, .v (.slice a7 x1.length c8)), (5, .v (.int .i64 z.2))], fun z => .nil, fun z => [⟨(.pair (.sl (.int .i64)) (.int .i64)), ⟨a3, x0.length, c4⟩, x0⟩, ⟨(.pair (.sl (.int .i64)) (.int .i64)), ⟨a7, x1.length, c8⟩, x1⟩], fun z => [], fun z => z.1⟩ (FUEL, 0) h ⟨rfl, rfl, rfl, trivial⟩ trivial [0, 1] rfl [] rfl ?_
        rintro ⟨n35, x11⟩ h
        obtain ⟨n35, rfl, h⟩ := fixF_some h
        rw [M_l_eqLineS_L1] at h
        refine JS.seq ?_
        refine JS.seq ?_
        refine JS.region ?_
        refine JO.reg ttOk 4 [] [] [(14, .v (.bool (decide (x11 < (x0.length : Int)))))] _ rfl ⟨⟨rfl, trivial⟩, rfl⟩ ?_
        refine JO.done rfl ?_
        refine JS.cond rfl (fun ht62 => ?_) (fun ht62 => ?_)
        · have h := condT h ht62
          refine JS.skip ?_
          refine JS.seq ?_
          refine JS.block ?_
          refine JS.seq ?_
          obtain ⟨g13, h⟩ := guardO_some h
          obtain ⟨g20, h⟩ := guardO_some h
          obtain ⟨y26, hy27, h⟩ := bindO_some h
          refine JS.openR 0 rfl (Int.toNat x11) (at' x0 x11) rfl ?_
          intro a14 c15 ys16 hl17 hy18
          refine JS.openR 3 rfl (Int.toNat x11) (at' x1 x11) rfl ?_
          intro a21 c22 ys23 hl24 hy25
          refine JS.know 4 rfl fun hs59 => ?_
          refine JS.know 5 rfl fun hs60 => ?_
          refine JS.regionQ rfl (by kernel_rfl) ?_
          refine JQ.reg ttOk 3 [] [(19, .ep ⟨a3, x0.length, c4⟩ (Int.toNat x11 * 2))] rfl ⟨hs59.ix g13, ⟨rfl, trivial⟩⟩ ?_
          refine JQ.loadV ttOk rfl rfl rfl rfl rfl rfl 2 rfl rfl (Int.toNat x11) 0 ((Sl.v ⟨a14, ((at' x0 x11).1).length, c15⟩), (at' x0 x11).2) ⟨hy18 (ltNat g13), rfl⟩ rfl rfl rfl ?_
          refine JQ.reg ttOk 3 [] [(23, .ep ⟨a7, x1.length, c8⟩ (Int.toNat x11 * 2))] rfl ⟨hs60.ix g20, ⟨rfl, trivial⟩⟩ ?_
          refine JQ.loadV ttOk rfl rfl rfl rfl rfl rfl 0 rfl rfl (Int.toNat x11) 0 ((Sl.v ⟨a21, ((at' x1 x11).1).length, c22⟩), (at' x1 x11).2) ⟨hy25 (ltNat g20), rfl⟩ rfl rfl rfl ?_
          refine JQ.call rfl rfl rfl rfl (ok_l_eqLine ((at' x0 x11).1, (at' x0 x11).2) ((at' x1 x11).1, (at' x1 x11).2) a14 c15 (((at' x0 x11).1).length) rfl a21 c22 (((at' x1 x11).1).length) rfl _ hy27) rfl [3, 1] rfl rfl ?_
          refine JQ.reg ttOk 1 [] [(26, .v (.bool (!y26)))] rfl ⟨rfl, trivial⟩ ?_
          refine JQ.done rfl ?_
          refine JS.cond rfl (fun ht61 => ?_) (fun ht61 => ?_)
          · have h := condT h ht61
            refine JS.seq ?_
            refine JS.region ?_
            refine JO.reg ttOk 1 [] [] [(4, .v (.bool false))] _ rfl ⟨⟨rfl, trivial⟩, rfl⟩ ?_
            refine JO.done rfl ?_
            cases h
            exact JS.ret ttOk () trivial rfl rfl [] rfl
          · have h := condF h ht61
            refine JS.skip ?_
            refine JS.endB ?_
            refine JS.region ?_
            refine JO.reg ttOk 3 [(W (x11 + 1))] [] [(5, .v (.int .i64 (W (x11 + 1))))] _ rfl ⟨⟨trivial, rfl⟩, ⟨rfl, trivial⟩, rfl⟩ ?_
            refine JO.done rfl ?_
            exact JS.endL (n35, (W (x11 + 1))) h (Nat.lt_succ_self _) ⟨rfl, rfl, rfl, trivial⟩ trivial [4, 5] rfl [] rfl
        · have h := condF h ht62
          refine JS.exit rfl ?_
          exact JS.endJ () h trivial trivial [] rfl [] rfl
      · rintro _ h
        subst hj63
        refine JS.seq ?_
        refine JS.region ?_
        refine JO.reg ttOk 1 [] [] [(4, .v (.bool true))] _ rfl ⟨⟨rfl, trivial⟩, rfl⟩ ?_
        refine JO.done rfl ?_
        cases h
        exact JS.ret ttOk () trivial rfl rfl [] rfl

def M_l_eqUndo (x0 : List (List Int × Int)) (x1 : List (List Int × Int)) : Option Bool :=
  (bindO (M_l_eqLineS x0 x1) fun (y11 : Bool) =>
  (bif (!y11) then
  some false
  else
  some true))

theorem ok_l_eqUndo (x0 : List (List Int × Int)) (x1 : List (List Int × Int)) (a3 : Option Addr) (c4 : Nat) (l5 : Nat) (hl6 : x0.length = l5) (a7 : Option Addr) (c8 : Nat) (l9 : Nat) (hl10 : x1.length = l9) (r : Bool) (h : M_l_eqUndo x0 x1 = some r) :
    FC Try.prog 58 [.agg #[.slice a3 l5 c4], .agg #[.slice a7 l9 c8]] [⟨(.pair (.sl (.int .i64)) (.int .i64)), ⟨a3, l5, c4⟩, x0⟩, ⟨(.pair (.sl (.int .i64)) (.int .i64)), ⟨a7, l9, c8⟩, x1⟩] (fun _ : Unit => True) (fun _ => .bool r) (fun _ => []) :=
  by
    subst hl6
    subst hl10
    refine FC.of (T := TTx) Try.call58 Try.func58 rfl rfl fun w0 => ?_
    unfold M_l_eqUndo at h
    refine JS.seq ?_
    refine JS.region ?_
    refine JO.regB ttOk 3 [] [3, 4] [(2, .bp 3 0), (3, .bp 4 0)] (.new 3 45 [.slice a3 x0.length c4] (.new 4 45 [.slice a7 x1.length c8] .nil)) rfl ⟨⟨rfl, rfl, trivial⟩, ⟨rfl, rfl, rfl, rfl, rfl, rfl, rfl, rfl, trivial⟩⟩ ?_
    refine JO.done rfl ?_
    refine JS.seq ?_
    refine JS.seq ?_
    refine JS.region ?_
    refine JO.reg ttOk 4 [] [] [(6, .v (.slice a3 x0.length c4)), (8, .v (.slice a7 x1.length c8))] _ rfl ⟨⟨rfl, rfl, trivial⟩, rfl⟩ ?_
    obtain ⟨y11, hy12, h⟩ := bindO_some h
    refine JO.call rfl rfl rfl rfl (ok_l_eqLineS x0 x1 a3 c4 x0.length rfl a7 c8 x1.length rfl _ hy12) rfl [0, 1] rfl rfl ?_
    intro _ _
    refine JO.reg ttOk 1 [] [] [(10, .v (.bool (!y11)))] _ rfl ⟨⟨rfl, trivial⟩, rfl⟩ ?_
    refine JO.done rfl ?_
    refine JS.cond rfl (fun ht14 => ?_) (fun ht14 => ?_)
    · have h := condT h ht14
      refine JS.seq ?_
      refine JS.region ?_
      refine JO.reg ttOk 1 [] [] [(4, .v (.bool false))] _ rfl ⟨⟨rfl, trivial⟩, rfl⟩ ?_
      refine JO.done rfl ?_
      cases h
      exact JS.ret ttOk () trivial rfl rfl [] rfl
    · have h := condF h ht14
      refine JS.skip ?_
      refine JS.seq ?_
      refine JS.region ?_
      refine JO.reg ttOk 1 [] [] [(4, .v (.bool true))] _ rfl ⟨⟨rfl, trivial⟩, rfl⟩ ?_
      refine JO.done rfl ?_
      cases h
      exact JS.ret ttOk () trivial rfl rfl [] rfl

def M_l_eqEd (x0 : Bool × Int × (List Int × Int) × Int × Int × Int × Int × Int × Int × Int × List (List Int) × (List (List Int × Int)) × Int × (List Int × Int) × List Int × Int × List Int × Int) (x1 : Bool × Int × (List Int × Int) × Int × Int × Int × Int × Int × Int × Int × List (List Int) × (List (List Int × Int)) × Int × (List Int × Int) × List Int × Int × List Int × Int) : Option Bool :=
  (bif (!(x0.1 == x1.1)) then
  some false
  else
  (bif (!(decide (x0.2.1 = x1.2.1))) then
  some false
  else
  (bindO (M_l_eqLine x0.2.2.1 x1.2.2.1) fun (y51 : Bool) =>
  (bif (!y51) then
  some false
  else
  (bif (!(decide (x0.2.2.2.1 = x1.2.2.2.1))) then
  some false
  else
  (bif (!(decide (x0.2.2.2.2.1 = x1.2.2.2.2.1))) then
  some false
  else
  (bif (!(decide (x0.2.2.2.2.2.1 = x1.2.2.2.2.2.1))) then
  some false
  else
  (bif (!(decide (x0.2.2.2.2.2.2.1 = x1.2.2.2.2.2.2.1))) then
  some false
  else
  (bif (!(decide (x0.2.2.2.2.2.2.2.1 = x1.2.2.2.2.2.2.2.1))) then
  some false
  else
  (bif (!(decide (x0.2.2.2.2.2.2.2.2.1 = x1.2.2.2.2.2.2.2.2.1))) then
  some false
  else
  (bif (!(decide (x0.2.2.2.2.2.2.2.2.2.1 = x1.2.2.2.2.2.2.2.2.2.1))) then
  some false
  else
  (bindO (M_l_eqRing x0.2.2.2.2.2.2.2.2.2.2.1 x1.2.2.2.2.2.2.2.2.2.2.1) fun (y53 : Bool) =>
  (bif (!y53) then
  some false
  else
  (bindO (M_l_eqUndo x0.2.2.2.2.2.2.2.2.2.2.2.1 x1.2.2.2.2.2.2.2.2.2.2.2.1) fun (y55 : Bool) =>
  (bif (!y55) then
  some false
  else
  (bif (!(decide (x0.2.2.2.2.2.2.2.2.2.2.2.2.1 = x1.2.2.2.2.2.2.2.2.2.2.2.2.1))) then
  some false
  else
  (bindO (M_l_eqLine x0.2.2.2.2.2.2.2.2.2.2.2.2.2.1 x1.2.2.2.2.2.2.2.2.2.2.2.2.2.1) fun (y57 : Bool) =>
  (bif (!y57) then
  some false
  else
  (bindO (M_l_eqIntS x0.2.2.2.2.2.2.2.2.2.2.2.2.2.2.1 x1.2.2.2.2.2.2.2.2.2.2.2.2.2.2.1) fun (y59 : Bool) =>
  (bif (!y59) then
  some false
  else
  (bif (!(decide (x0.2.2.2.2.2.2.2.2.2.2.2.2.2.2.2.1 = x1.2.2.2.2.2.2.2.2.2.2.2.2.2.2.2.1))) then
  some false
  else
  (bindO (M_l_eqLine x0.2.2.2.2.2.2.2.2.2.2.2.2.2.2.2.2 x1.2.2.2.2.2.2.2.2.2.2.2.2.2.2.2.2) fun (y61 : Bool) =>
  (bif (!y61) then
  some false
  else
  some true)))))))))))))))))))))))

theorem ok_l_eqEd (x0 : Bool × Int × (List Int × Int) × Int × Int × Int × Int × Int × Int × Int × List (List Int) × (List (List Int × Int)) × Int × (List Int × Int) × List Int × Int × List Int × Int) (x1 : Bool × Int × (List Int × Int) × Int × Int × Int × Int × Int × Int × Int × List (List Int) × (List (List Int × Int)) × Int × (List Int × Int) × List Int × Int × List Int × Int) (a3 : Option Addr) (c4 : Nat) (l5 : Nat) (hl6 : x0.2.2.1.1.length = l5) (a7 : Option Addr) (c8 : Nat) (l9 : Nat) (hl10 : x0.2.2.2.2.2.2.2.2.2.2.1.length = l9) (a11 : Option Addr) (c12 : Nat) (l13 : Nat) (hl14 : x0.2.2.2.2.2.2.2.2.2.2.2.1.length = l13) (a15 : Option Addr) (c16 : Nat) (l17 : Nat) (hl18 : x0.2.2.2.2.2.2.2.2.2.2.2.2.2.1.1.length = l17) (a19 : Option Addr) (c20 : Nat) (l21 : Nat) (hl22 : x0.2.2.2.2.2.2.2.2.2.2.2.2.2.2.1.length = l21) (a23 : Option Addr) (c24 : Nat) (l25 : Nat) (hl26 : x0.2.2.2.2.2.2.2.2.2.2.2.2.2.2.2.2.1.length = l25) (a27 : Option Addr) (c28 : Nat) (l29 : Nat) (hl30 : x1.2.2.1.1.length = l29) (a31 : Option Addr) (c32 : Nat) (l33 : Nat) (hl34 : x1.2.2.2.2.2.2.2.2.2.2.1.length = l33) (a35 : Option Addr) (c36 : Nat) (l37 : Nat) (hl38 : x1.2.2.2.2.2.2.2.2.2.2.2.1.length = l37) (a39 : Option Addr) (c40 : Nat) (l41 : Nat) (hl42 : x1.2.2.2.2.2.2.2.2.2.2.2.2.2.1.1.length = l41) (a43 : Option Addr) (c44 : Nat) (l45 : Nat) (hl46 : x1.2.2.2.2.2.2.2.2.2.2.2.2.2.2.1.length = l45) (a47 : Option Addr) (c48 : Nat) (l49 : Nat) (hl50 : x1.2.2.2.2.2.2.2.2.2.2.2.2.2.2.2.2.1.length = l49) (r : Bool) (h : M_l_eqEd x0 x1 = some r) :
    FC Try.prog 22 [.agg #[.bool x0.1, .int .i64 x0.2.1, .slice a3 l5 c4, .int .i64 x0.2.2.1.2, .int .i64 x0.2.2.2.1, .int .i64 x0.2.2.2.2.1, .int .i64 x0.2.2.2.2.2.1, .int .i64 x0.2.2.2.2.2.2.1, .int .i64 x0.2.2.2.2.2.2.2.1, .int .i64 x0.2.2.2.2.2.2.2.2.1, .int .i64 x0.2.2.2.2.2.2.2.2.2.1, .slice a7 l9 c8, .slice a11 l13 c12, .int .i64 x0.2.2.2.2.2.2.2.2.2.2.2.2.1, .slice a15 l17 c16, .int .i64 x0.2.2.2.2.2.2.2.2.2.2.2.2.2.1.2, .slice a19 l21 c20, .int .i64 x0.2.2.2.2.2.2.2.2.2.2.2.2.2.2.2.1, .slice a23 l25 c24, .int .i64 x0.2.2.2.2.2.2.2.2.2.2.2.2.2.2.2.2.2], .agg #[.bool x1.1, .int .i64 x1.2.1, .slice a27 l29 c28, .int .i64 x1.2.2.1.2, .int .i64 x1.2.2.2.1, .int .i64 x1.2.2.2.2.1, .int .i64 x1.2.2.2.2.2.1, .int .i64 x1.2.2.2.2.2.2.1, .int .i64 x1.2.2.2.2.2.2.2.1, .int .i64 x1.2.2.2.2.2.2.2.2.1, .int .i64 x1.2.2.2.2.2.2.2.2.2.1, .slice a31 l33 c32, .slice a35 l37 c36, .int .i64 x1.2.2.2.2.2.2.2.2.2.2.2.2.1, .slice a39 l41 c40, .int .i64 x1.2.2.2.2.2.2.2.2.2.2.2.2.2.1.2, .slice a43 l45 c44, .int .i64 x1.2.2.2.2.2.2.2.2.2.2.2.2.2.2.2.1, .slice a47 l49 c48, .int .i64 x1.2.2.2.2.2.2.2.2.2.2.2.2.2.2.2.2.2]] [⟨(.int .i64), ⟨a3, l5, c4⟩, x0.2.2.1.1⟩, ⟨(.sl (.int .i64)), ⟨a7, l9, c8⟩, x0.2.2.2.2.2.2.2.2.2.2.1⟩, ⟨(.pair (.sl (.int .i64)) (.int .i64)), ⟨a11, l13, c12⟩, x0.2.2.2.2.2.2.2.2.2.2.2.1⟩, ⟨(.int .i64), ⟨a15, l17, c16⟩, x0.2.2.2.2.2.2.2.2.2.2.2.2.2.1.1⟩, ⟨(.int .i64), ⟨a19, l21, c20⟩, x0.2.2.2.2.2.2.2.2.2.2.2.2.2.2.1⟩, ⟨(.int .i64), ⟨a23, l25, c24⟩, x0.2.2.2.2.2.2.2.2.2.2.2.2.2.2.2.2.1⟩, ⟨(.int .i64), ⟨a27, l29, c28⟩, x1.2.2.1.1⟩, ⟨(.sl (.int .i64)), ⟨a31, l33, c32⟩, x1.2.2.2.2.2.2.2.2.2.2.1⟩, ⟨(.pair (.sl (.int .i64)) (.int .i64)), ⟨a35, l37, c36⟩, x1.2.2.2.2.2.2.2.2.2.2.2.1⟩, ⟨(.int .i64), ⟨a39, l41, c40⟩, x1.2.2.2.2.2.2.2.2.2.2.2.2.2.1.1⟩, ⟨(.int .i64), ⟨a43, l45, c44⟩, x1.2.2.2.2.2.2.2.2.2.2.2.2.2.2.1⟩, ⟨(.int .i64), ⟨a47, l49, c48⟩, x1.2.2.2.2.2.2.2.2.2.2.2.2.2.2.2.2.1⟩] (fun _ : Unit => True) (fun _ => .bool r) (fun _ => []) :=
  by
    subst hl6
    subst hl10
    subst hl14
    subst hl18
    subst hl22
    subst hl26
    subst hl30
    subst hl34
    subst hl38
    subst hl42
    subst hl46
    subst hl50
    refine FC.of (T := TTx) Try.call22 Try.func22 rfl rfl fun w0 => ?_
    unfold M_l_eqEd at h
    refine JS.seq ?_
    refine JS.region ?_
    refine JO.regB ttOk 3 [] [13, 14] [(2, .bp 13 0), (3, .bp 14 0)] (.new 13 47 [.bool x0.1, .int .i64 x0.2.1, .slice a3 x0.2.2.1.1.length c4, .int .i64 x0.2.2.1.2, .int .i64 x0.2.2.2.1, .int .i64 x0.2.2.2.2.1, .int .i64 x0.2.2.2.2.2.1, .int .i64 x0.2.2.2.2.2.2.1, .int .i64 x0.2.2.2.2.2.2.2.1, .int .i64 x0.2.2.2.2.2.2.2.2.1, .int .i64 x0.2.2.2.2.2.2.2.2.2.1, .slice a7 x0.2.2.2.2.2.2.2.2.2.2.1.length c8, .slice a11 x0.2.2.2.2.2.2.2.2.2.2.2.1.length c12, .int .i64 x0.2.2.2.2.2.2.2.2.2.2.2.2.1, .slice a15 x0.2.2.2.2.2.2.2.2.2.2.2.2.2.1.1.length c16, .int .i64 x0.2.2.2.2.2.2.2.2.2.2.2.2.2.1.2, .slice a19 x0.2.2.2.2.2.2.2.2.2.2.2.2.2.2.1.length c20, .int .i64 x0.2.2.2.2.2.2.2.2.2.2.2.2.2.2.2.1, .slice a23 x0.2.2.2.2.2.2.2.2.2.2.2.2.2.2.2.2.1.length c24, .int .i64 x0.2.2.2.2.2.2.2.2.2.2.2.2.2.2.2.2.2] (.new 14 47 [.bool x1.1, .int .i64 x1.2.1, .slice a27 x1.2.2.1.1.length c28, .int .i64 x1.2.2.1.2, .int .i64 x1.2.2.2.1, .int .i64 x1.2.2.2.2.1, .int .i64 x1.2.2.2.2.2.1, .int .i64 x1.2.2.2.2.2.2.1, .int .i64 x1.2.2.2.2.2.2.2.1, .int .i64 x1.2.2.2.2.2.2.2.2.1, .int .i64 x1.2.2.2.2.2.2.2.2.2.1, .slice a31 x1.2.2.2.2.2.2.2.2.2.2.1.length c32, .slice a35 x1.2.2.2.2.2.2.2.2.2.2.2.1.length c36, .int .i64 x1.2.2.2.2.2.2.2.2.2.2.2.2.1, .slice a39 x1.2.2.2.2.2.2.2.2.2.2.2.2.2.1.1.length c40, .int .i64 x1.2.2.2.2.2.2.2.2.2.2.2.2.2.1.2, .slice a43 x1.2.2.2.2.2.2.2.2.2.2.2.2.2.2.1.length c44, .int .i64 x1.2.2.2.2.2.2.2.2.2.2.2.2.2.2.2.1, .slice a47 x1.2.2.2.2.2.2.2.2.2.2.2.2.2.2.2.2.1.length c48, .int .i64 x1.2.2.2.2.2.2.2.2.2.2.2.2.2.2.2.2.2] .nil)) rfl ⟨⟨rfl, rfl, trivial⟩, ⟨rfl, rfl, rfl, rfl, rfl, rfl, rfl, rfl, trivial⟩⟩ ?_
    refine JO.done rfl ?_
    refine JS.seq ?_
    refine JS.seq ?_
    refine JS.region ?_
    refine JO.reg ttOk 5 [] [] [(9, .v (.bool (!(x0.1 == x1.1))))] _ rfl ⟨⟨rfl, trivial⟩, rfl⟩ ?_
    refine JO.done rfl ?_
    refine JS.cond rfl (fun ht96 => ?_) (fun ht96 => ?_)
    · have h := condT h ht96
      refine JS.seq ?_
      refine JS.region ?_
      refine JO.reg ttOk 1 [] [] [(4, .v (.bool false))] _ rfl ⟨⟨rfl, trivial⟩, rfl⟩ ?_
      refine JO.done rfl ?_
      cases h
      exact JS.ret ttOk () trivial rfl rfl [] rfl
    · have h := condF h ht96
      refine JS.skip ?_
      refine JS.seq ?_
      refine JS.seq ?_
      refine JS.region ?_
      refine JO.reg ttOk 5 [] [] [(14, .v (.bool (!(decide (x0.2.1 = x1.2.1)))))] _ rfl ⟨⟨rfl, trivial⟩, rfl⟩ ?_
      refine JO.done rfl ?_
      refine JS.cond rfl (fun ht95 => ?_) (fun ht95 => ?_)
      · have h := condT h ht95
        refine JS.seq ?_
        refine JS.region ?_
        refine JO.reg ttOk 1 [] [] [(4, .v (.bool false))] _ rfl ⟨⟨rfl, trivial⟩, rfl⟩ ?_
        refine JO.done rfl ?_
        cases h
        exact JS.ret ttOk () trivial rfl rfl [] rfl
      · have h := condF h ht95
        refine JS.skip ?_
        refine JS.seq ?_
        refine JS.seq ?_
        refine JS.region ?_
        refine JO.reg ttOk 4 [] [] [(16, .v (.agg #[.slice a3 x0.2.2.1.1.length c4, .int .i64 x0.2.2.1.2])), (18, .v (.agg #[.slice a27 x1.2.2.1.1.length c28, .int .i64 x1.2.2.1.2]))] _ rfl ⟨⟨rfl, rfl, trivial⟩, rfl⟩ ?_
        obtain ⟨y51, hy52, h⟩ := bindO_some h
        refine JO.call rfl rfl rfl rfl (ok_l_eqLine x0.2.2.1 x1.2.2.1 a3 c4 x0.2.2.1.1.length rfl a27 c28 x1.2.2.1.1.length rfl _ hy52) rfl [0, 6] rfl rfl ?_
        intro _ _
        refine JO.reg ttOk 1 [] [] [(20, .v (.bool (!y51)))] _ rfl ⟨⟨rfl, trivial⟩, rfl⟩ ?_
        refine JO.done rfl ?_
        refine JS.cond rfl (fun ht94 => ?_) (fun ht94 => ?_)
        · have h := condT h ht94
          refine JS.seq ?_
          refine JS.region ?_
          refine JO.reg ttOk 1 [] [] [(4, .v (.bool false))] _ rfl ⟨⟨rfl, trivial⟩, rfl⟩ ?_
          refine JO.done rfl ?_
          cases h
          exact JS.ret ttOk () trivial rfl rfl [] rfl
        · have h := condF h ht94
          refine JS.skip ?_
          refine JS.seq ?_
          refine JS.seq ?_
          refine JS.region ?_
          refine JO.reg ttOk 5 [] [] [(25, .v (.bool (!(decide (x0.2.2.2.1 = x1.2.2.2.1)))))] _ rfl ⟨⟨rfl, trivial⟩, rfl⟩ ?_
          refine JO.done rfl ?_
          refine JS.cond rfl (fun ht93 => ?_) (fun ht93 => ?_)
          · have h := condT h ht93
            refine JS.seq ?_
            refine JS.region ?_
            refine JO.reg ttOk 1 [] [] [(4, .v (.bool false))] _ rfl ⟨⟨rfl, trivial⟩, rfl⟩ ?_
            refine JO.done rfl ?_
            cases h
            exact JS.ret ttOk () trivial rfl rfl [] rfl
          · have h := condF h ht93
            refine JS.skip ?_
            refine JS.seq ?_
            refine JS.seq ?_
            refine JS.region ?_
            refine JO.reg ttOk 5 [] [] [(30, .v (.bool (!(decide (x0.2.2.2.2.1 = x1.2.2.2.2.1)))))] _ rfl ⟨⟨rfl, trivial⟩, rfl⟩ ?_
            refine JO.done rfl ?_
            refine JS.cond rfl (fun ht92 => ?_) (fun ht92 => ?_)
            · have h := condT h ht92
              refine JS.seq ?_
              refine JS.region ?_
              refine JO.reg ttOk 1 [] [] [(4, .v (.bool false))] _ rfl ⟨⟨rfl, trivial⟩, rfl⟩ ?_
              refine JO.done rfl ?_
              cases h
              exact JS.ret ttOk () trivial rfl rfl [] rfl
            · have h := condF h ht92
              refine JS.skip ?_
              refine JS.seq ?_
              refine JS.seq ?_
              refine JS.region ?_
              refine JO.reg ttOk 5 [] [] [(35, .v (.bool (!(decide (x0.2.2.2.2.2.1 = x1.2.2.2.2.2.1)))))] _ rfl ⟨⟨rfl, trivial⟩, rfl⟩ ?_
              refine JO.done rfl ?_
              refine JS.cond rfl (fun ht91 => ?_) (fun ht91 => ?_)
              · have h := condT h ht91
                refine JS.seq ?_
                refine JS.region ?_
                refine JO.reg ttOk 1 [] [] [(4, .v (.bool false))] _ rfl ⟨⟨rfl, trivial⟩, rfl⟩ ?_
                refine JO.done rfl ?_
                cases h
                exact JS.ret ttOk () trivial rfl rfl [] rfl
              · have h := condF h ht91
                refine JS.skip ?_
                refine JS.seq ?_
                refine JS.seq ?_
                refine JS.region ?_
                refine JO.reg ttOk 5 [] [] [(40, .v (.bool (!(decide (x0.2.2.2.2.2.2.1 = x1.2.2.2.2.2.2.1)))))] _ rfl ⟨⟨rfl, trivial⟩, rfl⟩ ?_
                refine JO.done rfl ?_
                refine JS.cond rfl (fun ht90 => ?_) (fun ht90 => ?_)
                · have h := condT h ht90
                  refine JS.seq ?_
                  refine JS.region ?_
                  refine JO.reg ttOk 1 [] [] [(4, .v (.bool false))] _ rfl ⟨⟨rfl, trivial⟩, rfl⟩ ?_
                  refine JO.done rfl ?_
                  cases h
                  exact JS.ret ttOk () trivial rfl rfl [] rfl
                · have h := condF h ht90
                  refine JS.skip ?_
                  refine JS.seq ?_
                  refine JS.seq ?_
                  refine JS.region ?_
                  refine JO.reg ttOk 5 [] [] [(45, .v (.bool (!(decide (x0.2.2.2.2.2.2.2.1 = x1.2.2.2.2.2.2.2.1)))))] _ rfl ⟨⟨rfl, trivial⟩, rfl⟩ ?_
                  refine JO.done rfl ?_
                  refine JS.cond rfl (fun ht89 => ?_) (fun ht89 => ?_)
                  · have h := condT h ht89
                    refine JS.seq ?_
                    refine JS.region ?_
                    refine JO.reg ttOk 1 [] [] [(4, .v (.bool false))] _ rfl ⟨⟨rfl, trivial⟩, rfl⟩ ?_
                    refine JO.done rfl ?_
                    cases h
                    exact JS.ret ttOk () trivial rfl rfl [] rfl
                  · have h := condF h ht89
                    refine JS.skip ?_
                    refine JS.seq ?_
                    refine JS.seq ?_
                    refine JS.region ?_
                    refine JO.reg ttOk 5 [] [] [(50, .v (.bool (!(decide (x0.2.2.2.2.2.2.2.2.1 = x1.2.2.2.2.2.2.2.2.1)))))] _ rfl ⟨⟨rfl, trivial⟩, rfl⟩ ?_
                    refine JO.done rfl ?_
                    refine JS.cond rfl (fun ht88 => ?_) (fun ht88 => ?_)
                    · have h := condT h ht88
                      refine JS.seq ?_
                      refine JS.region ?_
                      refine JO.reg ttOk 1 [] [] [(4, .v (.bool false))] _ rfl ⟨⟨rfl, trivial⟩, rfl⟩ ?_
                      refine JO.done rfl ?_
                      cases h
                      exact JS.ret ttOk () trivial rfl rfl [] rfl
                    · have h := condF h ht88
                      refine JS.skip ?_
                      refine JS.seq ?_
                      refine JS.seq ?_
                      refine JS.region ?_
                      refine JO.reg ttOk 5 [] [] [(55, .v (.bool (!(decide (x0.2.2.2.2.2.2.2.2.2.1 = x1.2.2.2.2.2.2.2.2.2.1)))))] _ rfl ⟨⟨rfl, trivial⟩, rfl⟩ ?_
                      refine JO.done rfl ?_
                      refine JS.cond rfl (fun ht87 => ?_) (fun ht87 => ?_)
                      · have h := condT h ht87
                        refine JS.seq ?_
                        refine JS.region ?_
                        refine JO.reg ttOk 1 [] [] [(4, .v (.bool false))] _ rfl ⟨⟨rfl, trivial⟩, rfl⟩ ?_
                        refine JO.done rfl ?_
                        cases h
                        exact JS.ret ttOk () trivial rfl rfl [] rfl
                      · have h := condF h ht87
                        refine JS.skip ?_
                        refine JS.seq ?_
                        refine JS.seq ?_
                        refine JS.region ?_
                        refine JO.reg ttOk 4 [] [] [(57, .v (.agg #[.slice a7 x0.2.2.2.2.2.2.2.2.2.2.1.length c8])), (59, .v (.agg #[.slice a31 x1.2.2.2.2.2.2.2.2.2.2.1.length c32]))] _ rfl ⟨⟨rfl, rfl, trivial⟩, rfl⟩ ?_
                        obtain ⟨y53, hy54, h⟩ := bindO_some h
                        refine JO.call rfl rfl rfl rfl (ok_l_eqRing x0.2.2.2.2.2.2.2.2.2.2.1 x1.2.2.2.2.2.2.2.2.2.2.1 a7 c8 x0.2.2.2.2.2.2.2.2.2.2.1.length rfl a31 c32 x1.2.2.2.2.2.2.2.2.2.2.1.length rfl _ hy54) rfl [1, 7] rfl rfl ?_
                        intro _ _
                        refine JO.reg ttOk 1 [] [] [(61, .v (.bool (!y53)))] _ rfl ⟨⟨rfl, trivial⟩, rfl⟩ ?_
                        refine JO.done rfl ?_
                        refine JS.cond rfl (fun ht86 => ?_) (fun ht86 => ?_)
                        · have h := condT h ht86
                          refine JS.seq ?_
                          refine JS.region ?_
                          refine JO.reg ttOk 1 [] [] [(4, .v (.bool false))] _ rfl ⟨⟨rfl, trivial⟩, rfl⟩ ?_
                          refine JO.done rfl ?_
                          cases h
                          exact JS.ret ttOk () trivial rfl rfl [] rfl
                        · have h := condF h ht86
                          refine JS.skip ?_
                          refine JS.seq ?_
                          refine JS.seq ?_
                          refine JS.region ?_
                          refine JO.reg ttOk 4 [] [] [(63, .v (.agg #[.slice a11 x0.2.2.2.2.2.2.2.2.2.2.2.1.length c12])), (65, .v (.agg #[.slice a35 x1.2.2.2.2.2.2.2.2.2.2.2.1.length c36]))] _ rfl ⟨⟨rfl, rfl, trivial⟩, rfl⟩ ?_
                          obtain ⟨y55, hy56, h⟩ := bindO_some h
                          refine JO.call rfl rfl rfl rfl (ok_l_eqUndo x0.2.2.2.2.2.2.2.2.2.2.2.1 x1.2.2.2.2.2.2.2.2.2.2.2.1 a11 c12 x0.2.2.2.2.2.2.2.2.2.2.2.1.length rfl a35 c36 x1.2.2.2.2.2.2.2.2.2.2.2.1.length rfl _ hy56) rfl [2, 8] rfl rfl ?_
                          intro _ _
                          refine JO.reg ttOk 1 [] [] [(67, .v (.bool (!y55)))] _ rfl ⟨⟨rfl, trivial⟩, rfl⟩ ?_
                          refine JO.done rfl ?_
                          refine JS.cond rfl (fun ht85 => ?_) (fun ht85 => ?_)
                          · have h := condT h ht85
                            refine JS.seq ?_
                            refine JS.region ?_
                            refine JO.reg ttOk 1 [] [] [(4, .v (.bool false))] _ rfl ⟨⟨rfl, trivial⟩, rfl⟩ ?_
                            refine JO.done rfl ?_
                            cases h
                            exact JS.ret ttOk () trivial rfl rfl [] rfl
                          · have h := condF h ht85
                            refine JS.skip ?_
                            refine JS.seq ?_
                            refine JS.seq ?_
                            refine JS.region ?_
                            refine JO.reg ttOk 5 [] [] [(72, .v (.bool (!(decide (x0.2.2.2.2.2.2.2.2.2.2.2.2.1 = x1.2.2.2.2.2.2.2.2.2.2.2.2.1)))))] _ rfl ⟨⟨rfl, trivial⟩, rfl⟩ ?_
                            refine JO.done rfl ?_
                            refine JS.cond rfl (fun ht84 => ?_) (fun ht84 => ?_)
                            · have h := condT h ht84
                              refine JS.seq ?_
                              refine JS.region ?_
                              refine JO.reg ttOk 1 [] [] [(4, .v (.bool false))] _ rfl ⟨⟨rfl, trivial⟩, rfl⟩ ?_
                              refine JO.done rfl ?_
                              cases h
                              exact JS.ret ttOk () trivial rfl rfl [] rfl
                            · have h := condF h ht84
                              refine JS.skip ?_
                              refine JS.seq ?_
                              refine JS.seq ?_
                              refine JS.region ?_
                              refine JO.reg ttOk 4 [] [] [(74, .v (.agg #[.slice a15 x0.2.2.2.2.2.2.2.2.2.2.2.2.2.1.1.length c16, .int .i64 x0.2.2.2.2.2.2.2.2.2.2.2.2.2.1.2])), (76, .v (.agg #[.slice a39 x1.2.2.2.2.2.2.2.2.2.2.2.2.2.1.1.length c40, .int .i64 x1.2.2.2.2.2.2.2.2.2.2.2.2.2.1.2]))] _ rfl ⟨⟨rfl, rfl, trivial⟩, rfl⟩ ?_
                              obtain ⟨y57, hy58, h⟩ := bindO_some h
                              refine JO.call rfl rfl rfl rfl (ok_l_eqLine x0.2.2.2.2.2.2.2.2.2.2.2.2.2.1 x1.2.2.2.2.2.2.2.2.2.2.2.2.2.1 a15 c16 x0.2.2.2.2.2.2.2.2.2.2.2.2.2.1.1.length rfl a39 c40 x1.2.2.2.2.2.2.2.2.2.2.2.2.2.1.1.length rfl _ hy58) rfl [3, 9] rfl rfl ?_
                              intro _ _
                              refine JO.reg ttOk 1 [] [] [(78, .v (.bool (!y57)))] _ rfl ⟨⟨rfl, trivial⟩, rfl⟩ ?_
                              refine JO.done rfl ?_
                              refine JS.cond rfl (fun ht83 => ?_) (fun ht83 => ?_)
                              · have h := condT h ht83
                                refine JS.seq ?_
                                refine JS.region ?_
                                refine JO.reg ttOk 1 [] [] [(4, .v (.bool false))] _ rfl ⟨⟨rfl, trivial⟩, rfl⟩ ?_
                                refine JO.done rfl ?_
                                cases h
                                exact JS.ret ttOk () trivial rfl rfl [] rfl
                              · have h := condF h ht83
                                refine JS.skip ?_
                                refine JS.seq ?_
                                refine JS.seq ?_
                                refine JS.region ?_
                                refine JO.reg ttOk 4 [] [] [(80, .v (.slice a19 x0.2.2.2.2.2.2.2.2.2.2.2.2.2.2.1.length c20)), (82, .v (.slice a43 x1.2.2.2.2.2.2.2.2.2.2.2.2.2.2.1.length c44))] _ rfl ⟨⟨rfl, rfl, trivial⟩, rfl⟩ ?_
                                obtain ⟨y59, hy60, h⟩ := bindO_some h
                                refine JO.call rfl rfl rfl rfl (ok_l_eqIntS x0.2.2.2.2.2.2.2.2.2.2.2.2.2.2.1 x1.2.2.2.2.2.2.2.2.2.2.2.2.2.2.1 a19 c20 x0.2.2.2.2.2.2.2.2.2.2.2.2.2.2.1.length rfl a43 c44 x1.2.2.2.2.2.2.2.2.2.2.2.2.2.2.1.length rfl _ hy60) rfl [4, 10] rfl rfl ?_
                                intro _ _
                                refine JO.reg ttOk 1 [] [] [(84, .v (.bool (!y59)))] _ rfl ⟨⟨rfl, trivial⟩, rfl⟩ ?_
                                refine JO.done rfl ?_
                                refine JS.cond rfl (fun ht82 => ?_) (fun ht82 => ?_)
                                · have h := condT h ht82
                                  refine JS.seq ?_
                                  refine JS.region ?_
                                  refine JO.reg ttOk 1 [] [] [(4, .v (.bool false))] _ rfl ⟨⟨rfl, trivial⟩, rfl⟩ ?_
                                  refine JO.done rfl ?_
                                  cases h
                                  exact JS.ret ttOk () trivial rfl rfl [] rfl
                                · have h := condF h ht82
                                  refine JS.skip ?_
                                  refine JS.seq ?_
                                  refine JS.seq ?_
                                  refine JS.region ?_
                                  refine JO.reg ttOk 5 [] [] [(89, .v (.bool (!(decide (x0.2.2.2.2.2.2.2.2.2.2.2.2.2.2.2.1 = x1.2.2.2.2.2.2.2.2.2.2.2.2.2.2.2.1)))))] _ rfl ⟨⟨rfl, trivial⟩, rfl⟩ ?_
                                  refine JO.done rfl ?_
                                  refine JS.cond rfl (fun ht81 => ?_) (fun ht81 => ?_)
                                  · have h := condT h ht81
                                    refine JS.seq ?_
                                    refine JS.region ?_
                                    refine JO.reg ttOk 1 [] [] [(4, .v (.bool false))] _ rfl ⟨⟨rfl, trivial⟩, rfl⟩ ?_
                                    refine JO.done rfl ?_
                                    cases h
                                    exact JS.ret ttOk () trivial rfl rfl [] rfl
                                  · have h := condF h ht81
                                    refine JS.skip ?_
                                    refine JS.seq ?_
                                    refine JS.seq ?_
                                    refine JS.region ?_
                                    refine JO.reg ttOk 4 [] [] [(91, .v (.agg #[.slice a23 x0.2.2.2.2.2.2.2.2.2.2.2.2.2.2.2.2.1.length c24, .int .i64 x0.2.2.2.2.2.2.2.2.2.2.2.2.2.2.2.2.2])), (93, .v (.agg #[.slice a47 x1.2.2.2.2.2.2.2.2.2.2.2.2.2.2.2.2.1.length c48, .int .i64 x1.2.2.2.2.2.2.2.2.2.2.2.2.2.2.2.2.2]))] _ rfl ⟨⟨rfl, rfl, trivial⟩, rfl⟩ ?_
                                    obtain ⟨y61, hy62, h⟩ := bindO_some h
                                    refine JO.call rfl rfl rfl rfl (ok_l_eqLine x0.2.2.2.2.2.2.2.2.2.2.2.2.2.2.2.2 x1.2.2.2.2.2.2.2.2.2.2.2.2.2.2.2.2 a23 c24 x0.2.2.2.2.2.2.2.2.2.2.2.2.2.2.2.2.1.length rfl a47 c48 x1.2.2.2.2.2.2.2.2.2.2.2.2.2.2.2.2.1.length rfl _ hy62) rfl [5, 11] rfl rfl ?_
                                    intro _ _
                                    refine JO.reg ttOk 1 [] [] [(95, .v (.bool (!y61)))] _ rfl ⟨⟨rfl, trivial⟩, rfl⟩ ?_
                                    refine JO.done rfl ?_
                                    refine JS.cond rfl (fun ht80 => ?_) (fun ht80 => ?_)
                                    · have h := condT h ht80
                                      refine JS.seq ?_
                                      refine JS.region ?_
                                      refine JO.reg ttOk 1 [] [] [(4, .v (.bool false))] _ rfl ⟨⟨rfl, trivial⟩, rfl⟩ ?_
                                      refine JO.done rfl ?_
                                      cases h
                                      exact JS.ret ttOk () trivial rfl rfl [] rfl
                                    · have h := condF h ht80
                                      refine JS.skip ?_
                                      refine JS.seq ?_
                                      refine JS.region ?_
                                      refine JO.reg ttOk 1 [] [] [(4, .v (.bool true))] _ rfl ⟨⟨rfl, trivial⟩, rfl⟩ ?_
                                      refine JO.done rfl ?_
                                      cases h
                                      exact JS.ret ttOk () trivial rfl rfl [] rfl

def M_l_markIntS_L1 (x0 : List Int) (j19 : (List Int × Int) → Option (Int × List Int)) (k13 : (List Int × Int × Int) → Option (Int × List Int)) : (List Int × Int × Int) → Option (Int × List Int) := fun (x7, x8, x9) =>
  (bif (decide (x9 < (x0.length : Int))) then
  (guardO (0 ≤ x9 ∧ x9 < (x0.length : Int)) <|
  k13 ((List.set x7 (Int.toNat x9) x8), (W (x8 + 1)), (W (x9 + 1))))
  else
  j19 (x7, x8))

def M_l_markIntS (x0 : List Int) (x1 : Int) : Option (Int × List Int) :=
  (joinO (fun ((x17, x18) : List Int × Int) =>
  some (x18, x17)) fun j19 =>
  (fixF (M_l_markIntS_L1 x0 j19) FUEL (x0, x1, 0)))

theorem ok_l_markIntS (x0 : List Int) (x1 : Int) (a3 : Option Addr) (c4 : Nat) (l5 : Nat) (hl6 : x0.length = l5) (r : Int × List Int) (h : M_l_markIntS x0 x1 = some r) :
    FX Try.prog 61 [.slice a3 l5 c4, .int .i64 x1] [] [⟨(.int .i64), ⟨a3, l5, c4⟩, x0⟩] (fun _ : Unit => True) (fun _ => .int .i64 r.1) (fun _ => [⟨(.int .i64), ⟨a3, l5, c4⟩, r.2⟩]) :=
  by
    subst hl6
    refine FX.of (T := TTx) Try.call61 Try.func61 rfl rfl fun w0 L0 => ?_
    unfold M_l_markIntS at h
    refine JS.seq ?_
    refine JS.region ?_
    refine JO.reg ttOk 1 [] [] [] _ rfl ⟨trivial, rfl⟩ ?_
    refine JO.done rfl ?_
    refine JS.seq ?_
    refine JS.seq ?_
    refine JS.region ?_
    refine JO.reg ttOk 1 [] [] [(5, .v (.int .i64 0))] _ rfl ⟨⟨rfl, trivial⟩, rfl⟩ ?_
    refine JO.done rfl ?_
    obtain ⟨j19, hj27, h⟩ := joinO_some h
    refine JS.blockJ (ι := List Int × Int) ⟨fun z => j19 (z.1, z.2) = some r, fun z => [(1, .v (.int .i64 z.2))], fun z => .nil, fun z => [], fun z => [⟨(.int .i64), ⟨a3, x0.length, c4⟩, z.1⟩], fun z => 0⟩ ?_ ?_
    · refine JS.loop (ι := Nat × List Int × Int × Int) ⟨fun z => fixF (M_l_markIntS_L1 x0 j19) z.1 (z.2.1, z.2.2.1, z.2.2.2) = some r, fun z => [(0, .v (.slice a3 x0.length c4)), (1, .v (.int .i64 z.2.2.1)), (5, .v (.int .i64 z.2.2.2))], fun z => .nil, fun z => [], fun z => [⟨(.int .i64), ⟨a3, x0.length, c4⟩, z.2.1⟩], fun z => z.1⟩ (FUEL, x0, x1, 0) h ⟨rfl, rfl, rfl, trivial⟩ trivial [] rfl [0] rfl ?_
      rintro ⟨n14, x7, x8, x9⟩ h
      obtain ⟨n14, rfl, h⟩ := fixF_some h
      rw [M_l_markIntS_L1] at h
      refine JS.know 0 rfl fun hs24 => ?_
      refine JS.seq ?_
      refine JS.seq ?_
      refine JS.region ?_
      refine JO.reg ttOk 4 [] [] [(9, .v (.bool (decide (x9 < (x0.length : Int)))))] _ rfl ⟨⟨rfl, trivial⟩, rfl⟩ ?_
      refine JO.done rfl ?_
      refine JS.cond rfl (fun ht25 => ?_) (fun ht25 => ?_)
      · have h := condT h ht25
        refine JS.skip ?_
        refine JS.seq ?_
        refine JS.block ?_
        refine JS.seq ?_
        refine JS.region ?_
        obtain ⟨g11, h⟩ := guardO_some h
        refine JO.reg ttOk 4 [] [] [(14, .v (.int .i64 x8)), (15, .ep ⟨a3, x0.length, c4⟩ (Int.toNat x9 * 1))] _ rfl ⟨(hs24.cast hs24.len.symm).ix g11, ⟨rfl, rfl, trivial⟩, rfl⟩ ?_
        refine JO.storeE ttOk rfl rfl rfl rfl rfl rfl rfl rfl rfl [0] (fs := []) rfl (Int.toNat x9) 0 (at' x7 x9) x8 ⟨at_someL hs24.len.symm g11, rfl⟩ ⟨rfl, rfl, rfl⟩ ?_
        refine JO.done rfl ?_
        refine JS.region ?_
        refine JO.reg ttOk 3 [(W (x8 + 1))] [] [(1, .v (.int .i64 (W (x8 + 1))))] _ rfl ⟨⟨trivial, rfl⟩, ⟨rfl, trivial⟩, rfl⟩ ?_
        refine JO.done rfl ?_
        refine JS.endB ?_
        refine JS.region ?_
        refine JO.reg ttOk 3 [(W (x9 + 1))] [] [(5, .v (.int .i64 (W (x9 + 1))))] _ rfl ⟨⟨trivial, rfl⟩, ⟨rfl, trivial⟩, rfl⟩ ?_
        refine JO.done rfl ?_
        exact JS.endL (n14, (List.set x7 (Int.toNat x9) x8), (W (x8 + 1)), (W (x9 + 1))) h (Nat.lt_succ_self _) ⟨rfl, rfl, rfl, trivial⟩ trivial [] rfl [0] rfl
      · have h := condF h ht25
        refine JS.exit rfl ?_
        exact JS.endJ (x7, x8) h ⟨rfl, trivial⟩ trivial [] rfl [0] rfl
    · rintro ⟨x17, x18⟩ h
      subst hj27
      refine JS.know 0 rfl fun hs26 => ?_
      refine JS.seq ?_
      refine JS.region ?_
      refine JO.reg ttOk 2 [] [] [(4, .v (.int .i64 x18))] _ rfl ⟨⟨rfl, trivial⟩, rfl⟩ ?_
      refine JO.done rfl ?_
      cases h
      exact JS.retX ttOk () trivial rfl rfl [0] rfl

def M_l_markLine (x0 : List Int × Int) (x1 : Int) : Option (Int × List Int) :=
  (bindO (M_l_markIntS x0.1 x1) fun (y7, y8) =>
  some (y7, y8))

theorem ok_l_markLine (x0 : List Int × Int) (x1 : Int) (a3 : Option Addr) (c4 : Nat) (l5 : Nat) (hl6 : x0.1.length = l5) (r : Int × List Int) (h : M_l_markLine x0 x1 = some r) :
    FX Try.prog 38 [.agg #[.slice a3 l5 c4, .int .i64 x0.2], .int .i64 x1] [] [⟨(.int .i64), ⟨a3, l5, c4⟩, x0.1⟩] (fun _ : Unit => True) (fun _ => .int .i64 r.1) (fun _ => [⟨(.int .i64), ⟨a3, l5, c4⟩, r.2⟩]) :=
  by
    subst hl6
    refine FX.of (T := TTx) Try.call38 Try.func38 rfl rfl fun w0 L0 => ?_
    unfold M_l_markLine at h
    refine JS.seq ?_
    refine JS.region ?_
    refine JO.regB ttOk 2 [] [2] [(2, .bp 2 0)] (.new 2 25 [.slice a3 x0.1.length c4, .int .i64 x0.2] .nil) rfl ⟨⟨rfl, trivial⟩, ⟨rfl, rfl, rfl, rfl, trivial⟩⟩ ?_
    refine JO.done rfl ?_
    refine JS.seq ?_
    refine JS.region ?_
    refine JO.reg ttOk 3 [] [] [(6, .v (.slice a3 x0.1.length c4)), (7, .v (.int .i64 x1))] _ rfl ⟨⟨rfl, rfl, trivial⟩, rfl⟩ ?_
    obtain ⟨⟨y7, y8⟩, hy9, h⟩ := bindO_some h
    refine JO.callX rfl rfl rfl rfl (ok_l_markIntS x0.1 x1 a3 c4 x0.1.length rfl _ hy9) rfl [0] rfl [] rfl rfl ?_
    intro _ _
    refine JO.know 0 rfl fun hs10 => ?_
    refine JO.reg ttOk 1 [] [] [(1, .v (.int .i64 y7))] _ rfl ⟨⟨rfl, trivial⟩, rfl⟩ ?_
    refine JO.done rfl ?_
    refine JS.seq ?_
    refine JS.region ?_
    refine JO.reg ttOk 2 [] [] [(4, .v (.int .i64 y7))] _ rfl ⟨⟨rfl, trivial⟩, rfl⟩ ?_
    refine JO.done rfl ?_
    cases h
    exact JS.retX ttOk () trivial rfl rfl [0] rfl

def M_l_markPieceS_L1 (x0 : List (List Int)) (j27 : (List (List Int) × Int) → Option (Int × List (List Int))) (k21 : (List (List Int) × Int × Int) → Option (Int × List (List Int))) : (List (List Int) × Int × Int) → Option (Int × List (List Int)) := fun (x7, x8, x9) =>
  (bif (decide (x9 < (x0.length : Int))) then
  (guardO (0 ≤ x9 ∧ x9 < (x0.length : Int)) <|
  (bindO (M_l_markIntS (at' x7 x9) x8) fun (y16, y17) =>
  k21 ((List.set x7 (Int.toNat x9) y17), y16, (W (x9 + 1)))))
  else
  j27 (x7, x8))

def M_l_markPieceS (x0 : List (List Int)) (x1 : Int) : Option (Int × List (List Int)) :=
  (joinO (fun ((x25, x26) : List (List Int) × Int) =>
  some (x26, x25)) fun j27 =>
  (fixF (M_l_markPieceS_L1 x0 j27) FUEL (x0, x1, 0)))

theorem ok_l_markPieceS (x0 : List (List Int)) (x1 : Int) (a3 : Option Addr) (c4 : Nat) (l5 : Nat) (hl6 : x0.length = l5) (r : Int × List (List Int)) (h : M_l_markPieceS x0 x1 = some r) :
    FX Try.prog 105 [.slice a3 l5 c4, .int .i64 x1] [] [⟨(.sl (.int .i64)), ⟨a3, l5, c4⟩, x0⟩] (fun _ : Unit => True) (fun _ => .int .i64 r.1) (fun _ => [⟨(.sl (.int .i64)), ⟨a3, l5, c4⟩, r.2⟩]) :=
  by
    subst hl6
    refine FX.of (T := TTx) Try.call105 Try.func105 rfl rfl fun w0 L0 => ?_
    unfold M_l_markPieceS at h
    refine JS.seq ?_
    refine JS.region ?_
    refine JO.reg ttOk 1 [] [] [] _ rfl ⟨trivial, rfl⟩ ?_
    refine JO.done rfl ?_
    refine JS.seq ?_
    refine JS.seq ?_
    refine JS.region ?_
    refine JO.reg ttOk 1 [] [] [(5, .v (.int .i64 0))] _ rfl ⟨⟨rfl, trivial⟩, rfl⟩ ?_
    refine JO.done rfl ?_
    obtain ⟨j27, hj35, h⟩ := joinO_some h
    refine JS.blockJ (ι := List (List Int) × Int) ⟨fun z => j27 (z.1, z.2) = some r, fun z => [(1, .v (.int .i64 z.2))], fun z => .nil, fun z => [], fun z => [⟨(.sl (.int .i64)), ⟨a3, x0.length, c4⟩, z.1⟩], fun z => 0⟩ ?_ ?_
    · refine JS.loop (ι := Nat × List (List Int) × Int × Int) ⟨fun z => fixF (M_l_markPieceS_L1 x0 j27) z.1 (z.2.1, z.2.2.1, z.2.2.2) = some r, fun z => [(0, .v (.slice a3 x0.length c4)), (1, .v (.int .i64 z.2.2.1)), (5, .v (.int .i64 z.2.2.2))], fun z => .nil, fun z => [], fun z => [⟨(.sl (.int .i64)), ⟨a3, x0.length, c4⟩, z.2.1⟩], fun z => z.1⟩ (FUEL, x0, x1, 0) h ⟨rfl, rfl, rfl, trivial⟩ trivial [] rfl [0] rfl ?_
      rintro ⟨n22, x7, x8, x9⟩ h
      obtain ⟨n22, rfl, h⟩ := fixF_some h
      rw [M_l_markPieceS_L1] at h
      refine JS.know 0 rfl fun hs32 => ?_
      refine JS.seq ?_
      refine JS.seq ?_
      refine JS.region ?_
      refine JO.reg ttOk 4 [] [] [(9, .v (.bool (decide (x9 < (x0.length : Int)))))] _ rfl ⟨⟨rfl, trivial⟩, rfl⟩ ?_
      refine JO.done rfl ?_
      refine JS.cond rfl (fun ht33 => ?_) (fun ht33 => ?_)
      · have h := condT h ht33
        refine JS.skip ?_
        refine JS.seq ?_
        refine JS.block ?_
        refine JS.region ?_
        obtain ⟨g11, h⟩ := guardO_some h
        refine JO.reg ttOk 4 [] [] [(15, .ep ⟨a3, x0.length, c4⟩ (Int.toNat x9 * 1))] _ rfl ⟨(hs32.cast hs32.len.symm).ix g11, (hs32.cast hs32.len.symm).fa g11, ⟨rfl, trivial⟩, rfl⟩ ?_
        refine JO.lend [0] rfl (Int.toNat x9) (at' x7 x9) rfl ?_
        intro a12 c13 l14 hl15
        obtain rfl : ([.slice a12 (at' x7 x9).length c13] : List Value) = l14 := Option.some.inj hl15
        refine JO.loadV ttOk rfl rfl rfl rfl rfl rfl 0 rfl rfl (Int.toNat x9) 0 (Sum.inr [.slice a12 (at' x7 x9).length c13]) ⟨lentL_at (at_someL hs32.len.symm g11), rfl⟩ rfl rfl rfl ?_
        refine JO.reg ttOk 1 [] [] [(17, .v (.int .i64 x8))] _ rfl ⟨⟨rfl, trivial⟩, rfl⟩ ?_
        obtain ⟨⟨y16, y17⟩, hy18, h⟩ := bindO_some h
        refine JO.callX rfl rfl rfl rfl (ok_l_markIntS (at' x7 x9) x8 a12 c13 ((at' x7 x9).length) rfl _ hy18) rfl [1] rfl [] rfl rfl ?_
        intro _ _
        refine JO.know 0 rfl fun hs19 => ?_
        refine JO.reg ttOk 1 [] [] [(1, .v (.int .i64 y16))] _ rfl ⟨⟨rfl, trivial⟩, rfl⟩ ?_
        refine JO.unlend [1, 0] rfl y17 ⟨rfl, rfl, rfl⟩ ?_
        refine JO.done rfl ?_
        refine JS.endB ?_
        refine JS.region ?_
        refine JO.reg ttOk 3 [(W (x9 + 1))] [] [(5, .v (.int .i64 (W (x9 + 1))))] _ rfl ⟨⟨trivial, rfl⟩, ⟨rfl, trivial⟩, rfl⟩ ?_
        refine JO.done rfl ?_
        exact JS.endL (n22, (List.set x7 (Int.toNat x9) y17), y16, (W (x9 + 1))) h (Nat.lt_succ_self _) ⟨rfl, rfl, rfl, trivial⟩ trivial [] rfl [0] rfl
      · have h := condF h ht33
        refine JS.exit rfl ?_
        exact JS.endJ (x7, x8) h ⟨rfl, trivial⟩ trivial [] rfl [0] rfl
    · rintro ⟨x25, x26⟩ h
      subst hj35
      refine JS.know 0 rfl fun hs34 => ?_
      refine JS.seq ?_
      refine JS.region ?_
      refine JO.reg ttOk 2 [] [] [(4, .v (.int .i64 x26))] _ rfl ⟨⟨rfl, trivial⟩, rfl⟩ ?_
      refine JO.done rfl ?_
      cases h
      exact JS.retX ttOk () trivial rfl rfl [0] rfl

def M_l_markRing (x0 : List (List Int)) (x1 : Int) : Option (Int × List (List Int)) :=
  (bindO (M_l_markPieceS x0 x1) fun (y7, y8) =>
  some (y7, y8))

theorem ok_l_markRing (x0 : List (List Int)) (x1 : Int) (a3 : Option Addr) (c4 : Nat) (l5 : Nat) (hl6 : x0.length = l5) (r : Int × List (List Int)) (h : M_l_markRing x0 x1 = some r) :
    FX Try.prog 59 [.agg #[.slice a3 l5 c4], .int .i64 x1] [] [⟨(.sl (.int .i64)), ⟨a3, l5, c4⟩, x0⟩] (fun _ : Unit => True) (fun _ => .int .i64 r.1) (fun _ => [⟨(.sl (.int .i64)), ⟨a3, l5, c4⟩, r.2⟩]) :=
  by
    subst hl6
    refine FX.of (T := TTx) Try.call59 Try.func59 rfl rfl fun w0 L0 => ?_
    unfold M_l_markRing at h
    refine JS.seq ?_
    refine JS.region ?_
    refine JO.regB ttOk 2 [] [2] [(2, .bp 2 0)] (.new 2 42 [.slice a3 x0.length c4] .nil) rfl ⟨⟨rfl, trivial⟩, ⟨rfl, rfl, rfl, rfl, trivial⟩⟩ ?_
    refine JO.done rfl ?_
    refine JS.seq ?_
    refine JS.region ?_
    refine JO.reg ttOk 3 [] [] [(6, .v (.slice a3 x0.length c4)), (7, .v (.int .i64 x1))] _ rfl ⟨⟨rfl, rfl, trivial⟩, rfl⟩ ?_
    obtain ⟨⟨y7, y8⟩, hy9, h⟩ := bindO_some h
    refine JO.callX rfl rfl rfl rfl (ok_l_markPieceS x0 x1 a3 c4 x0.length rfl _ hy9) rfl [0] rfl [] rfl rfl ?_
    intro _ _
    refine JO.know 0 rfl fun hs10 => ?_
    refine JO.reg ttOk 1 [] [] [(1, .v (.int .i64 y7))] _ rfl ⟨⟨rfl, trivial⟩, rfl⟩ ?_
    refine JO.done rfl ?_
    refine JS.seq ?_
    refine JS.region ?_
    refine JO.reg ttOk 2 [] [] [(4, .v (.int .i64 y7))] _ rfl ⟨⟨rfl, trivial⟩, rfl⟩ ?_
    refine JO.done rfl ?_
    cases h
    exact JS.retX ttOk () trivial rfl rfl [0] rfl

def M_l_markLineS_L1 (x0 : List (List Int × Int)) (j28 : ((List (List Int × Int)) × Int) → Option (Int × List (List Int × Int))) (k22 : ((List (List Int × Int)) × Int × Int) → Option (Int × List (List Int × Int))) : ((List (List Int × Int)) × Int × Int) → Option (Int × List (List Int × Int)) := fun (x7, x8, x9) =>
  (bif (decide (x9 < (x0.length : Int))) then
  (guardO (0 ≤ x9 ∧ x9 < (x0.length : Int)) <|
  (bindO (M_l_markIntS ((at' x7 x9).1) x8) fun (y16, y17) =>
  (guardO (0 ≤ x9 ∧ x9 < (x0.length : Int)) <|
  k22 ((List.set (List.set x7 (Int.toNat x9) (y17, (at' x7 x9).2)) (Int.toNat x9) ((at' (List.set x7 (Int.toNat x9) (y17, (at' x7 x9).2)) x9).1, y16)), (W (y16 + 1)), (W (x9 + 1))))))
  else
  j28 (x7, x8))

def M_l_markLineS (x0 : List (List Int × Int)) (x1 : Int) : Option (Int × List (List Int × Int)) :=
  (joinO (fun ((x26, x27) : (List (List Int × Int)) × Int) =>
  some (x27, x26)) fun j28 =>
  (fixF (M_l_markLineS_L1 x0 j28) FUEL (x0, x1, 0)))

theorem ok_l_markLineS (x0 : List (List Int × Int)) (x1 : Int) (a3 : Option Addr) (c4 : Nat) (l5 : Nat) (hl6 : x0.length = l5) (r : Int × List (List Int × Int)) (h : M_l_markLineS x0 x1 = some r) :
    FX Try.prog 106 [.slice a3 l5 c4, .int .i64 x1] [] [⟨(.pair (.sl (.int .i64)) (.int .i64)), ⟨a3, l5, c4⟩, x0⟩] (fun _ : Unit => True) (fun _ => .int .i64 r.1) (fun _ => [⟨(.pair (.sl (.int .i64)) (.int .i64)), ⟨a3, l5, c4⟩, r.2⟩]) :=
  by
    subst hl6
    refine FX.of (T := TTx) Try.call106 Try.func106 rfl rfl fun w0 L0 => ?_
    unfold M_l_markLineS at h
    refine JS.seq ?_
    refine JS.region ?_
    refine JO.reg ttOk 1 [] [] [] _ rfl ⟨trivial, rfl⟩ ?_
    refine JO.done rfl ?_
    refine JS.seq ?_
    refine JS.seq ?_
    refine JS.region ?_
    refine JO.reg ttOk 1 [] [] [(5, .v (.int .i64 0))] _ rfl ⟨⟨rfl, trivial⟩, rfl⟩ ?_
    refine JO.done rfl ?_
    obtain ⟨j28, hj36, h⟩ := joinO_some h
    refine JS.blockJ (ι := (List (List Int × Int)) × Int) ⟨fun z => j28 (z.1, z.2) = some r, fun z => [(1, .v (.int .i64 z.2))], fun z => .nil, fun z => [], fun z => [⟨(.pair (.sl (.int .i64)) (.int .i64)), ⟨a3, x0.length, c4⟩, z.1⟩], fun z => 0⟩ ?_ ?_
    · refine JS.loop (ι := Nat × (List (List Int × Int)) × Int × Int) ⟨fun z => fixF (M_l_markLineS_L1 x0 j28) z.1 (z.2.1, z.2.2.1, z.2.2.2) = some r, fun z => [(0, .v (.slice a3 x0.length c4)), (1, .v (.int .i64 z.2.2.1)), (5, .v (.int .i64 z.2.2.2))], fun z => .nil, fun z => [], fun z => [⟨(.pair (.sl (.int .i64)) (.int .i64)), ⟨a3, x0.length, c4⟩, z.2.1⟩], fun z => z.1⟩ (FUEL, x0, x1, 0) h ⟨rfl, rfl, rfl, trivial⟩ trivial [] rfl [0] rfl ?_
      rintro ⟨n23, x7, x8, x9⟩ h
      obtain ⟨n23, rfl, h⟩ := fixF_some h
      rw [M_l_markLineS_L1] at h
      refine JS.know 0 rfl fun hs33 => ?_
      refine JS.seq ?_
      refine JS.seq ?_
      refine JS.region ?_
      refine JO.reg ttOk 4 [] [] [(9, .v (.bool (decide (x9 < (x0.length : Int)))))] _ rfl ⟨⟨rfl, trivial⟩, rfl⟩ ?_
      refine JO.done rfl ?_
      refine JS.cond rfl (fun ht34 => ?_) (fun ht34 => ?_)
      · have h := condT h ht34
        refine JS.skip ?_
        refine JS.seq ?_
        refine JS.block ?_
        refine JS.seq ?_
        refine JS.region ?_
        obtain ⟨g11, h⟩ := guardO_some h
        refine JO.reg ttOk 4 [] [] [(15, .ep ⟨a3, x0.length, c4⟩ (Int.toNat x9 * 2))] _ rfl ⟨(hs33.cast hs33.len.symm).ix g11, (hs33.cast hs33.len.symm).fa g11, ⟨rfl, trivial⟩, rfl⟩ ?_
        refine JO.lend [0] rfl (Int.toNat x9) (at' x7 x9) rfl ?_
        intro a12 c13 l14 hl15
        obtain rfl : ([.slice a12 ((at' x7 x9).1).length c13, .int .i64 (at' x7 x9).2] : List Value) = l14 := Option.some.inj hl15
        refine JO.loadV ttOk rfl rfl rfl rfl rfl rfl 0 rfl rfl (Int.toNat x9) 0 (Sum.inr [.slice a12 ((at' x7 x9).1).length c13, .int .i64 (at' x7 x9).2]) ⟨lentL_at (at_someL hs33.len.symm g11), rfl⟩ rfl rfl rfl ?_
        refine JO.reg ttOk 1 [] [] [(17, .v (.int .i64 x8))] _ rfl ⟨⟨rfl, trivial⟩, rfl⟩ ?_
        obtain ⟨⟨y16, y17⟩, hy18, h⟩ := bindO_some h
        refine JO.callX rfl rfl rfl rfl (ok_l_markIntS ((at' x7 x9).1) x8 a12 c13 (((at' x7 x9).1).length) rfl _ hy18) rfl [1] rfl [] rfl rfl ?_
        intro _ _
        refine JO.know 0 rfl fun hs19 => ?_
        refine JO.reg ttOk 1 [] [] [(1, .v (.int .i64 y16))] _ rfl ⟨⟨rfl, trivial⟩, rfl⟩ ?_
        refine JO.unlend [1, 0] rfl (y17, (at' x7 x9).2) ⟨rfl, rfl, rfl⟩ ?_
        refine JO.done rfl ?_
        refine JS.seq ?_
        refine JS.region ?_
        obtain ⟨g20, h⟩ := guardO_some h
        refine JO.reg ttOk 5 [] [] [(21, .v (.int .i64 y16)), (23, .ep ⟨a3, x0.length, c4⟩ (Int.toNat x9 * 2 + 1))] _ rfl ⟨(hs33.cast hs33.len.symm).ix g20, (hs33.cast hs33.len.symm).fa g20, ⟨rfl, rfl, trivial⟩, rfl⟩ ?_
        refine JO.storeE ttOk rfl rfl rfl rfl rfl rfl rfl rfl rfl [0] (fs := []) rfl (Int.toNat x9) 1 (at' (List.set x7 (Int.toNat x9) (y17, (at' x7 x9).2)) x9) ((at' (List.set x7 (Int.toNat x9) (y17, (at' x7 x9).2)) x9).1, y16) ⟨at_someL (List.length_set.trans hs33.len.symm) g20, rfl⟩ ⟨⟨rfl, rfl, rfl⟩, rfl⟩ ?_
        refine JO.done rfl ?_
        refine JS.region ?_
        refine JO.reg ttOk 3 [(W (y16 + 1))] [] [(1, .v (.int .i64 (W (y16 + 1))))] _ rfl ⟨⟨trivial, rfl⟩, ⟨rfl, trivial⟩, rfl⟩ ?_
        refine JO.done rfl ?_
        refine JS.endB ?_
        refine JS.region ?_
        refine JO.reg ttOk 3 [(W (x9 + 1))] [] [(5, .v (.int .i64 (W (x9 + 1))))] _ rfl ⟨⟨trivial, rfl⟩, ⟨rfl, trivial⟩, rfl⟩ ?_
        refine JO.done rfl ?_
        exact JS.endL (n23, (List.set (List.set x7 (Int.toNat x9) (y17, (at' x7 x9).2)) (Int.toNat x9) ((at' (List.set x7 (Int.toNat x9) (y17, (at' x7 x9).2)) x9).1, y16)), (W (y16 + 1)), (W (x9 + 1))) h (Nat.lt_succ_self _) ⟨rfl, rfl, rfl, trivial⟩ trivial [] rfl [0] rfl
      · have h := condF h ht34
        refine JS.exit rfl ?_
        exact JS.endJ (x7, x8) h ⟨rfl, trivial⟩ trivial [] rfl [0] rfl
    · rintro ⟨x26, x27⟩ h
      subst hj36
      refine JS.know 0 rfl fun hs35 => ?_
      refine JS.seq ?_
      refine JS.region ?_
      refine JO.reg ttOk 2 [] [] [(4, .v (.int .i64 x27))] _ rfl ⟨⟨rfl, trivial⟩, rfl⟩ ?_
      refine JO.done rfl ?_
      cases h
      exact JS.retX ttOk () trivial rfl rfl [0] rfl

def M_l_markUndo (x0 : List (List Int × Int)) (x1 : Int) : Option (Int × List (List Int × Int)) :=
  (bindO (M_l_markLineS x0 x1) fun (y7, y8) =>
  some (y7, y8))

theorem ok_l_markUndo (x0 : List (List Int × Int)) (x1 : Int) (a3 : Option Addr) (c4 : Nat) (l5 : Nat) (hl6 : x0.length = l5) (r : Int × List (List Int × Int)) (h : M_l_markUndo x0 x1 = some r) :
    FX Try.prog 60 [.agg #[.slice a3 l5 c4], .int .i64 x1] [] [⟨(.pair (.sl (.int .i64)) (.int .i64)), ⟨a3, l5, c4⟩, x0⟩] (fun _ : Unit => True) (fun _ => .int .i64 r.1) (fun _ => [⟨(.pair (.sl (.int .i64)) (.int .i64)), ⟨a3, l5, c4⟩, r.2⟩]) :=
  by
    subst hl6
    refine FX.of (T := TTx) Try.call60 Try.func60 rfl rfl fun w0 L0 => ?_
    unfold M_l_markUndo at h
    refine JS.seq ?_
    refine JS.region ?_
    refine JO.regB ttOk 2 [] [2] [(2, .bp 2 0)] (.new 2 45 [.slice a3 x0.length c4] .nil) rfl ⟨⟨rfl, trivial⟩, ⟨rfl, rfl, rfl, rfl, trivial⟩⟩ ?_
    refine JO.done rfl ?_
    refine JS.seq ?_
    refine JS.region ?_
    refine JO.reg ttOk 3 [] [] [(6, .v (.slice a3 x0.length c4)), (7, .v (.int .i64 x1))] _ rfl ⟨⟨rfl, rfl, trivial⟩, rfl⟩ ?_
    obtain ⟨⟨y7, y8⟩, hy9, h⟩ := bindO_some h
    refine JO.callX rfl rfl rfl rfl (ok_l_markLineS x0 x1 a3 c4 x0.length rfl _ hy9) rfl [0] rfl [] rfl rfl ?_
    intro _ _
    refine JO.know 0 rfl fun hs10 => ?_
    refine JO.reg ttOk 1 [] [] [(1, .v (.int .i64 y7))] _ rfl ⟨⟨rfl, trivial⟩, rfl⟩ ?_
    refine JO.done rfl ?_
    refine JS.seq ?_
    refine JS.region ?_
    refine JO.reg ttOk 2 [] [] [(4, .v (.int .i64 y7))] _ rfl ⟨⟨rfl, trivial⟩, rfl⟩ ?_
    refine JO.done rfl ?_
    cases h
    exact JS.retX ttOk () trivial rfl rfl [0] rfl

def M_l_markEd (x0 : Bool × Int × (List Int × Int) × Int × Int × Int × Int × Int × Int × Int × List (List Int) × (List (List Int × Int)) × Int × (List Int × Int) × List Int × Int × List Int × Int) (x1 : Int) : Option (Int × List Int × List (List Int) × (List (List Int × Int)) × List Int × List Int × List Int) :=
  (bindO (M_l_markLine x0.2.2.1 x1) fun (y27, y28) =>
  (bindO (M_l_markRing x0.2.2.2.2.2.2.2.2.2.2.1 y27) fun (y31, y32) =>
  (bindO (M_l_markUndo x0.2.2.2.2.2.2.2.2.2.2.2.1 y31) fun (y35, y36) =>
  (bindO (M_l_markLine x0.2.2.2.2.2.2.2.2.2.2.2.2.2.1 y35) fun (y39, y40) =>
  (bindO (M_l_markIntS x0.2.2.2.2.2.2.2.2.2.2.2.2.2.2.1 y39) fun (y43, y44) =>
  (bindO (M_l_markLine x0.2.2.2.2.2.2.2.2.2.2.2.2.2.2.2.2 y43) fun (y47, y48) =>
  some (y47, y28, y32, y36, y40, y44, y48)))))))

theorem ok_l_markEd (x0 : Bool × Int × (List Int × Int) × Int × Int × Int × Int × Int × Int × Int × List (List Int) × (List (List Int × Int)) × Int × (List Int × Int) × List Int × Int × List Int × Int) (x1 : Int) (a3 : Option Addr) (c4 : Nat) (l5 : Nat) (hl6 : x0.2.2.1.1.length = l5) (a7 : Option Addr) (c8 : Nat) (l9 : Nat) (hl10 : x0.2.2.2.2.2.2.2.2.2.2.1.length = l9) (a11 : Option Addr) (c12 : Nat) (l13 : Nat) (hl14 : x0.2.2.2.2.2.2.2.2.2.2.2.1.length = l13) (a15 : Option Addr) (c16 : Nat) (l17 : Nat) (hl18 : x0.2.2.2.2.2.2.2.2.2.2.2.2.2.1.1.length = l17) (a19 : Option Addr) (c20 : Nat) (l21 : Nat) (hl22 : x0.2.2.2.2.2.2.2.2.2.2.2.2.2.2.1.length = l21) (a23 : Option Addr) (c24 : Nat) (l25 : Nat) (hl26 : x0.2.2.2.2.2.2.2.2.2.2.2.2.2.2.2.2.1.length = l25) (r : Int × List Int × List (List Int) × (List (List Int × Int)) × List Int × List Int × List Int) (h : M_l_markEd x0 x1 = some r) :
    FX Try.prog 23 [.agg #[.bool x0.1, .int .i64 x0.2.1, .slice a3 l5 c4, .int .i64 x0.2.2.1.2, .int .i64 x0.2.2.2.1, .int .i64 x0.2.2.2.2.1, .int .i64 x0.2.2.2.2.2.1, .int .i64 x0.2.2.2.2.2.2.1, .int .i64 x0.2.2.2.2.2.2.2.1, .int .i64 x0.2.2.2.2.2.2.2.2.1, .int .i64 x0.2.2.2.2.2.2.2.2.2.1, .slice a7 l9 c8, .slice a11 l13 c12, .int .i64 x0.2.2.2.2.2.2.2.2.2.2.2.2.1, .slice a15 l17 c16, .int .i64 x0.2.2.2.2.2.2.2.2.2.2.2.2.2.1.2, .slice a19 l21 c20, .int .i64 x0.2.2.2.2.2.2.2.2.2.2.2.2.2.2.2.1, .slice a23 l25 c24, .int .i64 x0.2.2.2.2.2.2.2.2.2.2.2.2.2.2.2.2.2], .int .i64 x1] [] [⟨(.int .i64), ⟨a3, l5, c4⟩, x0.2.2.1.1⟩, ⟨(.sl (.int .i64)), ⟨a7, l9, c8⟩, x0.2.2.2.2.2.2.2.2.2.2.1⟩, ⟨(.pair (.sl (.int .i64)) (.int .i64)), ⟨a11, l13, c12⟩, x0.2.2.2.2.2.2.2.2.2.2.2.1⟩, ⟨(.int .i64), ⟨a15, l17, c16⟩, x0.2.2.2.2.2.2.2.2.2.2.2.2.2.1.1⟩, ⟨(.int .i64), ⟨a19, l21, c20⟩, x0.2.2.2.2.2.2.2.2.2.2.2.2.2.2.1⟩, ⟨(.int .i64), ⟨a23, l25, c24⟩, x0.2.2.2.2.2.2.2.2.2.2.2.2.2.2.2.2.1⟩] (fun _ : Unit => True) (fun _ => .int .i64 r.1) (fun _ => [⟨(.int .i64), ⟨a3, l5, c4⟩, r.2.1⟩, ⟨(.sl (.int .i64)), ⟨a7, l9, c8⟩, r.2.2.1⟩, ⟨(.pair (.sl (.int .i64)) (.int .i64)), ⟨a11, l13, c12⟩, r.2.2.2.1⟩, ⟨(.int .i64), ⟨a15, l17, c16⟩, r.2.2.2.2.1⟩, ⟨(.int .i64), ⟨a19, l21, c20⟩, r.2.2.2.2.2.1⟩, ⟨(.int .i64), ⟨a23, l25, c24⟩, r.2.2.2.2.2.2⟩]) :=
  by
    subst hl6
    subst hl10
    subst hl14
    subst hl18
    subst hl22
    subst hl26
    refine FX.of (T := TTx) Try.call23 Try.func23 rfl rfl fun w0 L0 => ?_
    unfold M_l_markEd at h
    refine JS.seq ?_
    refine JS.region ?_
    refine JO.regB ttOk 2 [] [7] [(2, .bp 7 0)] (.new 7 47 [.bool x0.1, .int .i64 x0.2.1, .slice a3 x0.2.2.1.1.length c4, .int .i64 x0.2.2.1.2, .int .i64 x0.2.2.2.1, .int .i64 x0.2.2.2.2.1, .int .i64 x0.2.2.2.2.2.1, .int .i64 x0.2.2.2.2.2.2.1, .int .i64 x0.2.2.2.2.2.2.2.1, .int .i64 x0.2.2.2.2.2.2.2.2.1, .int .i64 x0.2.2.2.2.2.2.2.2.2.1, .slice a7 x0.2.2.2.2.2.2.2.2.2.2.1.length c8, .slice a11 x0.2.2.2.2.2.2.2.2.2.2.2.1.length c12, .int .i64 x0.2.2.2.2.2.2.2.2.2.2.2.2.1, .slice a15 x0.2.2.2.2.2.2.2.2.2.2.2.2.2.1.1.length c16, .int .i64 x0.2.2.2.2.2.2.2.2.2.2.2.2.2.1.2, .slice a19 x0.2.2.2.2.2.2.2.2.2.2.2.2.2.2.1.length c20, .int .i64 x0.2.2.2.2.2.2.2.2.2.2.2.2.2.2.2.1, .slice a23 x0.2.2.2.2.2.2.2.2.2.2.2.2.2.2.2.2.1.length c24, .int .i64 x0.2.2.2.2.2.2.2.2.2.2.2.2.2.2.2.2.2] .nil) rfl ⟨⟨rfl, trivial⟩, ⟨rfl, rfl, rfl, rfl, trivial⟩⟩ ?_
    refine JO.done rfl ?_
    refine JS.seq ?_
    refine JS.region ?_
    refine JO.reg ttOk 3 [] [] [(6, .v (.agg #[.slice a3 x0.2.2.1.1.length c4, .int .i64 x0.2.2.1.2])), (7, .v (.int .i64 x1))] _ rfl ⟨⟨rfl, rfl, trivial⟩, rfl⟩ ?_
    obtain ⟨⟨y27, y28⟩, hy29, h⟩ := bindO_some h
    refine JO.callX rfl rfl rfl rfl (ok_l_markLine x0.2.2.1 x1 a3 c4 x0.2.2.1.1.length rfl _ hy29) rfl [0] rfl [] rfl rfl ?_
    intro _ _
    refine JO.know 0 rfl fun hs30 => ?_
    refine JO.reg ttOk 1 [] [] [(1, .v (.int .i64 y27))] _ rfl ⟨⟨rfl, trivial⟩, rfl⟩ ?_
    refine JO.done rfl ?_
    refine JS.seq ?_
    refine JS.region ?_
    refine JO.reg ttOk 3 [] [] [(10, .v (.agg #[.slice a7 x0.2.2.2.2.2.2.2.2.2.2.1.length c8])), (11, .v (.int .i64 y27))] _ rfl ⟨⟨rfl, rfl, trivial⟩, rfl⟩ ?_
    obtain ⟨⟨y31, y32⟩, hy33, h⟩ := bindO_some h
    refine JO.callX rfl rfl rfl rfl (ok_l_markRing x0.2.2.2.2.2.2.2.2.2.2.1 y27 a7 c8 x0.2.2.2.2.2.2.2.2.2.2.1.length rfl _ hy33) rfl [1] rfl [] rfl rfl ?_
    intro _ _
    refine JO.know 0 rfl fun hs34 => ?_
    refine JO.reg ttOk 1 [] [] [(1, .v (.int .i64 y31))] _ rfl ⟨⟨rfl, trivial⟩, rfl⟩ ?_
    refine JO.done rfl ?_
    refine JS.seq ?_
    refine JS.region ?_
    refine JO.reg ttOk 3 [] [] [(14, .v (.agg #[.slice a11 x0.2.2.2.2.2.2.2.2.2.2.2.1.length c12])), (15, .v (.int .i64 y31))] _ rfl ⟨⟨rfl, rfl, trivial⟩, rfl⟩ ?_
    obtain ⟨⟨y35, y36⟩, hy37, h⟩ := bindO_some h
    refine JO.callX rfl rfl rfl rfl (ok_l_markUndo x0.2.2.2.2.2.2.2.2.2.2.2.1 y31 a11 c12 x0.2.2.2.2.2.2.2.2.2.2.2.1.length rfl _ hy37) rfl [2] rfl [] rfl rfl ?_
    intro _ _
    refine JO.know 0 rfl fun hs38 => ?_
    refine JO.reg ttOk 1 [] [] [(1, .v (.int .i64 y35))] _ rfl ⟨⟨rfl, trivial⟩, rfl⟩ ?_
    refine JO.done rfl ?_
    refine JS.seq ?_
    refine JS.region ?_
    refine JO.reg ttOk 3 [] [] [(18, .v (.agg #[.slice a15 x0.2.2.2.2.2.2.2.2.2.2.2.2.2.1.1.length c16, .int .i64 x0.2.2.2.2.2.2.2.2.2.2.2.2.2.1.2])), (19, .v (.int .i64 y35))] _ rfl ⟨⟨rfl, rfl, trivial⟩, rfl⟩ ?_
    obtain ⟨⟨y39, y40⟩, hy41, h⟩ := bindO_some h
    refine JO.callX rfl rfl rfl rfl (ok_l_markLine x0.2.2.2.2.2.2.2.2.2.2.2.2.2.1 y35 a15 c16 x0.2.2.2.2.2.2.2.2.2.2.2.2.2.1.1.length rfl _ hy41) rfl [3] rfl [] rfl rfl ?_
    intro _ _
    refine JO.know 0 rfl fun hs42 => ?_
    refine JO.reg ttOk 1 [] [] [(1, .v (.int .i64 y39))] _ rfl ⟨⟨rfl, trivial⟩, rfl⟩ ?_
    refine JO.done rfl ?_
    refine JS.seq ?_
    refine JS.region ?_
    refine JO.reg ttOk 3 [] [] [(22, .v (.slice a19 x0.2.2.2.2.2.2.2.2.2.2.2.2.2.2.1.length c20)), (23, .v (.int .i64 y39))] _ rfl ⟨⟨rfl, rfl, trivial⟩, rfl⟩ ?_
    obtain ⟨⟨y43, y44⟩, hy45, h⟩ := bindO_some h
    refine JO.callX rfl rfl rfl rfl (ok_l_markIntS x0.2.2.2.2.2.2.2.2.2.2.2.2.2.2.1 y39 a19 c20 x0.2.2.2.2.2.2.2.2.2.2.2.2.2.2.1.length rfl _ hy45) rfl [4] rfl [] rfl rfl ?_
    intro _ _
    refine JO.know 0 rfl fun hs46 => ?_
    refine JO.reg ttOk 1 [] [] [(1, .v (.int .i64 y43))] _ rfl ⟨⟨rfl, trivial⟩, rfl⟩ ?_
    refine JO.done rfl ?_
    refine JS.seq ?_
    refine JS.region ?_
    refine JO.reg ttOk 3 [] [] [(26, .v (.agg #[.slice a23 x0.2.2.2.2.2.2.2.2.2.2.2.2.2.2.2.2.1.length c24, .int .i64 x0.2.2.2.2.2.2.2.2.2.2.2.2.2.2.2.2.2])), (27, .v (.int .i64 y43))] _ rfl ⟨⟨rfl, rfl, trivial⟩, rfl⟩ ?_
    obtain ⟨⟨y47, y48⟩, hy49, h⟩ := bindO_some h
    refine JO.callX rfl rfl rfl rfl (ok_l_markLine x0.2.2.2.2.2.2.2.2.2.2.2.2.2.2.2.2 y43 a23 c24 x0.2.2.2.2.2.2.2.2.2.2.2.2.2.2.2.2.1.length rfl _ hy49) rfl [5] rfl [] rfl rfl ?_
    intro _ _
    refine JO.know 0 rfl fun hs50 => ?_
    refine JO.reg ttOk 1 [] [] [(1, .v (.int .i64 y47))] _ rfl ⟨⟨rfl, trivial⟩, rfl⟩ ?_
    refine JO.done rfl ?_
    refine JS.seq ?_
    refine JS.region ?_
    refine JO.reg ttOk 2 [] [] [(4, .v (.int .i64 y47))] _ rfl ⟨⟨rfl, trivial⟩, rfl⟩ ?_
    refine JO.done rfl ?_
    cases h
    exact JS.retX ttOk () trivial rfl rfl [5, 4, 3, 2, 1, 0] rfl

def M_l_heldIntS_L1 (x0 : List Int) (j19 : Int → Option Int) (k13 : (Int × Int) → Option Int) : (Int × Int) → Option Int := fun (x7, x8) =>
  (bif (decide (x8 < (x0.length : Int))) then
  (guardO (0 ≤ x8 ∧ x8 < (x0.length : Int)) <|
  (bif (!(decide ((at' x0 x8) = x7))) then
  some (-1)
  else
  k13 ((W (x7 + 1)), (W (x8 + 1)))))
  else
  j19 x7)

def M_l_heldIntS (x0 : List Int) (x1 : Int) : Option Int :=
  (joinO (fun (x18 : Int) =>
  some x18) fun j19 =>
  (fixF (M_l_heldIntS_L1 x0 j19) FUEL (x1, 0)))

theorem ok_l_heldIntS (x0 : List Int) (x1 : Int) (a3 : Option Addr) (c4 : Nat) (l5 : Nat) (hl6 : x0.length = l5) (r : Int) (h : M_l_heldIntS x0 x1 = some r) :
    FC Try.prog 65 [.slice a3 l5 c4, .int .i64 x1] [⟨(.int .i64), ⟨a3, l5, c4⟩, x0⟩] (fun _ : Unit => True) (fun _ => .int .i64 r) (fun _ => []) :=
  by
    subst hl6
    refine FC.of (T := TTx) Try.call65 Try.func65 rfl rfl fun w0 => ?_
    unfold M_l_heldIntS at h
    refine JS.seq ?_
    refine JS.region ?_
    refine JO.reg ttOk 1 [] [] [] _ rfl ⟨trivial, rfl⟩ ?_
    refine JO.done rfl ?_
    refine JS.seq ?_
    refine JS.seq ?_
    refine JS.region ?_
    refine JO.reg ttOk 1 [] [] [(5, .v (.int .i64 0))] _ rfl ⟨⟨rfl, trivial⟩, rfl⟩ ?_
    refine JO.done rfl ?_
    obtain ⟨j19, hj27, h⟩ := joinO_some h
    refine JS.blockJ (ι := Int) ⟨fun z => j19 z = some r, fun z => [(1, .v (.int .i64 z))], fun z => .nil, fun z => [], fun z => [], fun z => 0⟩ ?_ ?_
    · refine JS.loop (ι := Nat × Int × Int) ⟨fun z => fixF (M_l_heldIntS_L1 x0 j19) z.1 (z.2.1, z.2.2) = some r, fun z => [(0, .v (.slice a3 x0.length c4)), (1, .v (.int .i64 z.2.1)), (5, .v (.int .i64 z.2.2))], fun z => .nil, fun z => [⟨(.int .i64), ⟨a3, x0.length, c4⟩, x0⟩], fun z => [], fun z => z.1⟩ (FUEL, x1, 0) h ⟨rfl, rfl, rfl, trivial⟩ trivial [0] rfl [] rfl ?_
      rintro ⟨n14, x7, x8⟩ h
      obtain ⟨n14, rfl, h⟩ := fixF_some h
      rw [M_l_heldIntS_L1] at h
      refine JS.seq ?_
      refine JS.seq ?_
      refine JS.region ?_
      refine JO.reg ttOk 4 [] [] [(9, .v (.bool (decide (x8 < (x0.length : Int)))))] _ rfl ⟨⟨rfl, trivial⟩, rfl⟩ ?_
      refine JO.done rfl ?_
      refine JS.cond rfl (fun ht26 => ?_) (fun ht26 => ?_)
      · have h := condT h ht26
        refine JS.skip ?_
        refine JS.seq ?_
        refine JS.block ?_
        refine JS.seq ?_
        refine JS.seq ?_
        refine JS.region ?_
        refine JO.know 0 rfl fun hs24 => ?_
        obtain ⟨g10, h⟩ := guardO_some h
        refine JO.reg ttOk 3 [] [] [(14, .ep ⟨a3, x0.length, c4⟩ (Int.toNat x8 * 1))] _ rfl ⟨hs24.ix g10, ⟨rfl, trivial⟩, rfl⟩ ?_
        refine JO.load ttOk rfl rfl rfl rfl rfl rfl rfl 0 rfl rfl (Int.toNat x8) 0 (at' x0 x8) ⟨at_some g10, rfl⟩ rfl rfl ?_
        refine JO.reg ttOk 2 [] [] [(17, .v (.bool (!(decide ((at' x0 x8) = x7)))))] _ rfl ⟨⟨rfl, trivial⟩, rfl⟩ ?_
        refine JO.done rfl ?_
        refine JS.cond rfl (fun ht25 => ?_) (fun ht25 => ?_)
        · have h := condT h ht25
          refine JS.seq ?_
          refine JS.region ?_
          refine JO.reg ttOk 1 [] [] [(4, .v (.int .i64 (-1)))] _ rfl ⟨⟨rfl, trivial⟩, rfl⟩ ?_
          refine JO.done rfl ?_
          cases h
          exact JS.ret ttOk () trivial rfl rfl [] rfl
        · have h := condF h ht25
          refine JS.skip ?_
          refine JS.region ?_
          refine JO.reg ttOk 3 [(W (x7 + 1))] [] [(1, .v (.int .i64 (W (x7 + 1))))] _ rfl ⟨⟨trivial, rfl⟩, ⟨rfl, trivial⟩, rfl⟩ ?_
          refine JO.done rfl ?_
          refine JS.endB ?_
          refine JS.region ?_
          refine JO.reg ttOk 3 [(W (x8 + 1))] [] [(5, .v (.int .i64 (W (x8 + 1))))] _ rfl ⟨⟨trivial, rfl⟩, ⟨rfl, trivial⟩, rfl⟩ ?_
          refine JO.done rfl ?_
          exact JS.endL (n14, (W (x7 + 1)), (W (x8 + 1))) h (Nat.lt_succ_self _) ⟨rfl, rfl, rfl, trivial⟩ trivial [0] rfl [] rfl
      · have h := condF h ht26
        refine JS.exit rfl ?_
        exact JS.endJ x7 h ⟨rfl, trivial⟩ trivial [] rfl [] rfl
    · rintro x18 h
      subst hj27
      refine JS.seq ?_
      refine JS.region ?_
      refine JO.reg ttOk 2 [] [] [(4, .v (.int .i64 x18))] _ rfl ⟨⟨rfl, trivial⟩, rfl⟩ ?_
      refine JO.done rfl ?_
      cases h
      exact JS.ret ttOk () trivial rfl rfl [] rfl

def M_l_heldLine (x0 : List Int × Int) (x1 : Int) : Option Int :=
  (bindO (M_l_heldIntS x0.1 x1) fun (y7 : Int) =>
  (bif (decide (y7 < 0)) then
  some (-1)
  else
  some y7))

theorem ok_l_heldLine (x0 : List Int × Int) (x1 : Int) (a3 : Option Addr) (c4 : Nat) (l5 : Nat) (hl6 : x0.1.length = l5) (r : Int) (h : M_l_heldLine x0 x1 = some r) :
    FC Try.prog 62 [.agg #[.slice a3 l5 c4, .int .i64 x0.2], .int .i64 x1] [⟨(.int .i64), ⟨a3, l5, c4⟩, x0.1⟩] (fun _ : Unit => True) (fun _ => .int .i64 r) (fun _ => []) :=
  by
    subst hl6
    refine FC.of (T := TTx) Try.call62 Try.func62 rfl rfl fun w0 => ?_
    unfold M_l_heldLine at h
    refine JS.seq ?_
    refine JS.region ?_
    refine JO.regB ttOk 2 [] [2] [(2, .bp 2 0)] (.new 2 25 [.slice a3 x0.1.length c4, .int .i64 x0.2] .nil) rfl ⟨⟨rfl, trivial⟩, ⟨rfl, rfl, rfl, rfl, trivial⟩⟩ ?_
    refine JO.done rfl ?_
    refine JS.seq ?_
    refine JS.region ?_
    refine JO.reg ttOk 3 [] [] [(6, .v (.slice a3 x0.1.length c4)), (7, .v (.int .i64 x1))] _ rfl ⟨⟨rfl, rfl, trivial⟩, rfl⟩ ?_
    obtain ⟨y7, hy8, h⟩ := bindO_some h
    refine JO.call rfl rfl rfl rfl (ok_l_heldIntS x0.1 x1 a3 c4 x0.1.length rfl _ hy8) rfl [0] rfl rfl ?_
    intro _ _
    refine JO.reg ttOk 1 [] [] [(1, .v (.int .i64 y7))] _ rfl ⟨⟨rfl, trivial⟩, rfl⟩ ?_
    refine JO.done rfl ?_
    refine JS.seq ?_
    refine JS.seq ?_
    refine JS.region ?_
    refine JO.reg ttOk 2 [] [] [(10, .v (.bool (decide (y7 < 0))))] _ rfl ⟨⟨rfl, trivial⟩, rfl⟩ ?_
    refine JO.done rfl ?_
    refine JS.cond rfl (fun ht10 => ?_) (fun ht10 => ?_)
    · have h := condT h ht10
      refine JS.seq ?_
      refine JS.region ?_
      refine JO.reg ttOk 1 [] [] [(4, .v (.int .i64 (-1)))] _ rfl ⟨⟨rfl, trivial⟩, rfl⟩ ?_
      refine JO.done rfl ?_
      cases h
      exact JS.ret ttOk () trivial rfl rfl [] rfl
    · have h := condF h ht10
      refine JS.skip ?_
      refine JS.seq ?_
      refine JS.region ?_
      refine JO.reg ttOk 2 [] [] [(4, .v (.int .i64 y7))] _ rfl ⟨⟨rfl, trivial⟩, rfl⟩ ?_
      refine JO.done rfl ?_
      cases h
      exact JS.ret ttOk () trivial rfl rfl [] rfl

def M_l_heldPieceS_L1 (x0 : List (List Int)) (j26 : Int → Option Int) (k20 : (Int × Int) → Option Int) : (Int × Int) → Option Int := fun (x7, x8) =>
  (bif (decide (x8 < (x0.length : Int))) then
  (guardO (0 ≤ x8 ∧ x8 < (x0.length : Int)) <|
  (bindO (M_l_heldIntS (at' x0 x8) x7) fun (y16 : Int) =>
  (bif (decide (y16 < 0)) then
  some (-1)
  else
  k20 (y16, (W (x8 + 1))))))
  else
  j26 x7)

def M_l_heldPieceS (x0 : List (List Int)) (x1 : Int) : Option Int :=
  (joinO (fun (x25 : Int) =>
  some x25) fun j26 =>
  (fixF (M_l_heldPieceS_L1 x0 j26) FUEL (x1, 0)))

theorem ok_l_heldPieceS (x0 : List (List Int)) (x1 : Int) (a3 : Option Addr) (c4 : Nat) (l5 : Nat) (hl6 : x0.length = l5) (r : Int) (h : M_l_heldPieceS x0 x1 = some r) :
    FC Try.prog 107 [.slice a3 l5 c4, .int .i64 x1] [⟨(.sl (.int .i64)), ⟨a3, l5, c4⟩, x0⟩] (fun _ : Unit => True) (fun _ => .int .i64 r) (fun _ => []) :=
  by
    subst hl6
    refine FC.of (T := TTx) Try.call107 Try.func107 rfl rfl fun w0 => ?_
    unfold M_l_heldPieceS at h
    refine JS.seq ?_
    refine JS.region ?_
    refine JO.reg ttOk 1 [] [] [] _ rfl ⟨trivial, rfl⟩ ?_
    refine JO.done rfl ?_
    refine JS.seq ?_
    refine JS.seq ?_
    refine JS.region ?_
    refine JO.reg ttOk 1 [] [] [(5, .v (.int .i64 0))] _ rfl ⟨⟨rfl, trivial⟩, rfl⟩ ?_
    refine JO.done rfl ?_
    obtain ⟨j26, hj34, h⟩ := joinO_some h
    refine JS.blockJ (ι := Int) ⟨fun z => j26 z = some r, fun z => [(1, .v (.int .i64 z))], fun z => .nil, fun z => [], fun z => [], fun z => 0⟩ ?_ ?_
    · refine JS.loop (ι := Nat × Int × Int) ⟨fun z => fixF (M_l_heldPieceS_L1 x0 j26) z.1 (z.2.1, z.2.2) = some r, fun z => [(0, .v (.slice a3 x0.length c4)), (1, .v (.int .i64 z.2.1)), (5, .v (.int .i64 z.2.2))], fun z => .nil, fun z => [⟨(.sl (.int .i64)), ⟨a3, x0.length, c4⟩, x0⟩], fun z => [], fun z => z.1⟩ (FUEL, x1, 0) h ⟨rfl, rfl, rfl, trivial⟩ trivial [0] rfl [] rfl ?_
      rintro ⟨n21, x7, x8⟩ h
      obtain ⟨n21, rfl, h⟩ := fixF_some h
      rw [M_l_heldPieceS_L1] at h
      refine JS.seq ?_
      refine JS.seq ?_
      refine JS.region ?_
      refine JO.reg ttOk 4 [] [] [(9, .v (.bool (decide (x8 < (x0.length : Int)))))] _ rfl ⟨⟨rfl, trivial⟩, rfl⟩ ?_
      refine JO.done rfl ?_
      refine JS.cond rfl (fun ht33 => ?_) (fun ht33 => ?_)
      · have h := condT h ht33
        refine JS.skip ?_
        refine JS.seq ?_
        refine JS.block ?_
        refine JS.seq ?_
        refine JS.region ?_
        refine JO.know 0 rfl fun hs31 => ?_
        obtain ⟨g10, h⟩ := guardO_some h
        refine JO.reg ttOk 4 [] [] [(15, .ep ⟨a3, x0.length, c4⟩ (Int.toNat x8 * 1))] _ rfl ⟨hs31.ix g10, hs31.fa g10, ⟨rfl, trivial⟩, rfl⟩ ?_
        refine JO.openR 0 rfl (Int.toNat x8) (at' x0 x8) rfl ?_
        intro a11 c12 ys13 hl14 hy15
        refine JO.loadV ttOk rfl rfl rfl rfl rfl rfl 0 rfl rfl (Int.toNat x8) 0 (Sl.v ⟨a11, (at' x0 x8).length, c12⟩) ⟨hy15 (ltNat g10), rfl⟩ rfl rfl rfl ?_
        refine JO.reg ttOk 1 [] [] [(17, .v (.int .i64 x7))] _ rfl ⟨⟨rfl, trivial⟩, rfl⟩ ?_
        obtain ⟨y16, hy17, h⟩ := bindO_some h
        refine JO.call rfl rfl rfl rfl (ok_l_heldIntS (at' x0 x8) x7 a11 c12 ((at' x0 x8).length) rfl _ hy17) rfl [1] rfl rfl ?_
        intro _ _
        refine JO.reg ttOk 1 [] [] [(1, .v (.int .i64 y16))] _ rfl ⟨⟨rfl, trivial⟩, rfl⟩ ?_
        refine JO.done rfl ?_
        refine JS.seq ?_
        refine JS.region ?_
        refine JO.reg ttOk 2 [] [] [(20, .v (.bool (decide (y16 < 0))))] _ rfl ⟨⟨rfl, trivial⟩, rfl⟩ ?_
        refine JO.done rfl ?_
        refine JS.cond rfl (fun ht32 => ?_) (fun ht32 => ?_)
        · have h := condT h ht32
          refine JS.seq ?_
          refine JS.region ?_
          refine JO.reg ttOk 1 [] [] [(4, .v (.int .i64 (-1)))] _ rfl ⟨⟨rfl, trivial⟩, rfl⟩ ?_
          refine JO.done rfl ?_
          cases h
          exact JS.ret ttOk () trivial rfl rfl [] rfl
        · have h := condF h ht32
          refine JS.skip ?_
          refine JS.endB ?_
          refine JS.region ?_
          refine JO.reg ttOk 3 [(W (x8 + 1))] [] [(5, .v (.int .i64 (W (x8 + 1))))] _ rfl ⟨⟨trivial, rfl⟩, ⟨rfl, trivial⟩, rfl⟩ ?_
          refine JO.done rfl ?_
          exact JS.endL (n21, y16, (W (x8 + 1))) h (Nat.lt_succ_self _) ⟨rfl, rfl, rfl, trivial⟩ trivial [2] rfl [] rfl
      · have h := condF h ht33
        refine JS.exit rfl ?_
        exact JS.endJ x7 h ⟨rfl, trivial⟩ trivial [] rfl [] rfl
    · rintro x25 h
      subst hj34
      refine JS.seq ?_
      refine JS.region ?_
      refine JO.reg ttOk 2 [] [] [(4, .v (.int .i64 x25))] _ rfl ⟨⟨rfl, trivial⟩, rfl⟩ ?_
      refine JO.done rfl ?_
      cases h
      exact JS.ret ttOk () trivial rfl rfl [] rfl

def M_l_heldRing (x0 : List (List Int)) (x1 : Int) : Option Int :=
  (bindO (M_l_heldPieceS x0 x1) fun (y7 : Int) =>
  (bif (decide (y7 < 0)) then
  some (-1)
  else
  some y7))

theorem ok_l_heldRing (x0 : List (List Int)) (x1 : Int) (a3 : Option Addr) (c4 : Nat) (l5 : Nat) (hl6 : x0.length = l5) (r : Int) (h : M_l_heldRing x0 x1 = some r) :
    FC Try.prog 63 [.agg #[.slice a3 l5 c4], .int .i64 x1] [⟨(.sl (.int .i64)), ⟨a3, l5, c4⟩, x0⟩] (fun _ : Unit => True) (fun _ => .int .i64 r) (fun _ => []) :=
  by
    subst hl6
    refine FC.of (T := TTx) Try.call63 Try.func63 rfl rfl fun w0 => ?_
    unfold M_l_heldRing at h
    refine JS.seq ?_
    refine JS.region ?_
    refine JO.regB ttOk 2 [] [2] [(2, .bp 2 0)] (.new 2 42 [.slice a3 x0.length c4] .nil) rfl ⟨⟨rfl, trivial⟩, ⟨rfl, rfl, rfl, rfl, trivial⟩⟩ ?_
    refine JO.done rfl ?_
    refine JS.seq ?_
    refine JS.region ?_
    refine JO.reg ttOk 3 [] [] [(6, .v (.slice a3 x0.length c4)), (7, .v (.int .i64 x1))] _ rfl ⟨⟨rfl, rfl, trivial⟩, rfl⟩ ?_
    obtain ⟨y7, hy8, h⟩ := bindO_some h
    refine JO.call rfl rfl rfl rfl (ok_l_heldPieceS x0 x1 a3 c4 x0.length rfl _ hy8) rfl [0] rfl rfl ?_
    intro _ _
    refine JO.reg ttOk 1 [] [] [(1, .v (.int .i64 y7))] _ rfl ⟨⟨rfl, trivial⟩, rfl⟩ ?_
    refine JO.done rfl ?_
    refine JS.seq ?_
    refine JS.seq ?_
    refine JS.region ?_
    refine JO.reg ttOk 2 [] [] [(10, .v (.bool (decide (y7 < 0))))] _ rfl ⟨⟨rfl, trivial⟩, rfl⟩ ?_
    refine JO.done rfl ?_
    refine JS.cond rfl (fun ht10 => ?_) (fun ht10 => ?_)
    · have h := condT h ht10
      refine JS.seq ?_
      refine JS.region ?_
      refine JO.reg ttOk 1 [] [] [(4, .v (.int .i64 (-1)))] _ rfl ⟨⟨rfl, trivial⟩, rfl⟩ ?_
      refine JO.done rfl ?_
      cases h
      exact JS.ret ttOk () trivial rfl rfl [] rfl
    · have h := condF h ht10
      refine JS.skip ?_
      refine JS.seq ?_
      refine JS.region ?_
      refine JO.reg ttOk 2 [] [] [(4, .v (.int .i64 y7))] _ rfl ⟨⟨rfl, trivial⟩, rfl⟩ ?_
      refine JO.done rfl ?_
      cases h
      exact JS.ret ttOk () trivial rfl rfl [] rfl

def M_l_heldLineS_L1 (x0 : List (List Int × Int)) (j29 : Int → Option Int) (k22 : (Int × Int) → Option Int) : (Int × Int) → Option Int := fun (x7, x8) =>
  (bif (decide (x8 < (x0.length : Int))) then
  (guardO (0 ≤ x8 ∧ x8 < (x0.length : Int)) <|
  (bindO (M_l_heldIntS ((at' x0 x8).1) x7) fun (y16 : Int) =>
  (bif (decide (y16 < 0)) then
  some (-1)
  else
  (guardO (0 ≤ x8 ∧ x8 < (x0.length : Int)) <|
  (bif (!(decide ((at' x0 x8).2 = y16))) then
  some (-1)
  else
  k22 ((W (y16 + 1)), (W (x8 + 1))))))))
  else
  j29 x7)

def M_l_heldLineS (x0 : List (List Int × Int)) (x1 : Int) : Option Int :=
  (joinO (fun (x28 : Int) =>
  some x28) fun j29 =>
  (fixF (M_l_heldLineS_L1 x0 j29) FUEL (x1, 0)))

theorem ok_l_heldLineS (x0 : List (List Int × Int)) (x1 : Int) (a3 : Option Addr) (c4 : Nat) (l5 : Nat) (hl6 : x0.length = l5) (r : Int) (h : M_l_heldLineS x0 x1 = some r) :
    FC Try.prog 108 [.slice a3 l5 c4, .int .i64 x1] [⟨(.pair (.sl (.int .i64)) (.int .i64)), ⟨a3, l5, c4⟩, x0⟩] (fun _ : Unit => True) (fun _ => .int .i64 r) (fun _ => []) :=
  by
    subst hl6
    refine FC.of (T := TTx) Try.call108 Try.func108 rfl rfl fun w0 => ?_
    unfold M_l_heldLineS at h
    refine JS.seq ?_
    refine JS.region ?_
    refine JO.reg ttOk 1 [] [] [] _ rfl ⟨trivial, rfl⟩ ?_
    refine JO.done rfl ?_
    refine JS.seq ?_
    refine JS.seq ?_
    refine JS.region ?_
    refine JO.reg ttOk 1 [] [] [(5, .v (.int .i64 0))] _ rfl ⟨⟨rfl, trivial⟩, rfl⟩ ?_
    refine JO.done rfl ?_
    obtain ⟨j29, hj39, h⟩ := joinO_some h
    refine JS.blockJ (ι := Int) ⟨fun z => j29 z = some r, fun z => [(1, .v (.int .i64 z))], fun z => .nil, fun z => [], fun z => [], fun z => 0⟩ ?_ ?_
    · refine JS.loop (ι := Nat × Int × Int) ⟨fun z => fixF (M_l_heldLineS_L1 x0 j29) z.1 (z.2.1, z.2.2) = some r, fun z => [(0, .v (.slice a3 x0.length c4)), (1, .v (.int .i64 z.2.1)), (5, .v (.int .i64 z.2.2))], fun z => .nil, fun z => [⟨(.pair (.sl (.int .i64)) (.int .i64)), ⟨a3, x0.length, c4⟩, x0⟩], fun z => [], fun z => z.1⟩ (FUEL, x1, 0) h ⟨rfl, rfl, rfl, trivial⟩ trivial [0] rfl [] rfl ?_
      rintro ⟨n23, x7, x8⟩ h
      obtain ⟨n23, rfl, h⟩ := fixF_some h
      rw [M_l_heldLineS_L1] at h
      refine JS.seq ?_
      refine JS.seq ?_
      refine JS.region ?_
      refine JO.reg ttOk 4 [] [] [(9, .v (.bool (decide (x8 < (x0.length : Int)))))] _ rfl ⟨⟨rfl, trivial⟩, rfl⟩ ?_
      refine JO.done rfl ?_
      refine JS.cond rfl (fun ht38 => ?_) (fun ht38 => ?_)
      · have h := condT h ht38
        refine JS.skip ?_
        refine JS.seq ?_
        refine JS.block ?_
        refine JS.seq ?_
        refine JS.region ?_
        refine JO.know 0 rfl fun hs35 => ?_
        obtain ⟨g10, h⟩ := guardO_some h
        refine JO.reg ttOk 4 [] [] [(15, .ep ⟨a3, x0.length, c4⟩ (Int.toNat x8 * 2))] _ rfl ⟨hs35.ix g10, hs35.fa g10, ⟨rfl, trivial⟩, rfl⟩ ?_
        refine JO.openR 0 rfl (Int.toNat x8) (at' x0 x8) rfl ?_
        intro a11 c12 ys13 hl14 hy15
        refine JO.loadV ttOk rfl rfl rfl rfl rfl rfl 0 rfl rfl (Int.toNat x8) 0 ((Sl.v ⟨a11, ((at' x0 x8).1).length, c12⟩), (at' x0 x8).2) ⟨hy15 (ltNat g10), rfl⟩ rfl rfl rfl ?_
        refine JO.reg ttOk 1 [] [] [(17, .v (.int .i64 x7))] _ rfl ⟨⟨rfl, trivial⟩, rfl⟩ ?_
        obtain ⟨y16, hy17, h⟩ := bindO_some h
        refine JO.call rfl rfl rfl rfl (ok_l_heldIntS ((at' x0 x8).1) x7 a11 c12 (((at' x0 x8).1).length) rfl _ hy17) rfl [1] rfl rfl ?_
        intro _ _
        refine JO.reg ttOk 1 [] [] [(1, .v (.int .i64 y16))] _ rfl ⟨⟨rfl, trivial⟩, rfl⟩ ?_
        refine JO.done rfl ?_
        refine JS.seq ?_
        refine JS.seq ?_
        refine JS.region ?_
        refine JO.reg ttOk 2 [] [] [(20, .v (.bool (decide (y16 < 0))))] _ rfl ⟨⟨rfl, trivial⟩, rfl⟩ ?_
        refine JO.done rfl ?_
        refine JS.cond rfl (fun ht37 => ?_) (fun ht37 => ?_)
        · have h := condT h ht37
          refine JS.seq ?_
          refine JS.region ?_
          refine JO.reg ttOk 1 [] [] [(4, .v (.int .i64 (-1)))] _ rfl ⟨⟨rfl, trivial⟩, rfl⟩ ?_
          refine JO.done rfl ?_
          cases h
          exact JS.ret ttOk () trivial rfl rfl [] rfl
        · have h := condF h ht37
          refine JS.skip ?_
          refine JS.seq ?_
          refine JS.seq ?_
          refine JS.region ?_
          obtain ⟨g18, h⟩ := guardO_some h
          refine JO.reg ttOk 4 [] [] [(24, .ep ⟨a3, x0.length, c4⟩ (Int.toNat x8 * 2 + 1))] _ rfl ⟨hs35.ix g18, hs35.fa g18, ⟨rfl, trivial⟩, rfl⟩ ?_
          refine JO.load ttOk rfl rfl rfl rfl rfl rfl rfl 2 rfl rfl (Int.toNat x8) 1 (at' x0 x8) ⟨at_some g18, rfl⟩ rfl rfl ?_
          refine JO.reg ttOk 2 [] [] [(27, .v (.bool (!(decide ((at' x0 x8).2 = y16)))))] _ rfl ⟨⟨rfl, trivial⟩, rfl⟩ ?_
          refine JO.done rfl ?_
          refine JS.cond rfl (fun ht36 => ?_) (fun ht36 => ?_)
          · have h := condT h ht36
            refine JS.seq ?_
            refine JS.region ?_
            refine JO.reg ttOk 1 [] [] [(4, .v (.int .i64 (-1)))] _ rfl ⟨⟨rfl, trivial⟩, rfl⟩ ?_
            refine JO.done rfl ?_
            cases h
            exact JS.ret ttOk () trivial rfl rfl [] rfl
          · have h := condF h ht36
            refine JS.skip ?_
            refine JS.region ?_
            refine JO.reg ttOk 3 [(W (y16 + 1))] [] [(1, .v (.int .i64 (W (y16 + 1))))] _ rfl ⟨⟨trivial, rfl⟩, ⟨rfl, trivial⟩, rfl⟩ ?_
            refine JO.done rfl ?_
            refine JS.endB ?_
            refine JS.region ?_
            refine JO.reg ttOk 3 [(W (x8 + 1))] [] [(5, .v (.int .i64 (W (x8 + 1))))] _ rfl ⟨⟨trivial, rfl⟩, ⟨rfl, trivial⟩, rfl⟩ ?_
            refine JO.done rfl ?_
            exact JS.endL (n23, (W (y16 + 1)), (W (x8 + 1))) h (Nat.lt_succ_self _) ⟨rfl, rfl, rfl, trivial⟩ trivial [2] rfl [] rfl
      · have h := condF h ht38
        refine JS.exit rfl ?_
        exact JS.endJ x7 h ⟨rfl, trivial⟩ trivial [] rfl [] rfl
    · rintro x28 h
      subst hj39
      refine JS.seq ?_
      refine JS.region ?_
      refine JO.reg ttOk 2 [] [] [(4, .v (.int .i64 x28))] _ rfl ⟨⟨rfl, trivial⟩, rfl⟩ ?_
      refine JO.done rfl ?_
      cases h
      exact JS.ret ttOk () trivial rfl rfl [] rfl

def M_l_heldUndo (x0 : List (List Int × Int)) (x1 : Int) : Option Int :=
  (bindO (M_l_heldLineS x0 x1) fun (y7 : Int) =>
  (bif (decide (y7 < 0)) then
  some (-1)
  else
  some y7))

theorem ok_l_heldUndo (x0 : List (List Int × Int)) (x1 : Int) (a3 : Option Addr) (c4 : Nat) (l5 : Nat) (hl6 : x0.length = l5) (r : Int) (h : M_l_heldUndo x0 x1 = some r) :
    FC Try.prog 64 [.agg #[.slice a3 l5 c4], .int .i64 x1] [⟨(.pair (.sl (.int .i64)) (.int .i64)), ⟨a3, l5, c4⟩, x0⟩] (fun _ : Unit => True) (fun _ => .int .i64 r) (fun _ => []) :=
  by
    subst hl6
    refine FC.of (T := TTx) Try.call64 Try.func64 rfl rfl fun w0 => ?_
    unfold M_l_heldUndo at h
    refine JS.seq ?_
    refine JS.region ?_
    refine JO.regB ttOk 2 [] [2] [(2, .bp 2 0)] (.new 2 45 [.slice a3 x0.length c4] .nil) rfl ⟨⟨rfl, trivial⟩, ⟨rfl, rfl, rfl, rfl, trivial⟩⟩ ?_
    refine JO.done rfl ?_
    refine JS.seq ?_
    refine JS.region ?_
    refine JO.reg ttOk 3 [] [] [(6, .v (.slice a3 x0.length c4)), (7, .v (.int .i64 x1))] _ rfl ⟨⟨rfl, rfl, trivial⟩, rfl⟩ ?_
    obtain ⟨y7, hy8, h⟩ := bindO_some h
    refine JO.call rfl rfl rfl rfl (ok_l_heldLineS x0 x1 a3 c4 x0.length rfl _ hy8) rfl [0] rfl rfl ?_
    intro _ _
    refine JO.reg ttOk 1 [] [] [(1, .v (.int .i64 y7))] _ rfl ⟨⟨rfl, trivial⟩, rfl⟩ ?_
    refine JO.done rfl ?_
    refine JS.seq ?_
    refine JS.seq ?_
    refine JS.region ?_
    refine JO.reg ttOk 2 [] [] [(10, .v (.bool (decide (y7 < 0))))] _ rfl ⟨⟨rfl, trivial⟩, rfl⟩ ?_
    refine JO.done rfl ?_
    refine JS.cond rfl (fun ht10 => ?_) (fun ht10 => ?_)
    · have h := condT h ht10
      refine JS.seq ?_
      refine JS.region ?_
      refine JO.reg ttOk 1 [] [] [(4, .v (.int .i64 (-1)))] _ rfl ⟨⟨rfl, trivial⟩, rfl⟩ ?_
      refine JO.done rfl ?_
      cases h
      exact JS.ret ttOk () trivial rfl rfl [] rfl
    · have h := condF h ht10
      refine JS.skip ?_
      refine JS.seq ?_
      refine JS.region ?_
      refine JO.reg ttOk 2 [] [] [(4, .v (.int .i64 y7))] _ rfl ⟨⟨rfl, trivial⟩, rfl⟩ ?_
      refine JO.done rfl ?_
      cases h
      exact JS.ret ttOk () trivial rfl rfl [] rfl

def M_l_heldEd (x0 : Bool × Int × (List Int × Int) × Int × Int × Int × Int × Int × Int × Int × List (List Int) × (List (List Int × Int)) × Int × (List Int × Int) × List Int × Int × List Int × Int) (x1 : Int) : Option Int :=
  (bindO (M_l_heldLine x0.2.2.1 x1) fun (y27 : Int) =>
  (bif (decide (y27 < 0)) then
  some (-1)
  else
  (bindO (M_l_heldRing x0.2.2.2.2.2.2.2.2.2.2.1 y27) fun (y29 : Int) =>
  (bif (decide (y29 < 0)) then
  some (-1)
  else
  (bindO (M_l_heldUndo x0.2.2.2.2.2.2.2.2.2.2.2.1 y29) fun (y31 : Int) =>
  (bif (decide (y31 < 0)) then
  some (-1)
  else
  (bindO (M_l_heldLine x0.2.2.2.2.2.2.2.2.2.2.2.2.2.1 y31) fun (y33 : Int) =>
  (bif (decide (y33 < 0)) then
  some (-1)
  else
  (bindO (M_l_heldIntS x0.2.2.2.2.2.2.2.2.2.2.2.2.2.2.1 y33) fun (y35 : Int) =>
  (bif (decide (y35 < 0)) then
  some (-1)
  else
  (bindO (M_l_heldLine x0.2.2.2.2.2.2.2.2.2.2.2.2.2.2.2.2 y35) fun (y37 : Int) =>
  (bif (decide (y37 < 0)) then
  some (-1)
  else
  some y37))))))))))))

theorem ok_l_heldEd (x0 : Bool × Int × (List Int × Int) × Int × Int × Int × Int × Int × Int × Int × List (List Int) × (List (List Int × Int)) × Int × (List Int × Int) × List Int × Int × List Int × Int) (x1 : Int) (a3 : Option Addr) (c4 : Nat) (l5 : Nat) (hl6 : x0.2.2.1.1.length = l5) (a7 : Option Addr) (c8 : Nat) (l9 : Nat) (hl10 : x0.2.2.2.2.2.2.2.2.2.2.1.length = l9) (a11 : Option Addr) (c12 : Nat) (l13 : Nat) (hl14 : x0.2.2.2.2.2.2.2.2.2.2.2.1.length = l13) (a15 : Option Addr) (c16 : Nat) (l17 : Nat) (hl18 : x0.2.2.2.2.2.2.2.2.2.2.2.2.2.1.1.length = l17) (a19 : Option Addr) (c20 : Nat) (l21 : Nat) (hl22 : x0.2.2.2.2.2.2.2.2.2.2.2.2.2.2.1.length = l21) (a23 : Option Addr) (c24 : Nat) (l25 : Nat) (hl26 : x0.2.2.2.2.2.2.2.2.2.2.2.2.2.2.2.2.1.length = l25) (r : Int) (h : M_l_heldEd x0 x1 = some r) :
    FC Try.prog 24 [.agg #[.bool x0.1, .int .i64 x0.2.1, .slice a3 l5 c4, .int .i64 x0.2.2.1.2, .int .i64 x0.2.2.2.1, .int .i64 x0.2.2.2.2.1, .int .i64 x0.2.2.2.2.2.1, .int .i64 x0.2.2.2.2.2.2.1, .int .i64 x0.2.2.2.2.2.2.2.1, .int .i64 x0.2.2.2.2.2.2.2.2.1, .int .i64 x0.2.2.2.2.2.2.2.2.2.1, .slice a7 l9 c8, .slice a11 l13 c12, .int .i64 x0.2.2.2.2.2.2.2.2.2.2.2.2.1, .slice a15 l17 c16, .int .i64 x0.2.2.2.2.2.2.2.2.2.2.2.2.2.1.2, .slice a19 l21 c20, .int .i64 x0.2.2.2.2.2.2.2.2.2.2.2.2.2.2.2.1, .slice a23 l25 c24, .int .i64 x0.2.2.2.2.2.2.2.2.2.2.2.2.2.2.2.2.2], .int .i64 x1] [⟨(.int .i64), ⟨a3, l5, c4⟩, x0.2.2.1.1⟩, ⟨(.sl (.int .i64)), ⟨a7, l9, c8⟩, x0.2.2.2.2.2.2.2.2.2.2.1⟩, ⟨(.pair (.sl (.int .i64)) (.int .i64)), ⟨a11, l13, c12⟩, x0.2.2.2.2.2.2.2.2.2.2.2.1⟩, ⟨(.int .i64), ⟨a15, l17, c16⟩, x0.2.2.2.2.2.2.2.2.2.2.2.2.2.1.1⟩, ⟨(.int .i64), ⟨a19, l21, c20⟩, x0.2.2.2.2.2.2.2.2.2.2.2.2.2.2.1⟩, ⟨(.int .i64), ⟨a23, l25, c24⟩, x0.2.2.2.2.2.2.2.2.2.2.2.2.2.2.2.2.1⟩] (fun _ : Unit => True) (fun _ => .int .i64 r) (fun _ => []) :=
  by
    subst hl6
    subst hl10
    subst hl14
    subst hl18
    subst hl22
    subst hl26
    refine FC.of (T := TTx) Try.call24 Try.func24 rfl rfl fun w0 => ?_
    unfold M_l_heldEd at h
    refine JS.seq ?_
    refine JS.region ?_
    refine JO.regB ttOk 2 [] [7] [(2, .bp 7 0)] (.new 7 47 [.bool x0.1, .int .i64 x0.2.1, .slice a3 x0.2.2.1.1.length c4, .int .i64 x0.2.2.1.2, .int .i64 x0.2.2.2.1, .int .i64 x0.2.2.2.2.1, .int .i64 x0.2.2.2.2.2.1, .int .i64 x0.2.2.2.2.2.2.1, .int .i64 x0.2.2.2.2.2.2.2.1, .int .i64 x0.2.2.2.2.2.2.2.2.1, .int .i64 x0.2.2.2.2.2.2.2.2.2.1, .slice a7 x0.2.2.2.2.2.2.2.2.2.2.1.length c8, .slice a11 x0.2.2.2.2.2.2.2.2.2.2.2.1.length c12, .int .i64 x0.2.2.2.2.2.2.2.2.2.2.2.2.1, .slice a15 x0.2.2.2.2.2.2.2.2.2.2.2.2.2.1.1.length c16, .int .i64 x0.2.2.2.2.2.2.2.2.2.2.2.2.2.1.2, .slice a19 x0.2.2.2.2.2.2.2.2.2.2.2.2.2.2.1.length c20, .int .i64 x0.2.2.2.2.2.2.2.2.2.2.2.2.2.2.2.1, .slice a23 x0.2.2.2.2.2.2.2.2.2.2.2.2.2.2.2.2.1.length c24, .int .i64 x0.2.2.2.2.2.2.2.2.2.2.2.2.2.2.2.2.2] .nil) rfl ⟨⟨rfl, trivial⟩, ⟨rfl, rfl, rfl, rfl, trivial⟩⟩ ?_
    refine JO.done rfl ?_
    refine JS.seq ?_
    refine JS.region ?_
    refine JO.reg ttOk 3 [] [] [(6, .v (.agg #[.slice a3 x0.2.2.1.1.length c4, .int .i64 x0.2.2.1.2])), (7, .v (.int .i64 x1))] _ rfl ⟨⟨rfl, rfl, trivial⟩, rfl⟩ ?_
    obtain ⟨y27, hy28, h⟩ := bindO_some h
    refine JO.call rfl rfl rfl rfl (ok_l_heldLine x0.2.2.1 x1 a3 c4 x0.2.2.1.1.length rfl _ hy28) rfl [0] rfl rfl ?_
    intro _ _
    refine JO.reg ttOk 1 [] [] [(1, .v (.int .i64 y27))] _ rfl ⟨⟨rfl, trivial⟩, rfl⟩ ?_
    refine JO.done rfl ?_
    refine JS.seq ?_
    refine JS.seq ?_
    refine JS.region ?_
    refine JO.reg ttOk 2 [] [] [(10, .v (.bool (decide (y27 < 0))))] _ rfl ⟨⟨rfl, trivial⟩, rfl⟩ ?_
    refine JO.done rfl ?_
    refine JS.cond rfl (fun ht50 => ?_) (fun ht50 => ?_)
    · have h := condT h ht50
      refine JS.seq ?_
      refine JS.region ?_
      refine JO.reg ttOk 1 [] [] [(4, .v (.int .i64 (-1)))] _ rfl ⟨⟨rfl, trivial⟩, rfl⟩ ?_
      refine JO.done rfl ?_
      cases h
      exact JS.ret ttOk () trivial rfl rfl [] rfl
    · have h := condF h ht50
      refine JS.skip ?_
      refine JS.seq ?_
      refine JS.region ?_
      refine JO.reg ttOk 3 [] [] [(12, .v (.agg #[.slice a7 x0.2.2.2.2.2.2.2.2.2.2.1.length c8])), (13, .v (.int .i64 y27))] _ rfl ⟨⟨rfl, rfl, trivial⟩, rfl⟩ ?_
      obtain ⟨y29, hy30, h⟩ := bindO_some h
      refine JO.call rfl rfl rfl rfl (ok_l_heldRing x0.2.2.2.2.2.2.2.2.2.2.1 y27 a7 c8 x0.2.2.2.2.2.2.2.2.2.2.1.length rfl _ hy30) rfl [1] rfl rfl ?_
      intro _ _
      refine JO.reg ttOk 1 [] [] [(1, .v (.int .i64 y29))] _ rfl ⟨⟨rfl, trivial⟩, rfl⟩ ?_
      refine JO.done rfl ?_
      refine JS.seq ?_
      refine JS.seq ?_
      refine JS.region ?_
      refine JO.reg ttOk 2 [] [] [(16, .v (.bool (decide (y29 < 0))))] _ rfl ⟨⟨rfl, trivial⟩, rfl⟩ ?_
      refine JO.done rfl ?_
      refine JS.cond rfl (fun ht49 => ?_) (fun ht49 => ?_)
      · have h := condT h ht49
        refine JS.seq ?_
        refine JS.region ?_
        refine JO.reg ttOk 1 [] [] [(4, .v (.int .i64 (-1)))] _ rfl ⟨⟨rfl, trivial⟩, rfl⟩ ?_
        refine JO.done rfl ?_
        cases h
        exact JS.ret ttOk () trivial rfl rfl [] rfl
      · have h := condF h ht49
        refine JS.skip ?_
        refine JS.seq ?_
        refine JS.region ?_
        refine JO.reg ttOk 3 [] [] [(18, .v (.agg #[.slice a11 x0.2.2.2.2.2.2.2.2.2.2.2.1.length c12])), (19, .v (.int .i64 y29))] _ rfl ⟨⟨rfl, rfl, trivial⟩, rfl⟩ ?_
        obtain ⟨y31, hy32, h⟩ := bindO_some h
        refine JO.call rfl rfl rfl rfl (ok_l_heldUndo x0.2.2.2.2.2.2.2.2.2.2.2.1 y29 a11 c12 x0.2.2.2.2.2.2.2.2.2.2.2.1.length rfl _ hy32) rfl [2] rfl rfl ?_
        intro _ _
        refine JO.reg ttOk 1 [] [] [(1, .v (.int .i64 y31))] _ rfl ⟨⟨rfl, trivial⟩, rfl⟩ ?_
        refine JO.done rfl ?_
        refine JS.seq ?_
        refine JS.seq ?_
        refine JS.region ?_
        refine JO.reg ttOk 2 [] [] [(22, .v (.bool (decide (y31 < 0))))] _ rfl ⟨⟨rfl, trivial⟩, rfl⟩ ?_
        refine JO.done rfl ?_
        refine JS.cond rfl (fun ht48 => ?_) (fun ht48 => ?_)
        · have h := condT h ht48
          refine JS.seq ?_
          refine JS.region ?_
          refine JO.reg ttOk 1 [] [] [(4, .v (.int .i64 (-1)))] _ rfl ⟨⟨rfl, trivial⟩, rfl⟩ ?_
          refine JO.done rfl ?_
          cases h
          exact JS.ret ttOk () trivial rfl rfl [] rfl
        · have h := condF h ht48
          refine JS.skip ?_
          refine JS.seq ?_
          refine JS.region ?_
          refine JO.reg ttOk 3 [] [] [(24, .v (.agg #[.slice a15 x0.2.2.2.2.2.2.2.2.2.2.2.2.2.1.1.length c16, .int .i64 x0.2.2.2.2.2.2.2.2.2.2.2.2.2.1.2])), (25, .v (.int .i64 y31))] _ rfl ⟨⟨rfl, rfl, trivial⟩, rfl⟩ ?_
          obtain ⟨y33, hy34, h⟩ := bindO_some h
          refine JO.call rfl rfl rfl rfl (ok_l_heldLine x0.2.2.2.2.2.2.2.2.2.2.2.2.2.1 y31 a15 c16 x0.2.2.2.2.2.2.2.2.2.2.2.2.2.1.1.length rfl _ hy34) rfl [3] rfl rfl ?_
          intro _ _
          refine JO.reg ttOk 1 [] [] [(1, .v (.int .i64 y33))] _ rfl ⟨⟨rfl, trivial⟩, rfl⟩ ?_
          refine JO.done rfl ?_
          refine JS.seq ?_
          refine JS.seq ?_
          refine JS.region ?_
          refine JO.reg ttOk 2 [] [] [(28, .v (.bool (decide (y33 < 0))))] _ rfl ⟨⟨rfl, trivial⟩, rfl⟩ ?_
          refine JO.done rfl ?_
          refine JS.cond rfl (fun ht47 => ?_) (fun ht47 => ?_)
          · have h := condT h ht47
            refine JS.seq ?_
            refine JS.region ?_
            refine JO.reg ttOk 1 [] [] [(4, .v (.int .i64 (-1)))] _ rfl ⟨⟨rfl, trivial⟩, rfl⟩ ?_
            refine JO.done rfl ?_
            cases h
            exact JS.ret ttOk () trivial rfl rfl [] rfl
          · have h := condF h ht47
            refine JS.skip ?_
            refine JS.seq ?_
            refine JS.region ?_
            refine JO.reg ttOk 3 [] [] [(30, .v (.slice a19 x0.2.2.2.2.2.2.2.2.2.2.2.2.2.2.1.length c20)), (31, .v (.int .i64 y33))] _ rfl ⟨⟨rfl, rfl, trivial⟩, rfl⟩ ?_
            obtain ⟨y35, hy36, h⟩ := bindO_some h
            refine JO.call rfl rfl rfl rfl (ok_l_heldIntS x0.2.2.2.2.2.2.2.2.2.2.2.2.2.2.1 y33 a19 c20 x0.2.2.2.2.2.2.2.2.2.2.2.2.2.2.1.length rfl _ hy36) rfl [4] rfl rfl ?_
            intro _ _
            refine JO.reg ttOk 1 [] [] [(1, .v (.int .i64 y35))] _ rfl ⟨⟨rfl, trivial⟩, rfl⟩ ?_
            refine JO.done rfl ?_
            refine JS.seq ?_
            refine JS.seq ?_
            refine JS.region ?_
            refine JO.reg ttOk 2 [] [] [(34, .v (.bool (decide (y35 < 0))))] _ rfl ⟨⟨rfl, trivial⟩, rfl⟩ ?_
            refine JO.done rfl ?_
            refine JS.cond rfl (fun ht46 => ?_) (fun ht46 => ?_)
            · have h := condT h ht46
              refine JS.seq ?_
              refine JS.region ?_
              refine JO.reg ttOk 1 [] [] [(4, .v (.int .i64 (-1)))] _ rfl ⟨⟨rfl, trivial⟩, rfl⟩ ?_
              refine JO.done rfl ?_
              cases h
              exact JS.ret ttOk () trivial rfl rfl [] rfl
            · have h := condF h ht46
              refine JS.skip ?_
              refine JS.seq ?_
              refine JS.region ?_
              refine JO.reg ttOk 3 [] [] [(36, .v (.agg #[.slice a23 x0.2.2.2.2.2.2.2.2.2.2.2.2.2.2.2.2.1.length c24, .int .i64 x0.2.2.2.2.2.2.2.2.2.2.2.2.2.2.2.2.2])), (37, .v (.int .i64 y35))] _ rfl ⟨⟨rfl, rfl, trivial⟩, rfl⟩ ?_
              obtain ⟨y37, hy38, h⟩ := bindO_some h
              refine JO.call rfl rfl rfl rfl (ok_l_heldLine x0.2.2.2.2.2.2.2.2.2.2.2.2.2.2.2.2 y35 a23 c24 x0.2.2.2.2.2.2.2.2.2.2.2.2.2.2.2.2.1.length rfl _ hy38) rfl [5] rfl rfl ?_
              intro _ _
              refine JO.reg ttOk 1 [] [] [(1, .v (.int .i64 y37))] _ rfl ⟨⟨rfl, trivial⟩, rfl⟩ ?_
              refine JO.done rfl ?_
              refine JS.seq ?_
              refine JS.seq ?_
              refine JS.region ?_
              refine JO.reg ttOk 2 [] [] [(40, .v (.bool (decide (y37 < 0))))] _ rfl ⟨⟨rfl, trivial⟩, rfl⟩ ?_
              refine JO.done rfl ?_
              refine JS.cond rfl (fun ht45 => ?_) (fun ht45 => ?_)
              · have h := condT h ht45
                refine JS.seq ?_
                refine JS.region ?_
                refine JO.reg ttOk 1 [] [] [(4, .v (.int .i64 (-1)))] _ rfl ⟨⟨rfl, trivial⟩, rfl⟩ ?_
                refine JO.done rfl ?_
                cases h
                exact JS.ret ttOk () trivial rfl rfl [] rfl
              · have h := condF h ht45
                refine JS.skip ?_
                refine JS.seq ?_
                refine JS.region ?_
                refine JO.reg ttOk 2 [] [] [(4, .v (.int .i64 y37))] _ rfl ⟨⟨rfl, trivial⟩, rfl⟩ ?_
                refine JO.done rfl ?_
                cases h
                exact JS.ret ttOk () trivial rfl rfl [] rfl

end
end Go.Eng
