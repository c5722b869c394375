/- The walks of the functions that FnExactShowHit reaches: what each computes, as a plain function (M_..), and that the model computes it (ok_..). Condition of each: that the plain function answers. -/
import Derived.Test.YtlpgcohnjhomgaaGreatFnExactShowHitWalkA
set_option linter.unusedVariables false
set_option linter.unusedSimpArgs false
namespace Go.Eng
open Go Go.Proofs
noncomputable section

def M_i_EdOk_L1 (x0 : Bool × Int × (List Int × Int) × Int × Int × Int × Int × Int × Int × Int × List (List Int) × (List (List Int × Int)) × Int × (List Int × Int) × List Int × Int × List Int × Int) (j116 : Unit → Option Bool) (k111 : Int → Option Bool) : Int → Option Bool := fun x69 =>
  (bif (decide (x69 < (x0.2.2.2.2.2.2.2.2.2.2.2.2.2.2.1.length : Int))) then
  (guardO (0 ≤ x69 ∧ x69 < (x0.2.2.2.2.2.2.2.2.2.2.2.2.2.2.1.length : Int)) <|
  (bindO (M_i_Printable (at' x0.2.2.2.2.2.2.2.2.2.2.2.2.2.2.1 x69)) fun (y104 : Bool) =>
  (bif (!y104) then
  some false
  else
  k111 (W (x69 + 1)))))
  else
  j116 ())

def M_i_EdOk (x0 : Bool × Int × (List Int × Int) × Int × Int × Int × Int × Int × Int × Int × List (List Int) × (List (List Int × Int)) × Int × (List Int × Int) × List Int × Int × List Int × Int) : Option Bool :=
  (bindO (M_i_LineOk x0.2.2.1) fun (y26 : Bool) =>
  (callO ((!y26) = false) (M_i_LineOk x0.2.2.2.2.2.2.2.2.2.2.2.2.2.1) false fun (y28 : Bool) =>
  (callO ((bif (!y26) then true else (!y28)) = false) (M_i_LineOk x0.2.2.2.2.2.2.2.2.2.2.2.2.2.2.2.2) false fun (y31 : Bool) =>
  (callO ((bif (bif (!y26) then true else (!y28)) then true else (!y31)) = false) (M_i_in x0.2.2.2.1 0 999) false fun (y34 : Bool) =>
  (callO ((bif (bif (bif (!y26) then true else (!y28)) then true else (!y31)) then true else (!y34)) = false) (M_i_in x0.2.2.2.2.2.1 0 999) false fun (y37 : Bool) =>
  (callO ((bif (bif (bif (bif (!y26) then true else (!y28)) then true else (!y31)) then true else (!y34)) then true else (!y37)) = false) (M_i_modeOk x0) false fun (y40 : Bool) =>
  (bif (bif (bif (bif (bif (bif (!y26) then true else (!y28)) then true else (!y31)) then true else (!y34)) then true else (!y37)) then true else (!y40)) then
  some false
  else
  (callO ((!(decide (x0.2.2.2.2.2.2.2.1 = 0))) = true ∧ (bif (decide (x0.2.2.2.2.2.2.2.1 = 0)) then (!(decide (x0.2.2.2.2.2.2.2.2.1 = 0))) else false) = false) (M_i_Printable x0.2.2.2.2.2.2.2.1) false fun (y43 : Bool) =>
  (callO ((!y43) = false ∧ (!(decide (x0.2.2.2.2.2.2.2.1 = 0))) = true ∧ (bif (decide (x0.2.2.2.2.2.2.2.1 = 0)) then (!(decide (x0.2.2.2.2.2.2.2.2.1 = 0))) else false) = false) (M_i_in x0.2.2.2.2.2.2.2.2.1 0 3) false fun (y47 : Bool) =>
  (bif (bif (bif (decide (x0.2.2.2.2.2.2.2.1 = 0)) then (!(decide (x0.2.2.2.2.2.2.2.2.1 = 0))) else false) then true else (bif (!(decide (x0.2.2.2.2.2.2.2.1 = 0))) then (bif (!y43) then true else (!y47)) else false)) then
  some false
  else
  (bindO (M_i_in x0.2.2.2.2.2.2.2.2.2.1 0 3) fun (y52 : Bool) =>
  (callO ((!y52) = false) (M_i_RingOk x0.2.2.2.2.2.2.2.2.2.2.1) false fun (y54 : Bool) =>
  (callO ((bif (!y52) then true else (!y54)) = false) (M_i_UndoOk x0.2.2.2.2.2.2.2.2.2.2.2.1) false fun (y57 : Bool) =>
  (callO ((bif (bif (!y52) then true else (!y54)) then true else (!y57)) = false) (M_i_in x0.2.2.2.2.2.2.2.2.2.2.2.2.1 0 1000000060) false fun (y60 : Bool) =>
  (callO ((bif (bif (bif (!y52) then true else (!y54)) then true else (!y57)) then true else (!y60)) = false) (M_i_in x0.2.2.2.2.2.2.2.2.2.2.2.2.2.2.2.1 0 1000000060) false fun (y63 : Bool) =>
  (bif (bif (bif (bif (bif (!y52) then true else (!y54)) then true else (!y57)) then true else (!y60)) then true else (!y63)) then
  some false
  else
  (callO ((decide (x0.2.2.2.2.2.2.2.2.2.2.2.2.1 = 0)) = true) (M_i_emptyLine x0.2.2.2.2.2.2.2.2.2.2.2.2.2.1) false fun (y66 : Bool) =>
  (bif (bif (bif (decide (x0.2.2.2.2.2.2.2.2.2.2.2.2.1 = 0)) then (!y66) else false) then true else (decide (40 < (x0.2.2.2.2.2.2.2.2.2.2.2.2.2.2.1.length : Int)))) then
  some false
  else
  (joinO (fun (_ : Unit) =>
  (callO ((bif (decide ((x0.2.2.2.2.2.2.2.2.2.2.2.2.2.2.1.length : Int) = 0)) then (decide (x0.2.2.2.2.2.2.2.2.2.2.2.2.2.2.2.1 = 0)) else false) = true ∧ (decide (x0.2.1 = 3)) = false) (M_i_emptyLine x0.2.2.2.2.2.2.2.2.2.2.2.2.2.2.2.2) false fun (y120 : Bool) =>
  some (bif (decide (x0.2.1 = 3)) then true else (bif (bif (decide ((x0.2.2.2.2.2.2.2.2.2.2.2.2.2.2.1.length : Int) = 0)) then (decide (x0.2.2.2.2.2.2.2.2.2.2.2.2.2.2.2.1 = 0)) else false) then y120 else false)))) fun j116 =>
  (fixF (M_i_EdOk_L1 x0 j116) FUEL 0))))))))))))))))))))

theorem ok_i_EdOk (x0 : Bool × Int × (List Int × Int) × Int × Int × Int × Int × Int × Int × Int × List (List Int) × (List (List Int × Int)) × Int × (List Int × Int) × List Int × Int × List Int × Int) (a2 : Option Addr) (c3 : Nat) (l4 : Nat) (hl5 : x0.2.2.1.1.length = l4) (a6 : Option Addr) (c7 : Nat) (l8 : Nat) (hl9 : x0.2.2.2.2.2.2.2.2.2.2.1.length = l8) (a10 : Option Addr) (c11 : Nat) (l12 : Nat) (hl13 : x0.2.2.2.2.2.2.2.2.2.2.2.1.length = l12) (a14 : Option Addr) (c15 : Nat) (l16 : Nat) (hl17 : x0.2.2.2.2.2.2.2.2.2.2.2.2.2.1.1.length = l16) (a18 : Option Addr) (c19 : Nat) (l20 : Nat) (hl21 : x0.2.2.2.2.2.2.2.2.2.2.2.2.2.2.1.length = l20) (a22 : Option Addr) (c23 : Nat) (l24 : Nat) (hl25 : x0.2.2.2.2.2.2.2.2.2.2.2.2.2.2.2.2.1.length = l24) (r : Bool) (h : M_i_EdOk x0 = some r) :
    FC Tryz.prog 34 [.agg #[.bool x0.1, .int .i64 x0.2.1, .slice a2 l4 c3, .int .i64 x0.2.2.1.2, .int .i64 x0.2.2.2.1, .int .i64 x0.2.2.2.2.1, .int .i64 x0.2.2.2.2.2.1, .int .i64 x0.2.2.2.2.2.2.1, .int .i64 x0.2.2.2.2.2.2.2.1, .int .i64 x0.2.2.2.2.2.2.2.2.1, .int .i64 x0.2.2.2.2.2.2.2.2.2.1, .slice a6 l8 c7, .slice a10 l12 c11, .int .i64 x0.2.2.2.2.2.2.2.2.2.2.2.2.1, .slice a14 l16 c15, .int .i64 x0.2.2.2.2.2.2.2.2.2.2.2.2.2.1.2, .slice a18 l20 c19, .int .i64 x0.2.2.2.2.2.2.2.2.2.2.2.2.2.2.2.1, .slice a22 l24 c23, .int .i64 x0.2.2.2.2.2.2.2.2.2.2.2.2.2.2.2.2.2]] [⟨(.int .i64), ⟨a2, l4, c3⟩, x0.2.2.1.1⟩, ⟨(.sl (.int .i64)), ⟨a6, l8, c7⟩, x0.2.2.2.2.2.2.2.2.2.2.1⟩, ⟨(.pair (.sl (.int .i64)) (.int .i64)), ⟨a10, l12, c11⟩, x0.2.2.2.2.2.2.2.2.2.2.2.1⟩, ⟨(.int .i64), ⟨a14, l16, c15⟩, x0.2.2.2.2.2.2.2.2.2.2.2.2.2.1.1⟩, ⟨(.int .i64), ⟨a18, l20, c19⟩, x0.2.2.2.2.2.2.2.2.2.2.2.2.2.2.1⟩, ⟨(.int .i64), ⟨a22, l24, c23⟩, x0.2.2.2.2.2.2.2.2.2.2.2.2.2.2.2.2.1⟩] (fun _ : Unit => True) (fun _ => .bool r) (fun _ => []) :=
  by
    subst hl5
    subst hl9
    subst hl13
    subst hl17
    subst hl21
    subst hl25
    refine FC.of (T := TTx) Tryz.call34 Tryz.func34 rfl rfl fun w0 => ?_
    unfold M_i_EdOk at h
    refine JS.rgB ttOk 2 [] [7] [(1, .bp 7 0)] (.new 7 46 (cl46 x0 a2 c3 a6 c7 a10 c11 a14 c15 a18 c19 a22 c23) .nil) ⟨⟨rfl, trivial⟩, (Bs rfl rfl)⟩ rfl rfl (JS.seq (JS.seq (JS.region (JO.reg ttOk 2 [] [] [(6, .v (.agg #[.slice a2 x0.2.2.1.1.length c3, .int .i64 x0.2.2.1.2]))] _ rfl ⟨⟨rfl, trivial⟩, rfl⟩ ?_))))
    obtain ⟨y26, hy27, h⟩ := bindO_some h
    refine JO.call rfl rfl rfl rfl (ok_i_LineOk x0.2.2.1 a2 c3 x0.2.2.1.1.length rfl _ hy27) rfl [0] rfl rfl fun _ _ => JO.reg ttOk 4 [] [] [(9, .v (.bool (!y26))), (11, .cd [(9, false)] (.v (.agg #[.slice a14 x0.2.2.2.2.2.2.2.2.2.2.2.2.2.1.1.length c15, .int .i64 x0.2.2.2.2.2.2.2.2.2.2.2.2.2.1.2])))] _ rfl ⟨(Es rfl), rfl⟩ ?_
    obtain ⟨y28, hy29, -, h⟩ := callO_some h
    refine JO.callg rfl rfl rfl rfl (fun q129 => ok_i_LineOk x0.2.2.2.2.2.2.2.2.2.2.2.2.2.1 a14 c15 x0.2.2.2.2.2.2.2.2.2.2.2.2.2.1.1.length rfl _ (hy29 q129)) rfl [3] rfl rfl (JO.reg ttOk 5 [] [] [(15, .v (.bool (bif (!y26) then true else (!y28)))), (17, .cd [(15, false)] (.v (.agg #[.slice a22 x0.2.2.2.2.2.2.2.2.2.2.2.2.2.2.2.2.1.length c23, .int .i64 x0.2.2.2.2.2.2.2.2.2.2.2.2.2.2.2.2.2])))] _ rfl ⟨(Es rfl), rfl⟩ ?_)
    obtain ⟨y31, hy32, -, h⟩ := callO_some h
    refine JO.callg rfl rfl rfl rfl (fun q130 => ok_i_LineOk x0.2.2.2.2.2.2.2.2.2.2.2.2.2.2.2.2 a22 c23 x0.2.2.2.2.2.2.2.2.2.2.2.2.2.2.2.2.1.length rfl _ (hy32 q130)) rfl [5] rfl rfl (JO.reg ttOk 5 [] [] [(21, .v (.bool (bif (bif (!y26) then true else (!y28)) then true else (!y31)))), (23, .cd [(21, false)] (.v (.int .i64 x0.2.2.2.1)))] _ rfl ⟨(Es rfl), rfl⟩ ?_)
    obtain ⟨y34, hy35, -, h⟩ := callO_some h
    refine JO.callg rfl rfl rfl rfl (fun q131 => ok_i_in x0.2.2.2.1 0 999 _ (hy35 q131)) rfl [] rfl rfl (JO.reg ttOk 5 [] [] [(27, .v (.bool (bif (bif (bif (!y26) then true else (!y28)) then true else (!y31)) then true else (!y34)))), (29, .cd [(27, false)] (.v (.int .i64 x0.2.2.2.2.2.1)))] _ rfl ⟨(Es rfl), rfl⟩ ?_)
    obtain ⟨y37, hy38, -, h⟩ := callO_some h
    refine JO.callg rfl rfl rfl rfl (fun q132 => ok_i_in x0.2.2.2.2.2.1 0 999 _ (hy38 q132)) rfl [] rfl rfl (JO.reg ttOk 4 [] [] [(33, .v (.bool (bif (bif (bif (bif (!y26) then true else (!y28)) then true else (!y31)) then true else (!y34)) then true else (!y37)))), (34, .cd [(33, false)] (.v (.agg (cl46 x0 a2 c3 a6 c7 a10 c11 a14 c15 a18 c19 a22 c23).toArray)))] _ rfl ⟨(Es rfl), rfl⟩ ?_)
    obtain ⟨y40, hy41, -, h⟩ := callO_some h
    refine JO.callg rfl rfl rfl rfl (fun q133 => ok_i_modeOk x0 a2 c3 x0.2.2.1.1.length rfl a6 c7 x0.2.2.2.2.2.2.2.2.2.2.1.length rfl a10 c11 x0.2.2.2.2.2.2.2.2.2.2.2.1.length rfl a14 c15 x0.2.2.2.2.2.2.2.2.2.2.2.2.2.1.1.length rfl a18 c19 x0.2.2.2.2.2.2.2.2.2.2.2.2.2.2.1.length rfl a22 c23 x0.2.2.2.2.2.2.2.2.2.2.2.2.2.2.2.2.1.length rfl _ (hy41 q133)) rfl [0, 1, 2, 3, 4, 5] rfl rfl (JO.reg ttOk 2 [] [] [(37, .v (.bool (bif (bif (bif (bif (bif (!y26) then true else (!y28)) then true else (!y31)) then true else (!y34)) then true else (!y37)) then true else (!y40))))] _ rfl ⟨⟨rfl, trivial⟩, rfl⟩ (JO.done rfl ?_))
    refine JS.cond rfl (fun ht153 => ?_) (fun ht153 => ?_)
    · have h := condT h ht153
      refine JS.rg0 ttOk 1 [(2, .v (.bool false))] ⟨⟨rfl, trivial⟩, rfl⟩ rfl rfl ?_
      cases h
      exact JS.ret ttOk () trivial rfl rfl [] rfl
    have h := condF h ht153
    refine JS.skip (JS.seq (JS.seq (JS.region (JO.reg ttOk 15 [] [] [(46, .v (.bool (bif (decide (x0.2.2.2.2.2.2.2.1 = 0)) then (!(decide (x0.2.2.2.2.2.2.2.2.1 = 0))) else false))), (50, .cd [(46, false)] (.v (.bool (!(decide (x0.2.2.2.2.2.2.2.1 = 0)))))), (52, .cd [(50, true), (46, false)] (.v (.int .i64 x0.2.2.2.2.2.2.2.1)))] _ rfl ⟨(Es rfl), rfl⟩ ?_))))
    obtain ⟨y43, hy44, -, h⟩ := callO_some h
    refine JO.callg rfl rfl rfl rfl (fun q134 q135 => ok_i_Printable x0.2.2.2.2.2.2.2.1 _ (hy44 ⟨q134, q135⟩)) rfl [] rfl rfl (JO.reg ttOk 4 [] [] [(55, .cd [(50, true), (46, false)] (.v (.bool (!y43)))), (57, .cd [(55, false), (50, true), (46, false)] (.v (.int .i64 x0.2.2.2.2.2.2.2.2.1)))] _ rfl ⟨(Es rfl), rfl⟩ ?_)
    obtain ⟨y47, hy48, -, h⟩ := callO_some h
    refine JO.callg rfl rfl rfl rfl (fun q136 q137 q138 => ok_i_in x0.2.2.2.2.2.2.2.2.1 0 3 _ (hy48 ⟨q136, q137, q138⟩)) rfl [] rfl rfl (JO.reg ttOk 4 [] [] [(62, .v (.bool (bif (bif (decide (x0.2.2.2.2.2.2.2.1 = 0)) then (!(decide (x0.2.2.2.2.2.2.2.2.1 = 0))) else false) then true else (bif (!(decide (x0.2.2.2.2.2.2.2.1 = 0))) then (bif (!y43) then true else (!y47)) else false))))] _ rfl ⟨⟨rfl, trivial⟩, rfl⟩ (JO.done rfl ?_))
    refine JS.cond rfl (fun ht152 => ?_) (fun ht152 => ?_)
    · have h := condT h ht152
      refine JS.rg0 ttOk 1 [(2, .v (.bool false))] ⟨⟨rfl, trivial⟩, rfl⟩ rfl rfl ?_
      cases h
      exact JS.ret ttOk () trivial rfl rfl [] rfl
    have h := condF h ht152
    refine JS.skip (JS.seq (JS.seq (JS.region (JO.reg ttOk 2 [] [] [(64, .v (.int .i64 x0.2.2.2.2.2.2.2.2.2.1))] _ rfl ⟨⟨rfl, trivial⟩, rfl⟩ ?_))))
    obtain ⟨y52, hy53, h⟩ := bindO_some h
    refine JO.call rfl rfl rfl rfl (ok_i_in x0.2.2.2.2.2.2.2.2.2.1 0 3 _ hy53) rfl [] rfl rfl fun _ _ => JO.reg ttOk 4 [] [] [(67, .v (.bool (!y52))), (69, .cd [(67, false)] (.v (.agg #[.slice a6 x0.2.2.2.2.2.2.2.2.2.2.1.length c7])))] _ rfl ⟨(Es rfl), rfl⟩ ?_
    obtain ⟨y54, hy55, -, h⟩ := callO_some h
    refine JO.callg rfl rfl rfl rfl (fun q139 => ok_i_RingOk x0.2.2.2.2.2.2.2.2.2.2.1 a6 c7 x0.2.2.2.2.2.2.2.2.2.2.1.length rfl _ (hy55 q139)) rfl [1] rfl rfl (JO.reg ttOk 5 [] [] [(73, .v (.bool (bif (!y52) then true else (!y54)))), (75, .cd [(73, false)] (.v (.agg #[.slice a10 x0.2.2.2.2.2.2.2.2.2.2.2.1.length c11])))] _ rfl ⟨(Es rfl), rfl⟩ ?_)
    obtain ⟨y57, hy58, -, h⟩ := callO_some h
    refine JO.callg rfl rfl rfl rfl (fun q140 => ok_i_UndoOk x0.2.2.2.2.2.2.2.2.2.2.2.1 a10 c11 x0.2.2.2.2.2.2.2.2.2.2.2.1.length rfl _ (hy58 q140)) rfl [2] rfl rfl (JO.reg ttOk 5 [] [] [(79, .v (.bool (bif (bif (!y52) then true else (!y54)) then true else (!y57)))), (81, .cd [(79, false)] (.v (.int .i64 x0.2.2.2.2.2.2.2.2.2.2.2.2.1)))] _ rfl ⟨(Es rfl), rfl⟩ ?_)
    obtain ⟨y60, hy61, -, h⟩ := callO_some h
    refine JO.callg rfl rfl rfl rfl (fun q141 => ok_i_in x0.2.2.2.2.2.2.2.2.2.2.2.2.1 0 1000000060 _ (hy61 q141)) rfl [] rfl rfl (JO.reg ttOk 5 [] [] [(85, .v (.bool (bif (bif (bif (!y52) then true else (!y54)) then true else (!y57)) then true else (!y60)))), (87, .cd [(85, false)] (.v (.int .i64 x0.2.2.2.2.2.2.2.2.2.2.2.2.2.2.2.1)))] _ rfl ⟨(Es rfl), rfl⟩ ?_)
    obtain ⟨y63, hy64, -, h⟩ := callO_some h
    refine JO.callg rfl rfl rfl rfl (fun q142 => ok_i_in x0.2.2.2.2.2.2.2.2.2.2.2.2.2.2.2.1 0 1000000060 _ (hy64 q142)) rfl [] rfl rfl (JO.reg ttOk 2 [] [] [(90, .v (.bool (bif (bif (bif (bif (!y52) then true else (!y54)) then true else (!y57)) then true else (!y60)) then true else (!y63))))] _ rfl ⟨⟨rfl, trivial⟩, rfl⟩ (JO.done rfl ?_))
    refine JS.cond rfl (fun ht151 => ?_) (fun ht151 => ?_)
    · have h := condT h ht151
      refine JS.rg0 ttOk 1 [(2, .v (.bool false))] ⟨⟨rfl, trivial⟩, rfl⟩ rfl rfl ?_
      cases h
      exact JS.ret ttOk () trivial rfl rfl [] rfl
    have h := condF h ht151
    refine JS.skip (JS.seq (JS.seq (JS.region (JO.reg ttOk 6 [] [] [(94, .v (.bool (decide (x0.2.2.2.2.2.2.2.2.2.2.2.2.1 = 0)))), (96, .cd [(94, true)] (.v (.agg #[.slice a14 x0.2.2.2.2.2.2.2.2.2.2.2.2.2.1.1.length c15, .int .i64 x0.2.2.2.2.2.2.2.2.2.2.2.2.2.1.2])))] _ rfl ⟨(Es rfl), rfl⟩ ?_))))
    obtain ⟨y66, hy67, -, h⟩ := callO_some h
    refine JO.callg rfl rfl rfl rfl (fun q143 => ok_i_emptyLine x0.2.2.2.2.2.2.2.2.2.2.2.2.2.1 a14 c15 x0.2.2.2.2.2.2.2.2.2.2.2.2.2.1.1.length rfl _ (hy67 q143)) rfl [3] rfl rfl (JO.reg ttOk 8 [] [] [(105, .v (.bool (bif (bif (decide (x0.2.2.2.2.2.2.2.2.2.2.2.2.1 = 0)) then (!y66) else false) then true else (decide (40 < (x0.2.2.2.2.2.2.2.2.2.2.2.2.2.2.1.length : Int))))))] _ rfl ⟨⟨rfl, trivial⟩, rfl⟩ (JO.done rfl ?_))
    refine JS.cond rfl (fun ht150 => ?_) (fun ht150 => ?_)
    · have h := condT h ht150
      refine JS.rg0 ttOk 1 [(2, .v (.bool false))] ⟨⟨rfl, trivial⟩, rfl⟩ rfl rfl ?_
      cases h
      exact JS.ret ttOk () trivial rfl rfl [] rfl
    have h := condF h ht150
    refine JS.skip (JS.seq (JS.rg0 ttOk 4 [(107, .v (.slice a18 x0.2.2.2.2.2.2.2.2.2.2.2.2.2.2.1.length c19)), (108, .v (.int .i64 (x0.2.2.2.2.2.2.2.2.2.2.2.2.2.2.1.length : Int))), (109, .v (.int .i64 0))] ⟨(Es rfl), rfl⟩ rfl rfl ?_))
    obtain ⟨j116, hj149, h⟩ := joinO_some h
    refine JS.blockJ (ι := Unit) ⟨fun _ => j116 () = some r, fun _ => [(1, .bp 7 0)], fun _ => (.new 7 46 (cl46 x0 a2 c3 a6 c7 a10 c11 a14 c15 a18 c19 a22 c23) .nil), fun _ => [⟨(.int .i64), ⟨a2, x0.2.2.1.1.length, c3⟩, x0.2.2.1.1⟩, ⟨(.sl (.int .i64)), ⟨a6, x0.2.2.2.2.2.2.2.2.2.2.1.length, c7⟩, x0.2.2.2.2.2.2.2.2.2.2.1⟩, ⟨(.pair (.sl (.int .i64)) (.int .i64)), ⟨a10, x0.2.2.2.2.2.2.2.2.2.2.2.1.length, c11⟩, x0.2.2.2.2.2.2.2.2.2.2.2.1⟩, ⟨(.int .i64), ⟨a14, x0.2.2.2.2.2.2.2.2.2.2.2.2.2.1.1.length, c15⟩, x0.2.2.2.2.2.2.2.2.2.2.2.2.2.1.1⟩, ⟨(.int .i64), ⟨a18, x0.2.2.2.2.2.2.2.2.2.2.2.2.2.2.1.length, c19⟩, x0.2.2.2.2.2.2.2.2.2.2.2.2.2.2.1⟩, ⟨(.int .i64), ⟨a22, x0.2.2.2.2.2.2.2.2.2.2.2.2.2.2.2.2.1.length, c23⟩, x0.2.2.2.2.2.2.2.2.2.2.2.2.2.2.2.2.1⟩], fun _ => [], fun _ => 0⟩ ?_ ?_
    · refine JS.loop (ι := Nat × Int) ⟨fun z => fixF (M_i_EdOk_L1 x0 j116) z.1 z.2 = some r, fun z => [(1, .bp 7 0), (107, .v (.slice a18 x0.2.2.2.2.2.2.2.2.2.2.2.2.2.2.1.length c19)), (108, .v (.int .i64 (x0.2.2.2.2.2.2.2.2.2.2.2.2.2.2.1.length : Int))), (109, .v (.int .i64 z.2))], fun z => (.new 7 46 (cl46 x0 a2 c3 a6 c7 a10 c11 a14 c15 a18 c19 a22 c23) .nil), fun z => [⟨(.int .i64), ⟨a18, x0.2.2.2.2.2.2.2.2.2.2.2.2.2.2.1.length, c19⟩, x0.2.2.2.2.2.2.2.2.2.2.2.2.2.2.1⟩, ⟨(.int .i64), ⟨a2, x0.2.2.1.1.length, c3⟩, x0.2.2.1.1⟩, ⟨(.sl (.int .i64)), ⟨a6, x0.2.2.2.2.2.2.2.2.2.2.1.length, c7⟩, x0.2.2.2.2.2.2.2.2.2.2.1⟩, ⟨(.pair (.sl (.int .i64)) (.int .i64)), ⟨a10, x0.2.2.2.2.2.2.2.2.2.2.2.1.length, c11⟩, x0.2.2.2.2.2.2.2.2.2.2.2.1⟩, ⟨(.int .i64), ⟨a14, x0.2.2.2.2.2.2.2.2.2.2.2.2.2.1.1.length, c15⟩, x0.2.2.2.2.2.2.2.2.2.2.2.2.2.1.1⟩, ⟨(.int .i64), ⟨a22, x0.2.2.2.2.2.2.2.2.2.2.2.2.2.2.2.2.1.length, c23⟩, x0.2.2.2.2.2.2.2.2.2.2.2.2.2.2.2.2.1⟩], fun z => [], fun z => z.1⟩ (FUEL, 0) h (Es rfl) (Bs rfl rfl) [4, 0, 1, 2, 3, 5] rfl [] rfl ?_
      rintro ⟨n112, x69⟩ h
      obtain ⟨n112, rfl, h⟩ := fixF_some h
      rw [M_i_EdOk_L1] at h
      refine JS.rg0 ttOk 1 [(110, .v (.bool (decide (x69 < (x0.2.2.2.2.2.2.2.2.2.2.2.2.2.2.1.length : Int)))))] ⟨⟨rfl, trivial⟩, rfl⟩ rfl rfl (JS.seq ?_)
      refine JS.cond rfl (fun ht146 => ?_) (fun ht146 => ?_)
      · have h := condT h ht146
        refine JS.skip (JS.seq (JS.block (JS.seq (JS.region (JO.know 0 rfl fun hs144 => ?_)))))
        obtain ⟨g103, h⟩ := guardO_some h
        refine JO.reg ttOk 1 [] [] [(111, .ep ⟨a18, x0.2.2.2.2.2.2.2.2.2.2.2.2.2.2.1.length, c19⟩ (Int.toNat x69 * 1))] _ rfl ⟨hs144.ix g103, ⟨rfl, trivial⟩, rfl⟩ (JO.load ttOk rfl rfl rfl rfl rfl rfl rfl 0 rfl rfl (Int.toNat x69) 0 (at' x0.2.2.2.2.2.2.2.2.2.2.2.2.2.2.1 x69) ⟨at_some g103, rfl⟩ rfl rfl (JO.reg ttOk 1 [] [] [(4, .v (.int .i64 (at' x0.2.2.2.2.2.2.2.2.2.2.2.2.2.2.1 x69)))] _ rfl ⟨⟨rfl, trivial⟩, rfl⟩ (JO.done rfl (JS.seq (JS.region (JO.reg ttOk 1 [] [] [(113, .v (.int .i64 (at' x0.2.2.2.2.2.2.2.2.2.2.2.2.2.2.1 x69)))] _ rfl ⟨⟨rfl, trivial⟩, rfl⟩ ?_))))))
        obtain ⟨y104, hy105, h⟩ := bindO_some h
        refine JO.call rfl rfl rfl rfl (ok_i_Printable (at' x0.2.2.2.2.2.2.2.2.2.2.2.2.2.2.1 x69) _ hy105) rfl [] rfl rfl fun _ _ => JO.reg ttOk 1 [] [] [(115, .v (.bool (!y104)))] _ rfl ⟨⟨rfl, trivial⟩, rfl⟩ (JO.done rfl ?_)
        refine JS.cond rfl (fun ht145 => ?_) (fun ht145 => ?_)
        · have h := condT h ht145
          refine JS.rg0 ttOk 1 [(2, .v (.bool false))] ⟨⟨rfl, trivial⟩, rfl⟩ rfl rfl ?_
          cases h
          exact JS.ret ttOk () trivial rfl rfl [] rfl
        have h := condF h ht145
        refine JS.skip (JS.endB (JS.re ttOk 2 [(W (x69 + 1))] [] [(109, .v (.int .i64 (W (x69 + 1))))] _ ⟨⟨trivial, rfl⟩, ⟨rfl, trivial⟩, rfl⟩ rfl rfl (JS.endL (n112, (W (x69 + 1))) h (Nat.lt_succ_self _) (Es rfl) (Bs rfl rfl) [0, 1, 2, 3, 4, 5] rfl [] rfl)))
      have h := condF h ht146
      refine JS.exit rfl (JS.endJ () h ⟨rfl, trivial⟩ (Bs rfl rfl) [1, 2, 3, 4, 0, 5] rfl [] rfl)
    rintro _ h
    subst hj149
    refine JS.seq (JS.region (JO.reg ttOk 16 [] [] [(120, .v (.bool (decide (x0.2.1 = 3)))), (130, .cd [(120, false)] (.v (.bool (bif (decide ((x0.2.2.2.2.2.2.2.2.2.2.2.2.2.2.1.length : Int) = 0)) then (decide (x0.2.2.2.2.2.2.2.2.2.2.2.2.2.2.2.1 = 0)) else false)))), (132, .cd [(130, true), (120, false)] (.v (.agg #[.slice a22 x0.2.2.2.2.2.2.2.2.2.2.2.2.2.2.2.2.1.length c23, .int .i64 x0.2.2.2.2.2.2.2.2.2.2.2.2.2.2.2.2.2])))] _ rfl ⟨(Es rfl), rfl⟩ ?_))
    obtain ⟨y120, hy121, -, h⟩ := callO_some h
    refine JO.callg rfl rfl rfl rfl (fun q147 q148 => ok_i_emptyLine x0.2.2.2.2.2.2.2.2.2.2.2.2.2.2.2.2 a22 c23 x0.2.2.2.2.2.2.2.2.2.2.2.2.2.2.2.2.1.length rfl _ (hy121 ⟨q147, q148⟩)) rfl [5] rfl rfl (JO.reg ttOk 3 [] [] [(2, .v (.bool (bif (decide (x0.2.1 = 3)) then true else (bif (bif (decide ((x0.2.2.2.2.2.2.2.2.2.2.2.2.2.2.1.length : Int) = 0)) then (decide (x0.2.2.2.2.2.2.2.2.2.2.2.2.2.2.2.1 = 0)) else false) then y120 else false))))] _ rfl ⟨⟨rfl, trivial⟩, rfl⟩ (JO.done rfl ?_))
    cases h
    exact JS.ret ttOk () trivial rfl rfl [] rfl

def M_i_HistOk_L1 (x0 : Int × List (List UInt8)) (j20 : Unit → Option Bool) (k15 : Int → Option Bool) : Int → Option Bool := fun x8 =>
  (bif (decide (x8 < (x0.2.length : Int))) then
  (guardO (0 ≤ x8 ∧ x8 < (x0.2.length : Int)) <|
  (bindO (M_i_in ((at' x0.2 x8).length : Int) 1 1000) fun (y11 : Bool) =>
  (bif (!y11) then
  some false
  else
  k15 (W (x8 + 1)))))
  else
  j20 ())

def M_i_HistOk (x0 : Int × List (List UInt8)) : Option Bool :=
  (bindO (M_i_in x0.1 1 1000000000) fun (y6 : Bool) =>
  (bif (bif (!y6) then true else (decide (60 < (x0.2.length : Int)))) then
  some false
  else
  (joinO (fun (_ : Unit) =>
  some true) fun j20 =>
  (fixF (M_i_HistOk_L1 x0 j20) FUEL 0))))

theorem ok_i_HistOk (x0 : Int × List (List UInt8)) (a2 : Option Addr) (c3 : Nat) (l4 : Nat) (hl5 : x0.2.length = l4) (r : Bool) (h : M_i_HistOk x0 = some r) :
    FC Tryz.prog 96 [.agg #[.int .i64 x0.1, .slice a2 l4 c3]] [⟨.str, ⟨a2, l4, c3⟩, x0.2⟩] (fun _ : Unit => True) (fun _ => .bool r) (fun _ => []) :=
  by
    subst hl5
    refine FC.of (T := TTx) Tryz.call96 Tryz.func96 rfl rfl fun w0 => ?_
    unfold M_i_HistOk at h
    refine JS.rgB ttOk 2 [] [2] [(1, .bp 2 0)] (.new 2 50 [.int .i64 x0.1, .slice a2 x0.2.length c3] .nil) ⟨⟨rfl, trivial⟩, (Bs rfl rfl)⟩ rfl rfl (JS.seq (JS.seq (JS.region (JO.reg ttOk 2 [] [] [(6, .v (.int .i64 x0.1))] _ rfl ⟨⟨rfl, trivial⟩, rfl⟩ ?_))))
    obtain ⟨y6, hy7, h⟩ := bindO_some h
    refine JO.call rfl rfl rfl rfl (ok_i_in x0.1 1 1000000000 _ hy7) rfl [] rfl rfl fun _ _ => JO.reg ttOk 7 [] [] [(14, .v (.bool (bif (!y6) then true else (decide (60 < (x0.2.length : Int))))))] _ rfl ⟨⟨rfl, trivial⟩, rfl⟩ (JO.done rfl ?_)
    refine JS.cond rfl (fun ht30 => ?_) (fun ht30 => ?_)
    · have h := condT h ht30
      refine JS.rg0 ttOk 1 [(2, .v (.bool false))] ⟨⟨rfl, trivial⟩, rfl⟩ rfl rfl ?_
      cases h
      exact JS.ret ttOk () trivial rfl rfl [] rfl
    have h := condF h ht30
    refine JS.skip (JS.seq (JS.rg0 ttOk 4 [(16, .v (.slice a2 x0.2.length c3)), (17, .v (.int .i64 (x0.2.length : Int))), (18, .v (.int .i64 0))] ⟨(Es rfl), rfl⟩ rfl rfl ?_))
    obtain ⟨j20, hj29, h⟩ := joinO_some h
    refine JS.blockJ (ι := Unit) ⟨fun _ => j20 () = some r, fun _ => [], fun _ => .nil, fun _ => [], fun _ => [], fun _ => 0⟩ ?_ ?_
    · refine JS.loop (ι := Nat × Int) ⟨fun z => fixF (M_i_HistOk_L1 x0 j20) z.1 z.2 = some r, fun z => [(16, .v (.slice a2 x0.2.length c3)), (17, .v (.int .i64 (x0.2.length : Int))), (18, .v (.int .i64 z.2))], fun z => .nil, fun z => [⟨.str, ⟨a2, x0.2.length, c3⟩, x0.2⟩], fun z => [], fun z => z.1⟩ (FUEL, 0) h (Es rfl) trivial [0] rfl [] rfl ?_
      rintro ⟨n16, x8⟩ h
      obtain ⟨n16, rfl, h⟩ := fixF_some h
      rw [M_i_HistOk_L1] at h
      refine JS.rg0 ttOk 1 [(19, .v (.bool (decide (x8 < (x0.2.length : Int)))))] ⟨⟨rfl, trivial⟩, rfl⟩ rfl rfl (JS.seq ?_)
      refine JS.cond rfl (fun ht28 => ?_) (fun ht28 => ?_)
      · have h := condT h ht28
        refine JS.skip (JS.seq (JS.block (JS.seq (JS.region (JO.know 0 rfl fun hs26 => ?_)))))
        obtain ⟨g10, h⟩ := guardO_some h
        refine JO.reg ttOk 1 [] [] [(20, .ep ⟨a2, x0.2.length, c3⟩ (Int.toNat x8 * 1))] _ rfl ⟨hs26.ix g10, ⟨rfl, trivial⟩, rfl⟩ (JO.load ttOk rfl rfl rfl rfl rfl rfl rfl 0 rfl rfl (Int.toNat x8) 0 (at' x0.2 x8) ⟨at_some g10, rfl⟩ rfl rfl (JO.reg ttOk 1 [] [] [(4, .v (.string (bs (at' x0.2 x8))))] _ rfl ⟨⟨rfl, trivial⟩, rfl⟩ (JO.done rfl (JS.seq (JS.region (JO.reg ttOk 2 [] [] [(23, .v (.int .i64 ((at' x0.2 x8).length : Int)))] _ rfl ⟨⟨rfl, trivial⟩, rfl⟩ ?_))))))
        obtain ⟨y11, hy12, h⟩ := bindO_some h
        refine JO.call rfl rfl rfl rfl (ok_i_in ((at' x0.2 x8).length : Int) 1 1000 _ hy12) rfl [] rfl rfl fun _ _ => JO.reg ttOk 1 [] [] [(25, .v (.bool (!y11)))] _ rfl ⟨⟨rfl, trivial⟩, rfl⟩ (JO.done rfl ?_)
        refine JS.cond rfl (fun ht27 => ?_) (fun ht27 => ?_)
        · have h := condT h ht27
          refine JS.rg0 ttOk 1 [(2, .v (.bool false))] ⟨⟨rfl, trivial⟩, rfl⟩ rfl rfl ?_
          cases h
          exact JS.ret ttOk () trivial rfl rfl [] rfl
        have h := condF h ht27
        refine JS.skip (JS.endB (JS.re ttOk 2 [(W (x8 + 1))] [] [(18, .v (.int .i64 (W (x8 + 1))))] _ ⟨⟨trivial, rfl⟩, ⟨rfl, trivial⟩, rfl⟩ rfl rfl (JS.endL (n16, (W (x8 + 1))) h (Nat.lt_succ_self _) (Es rfl) trivial [0] rfl [] rfl)))
      have h := condF h ht28
      refine JS.exit rfl (JS.endJ () h trivial trivial [] rfl [] rfl)
    rintro _ h
    subst hj29
    refine JS.rg0 ttOk 1 [(2, .v (.bool true))] ⟨⟨rfl, trivial⟩, rfl⟩ rfl rfl ?_
    cases h
    exact JS.ret ttOk () trivial rfl rfl [] rfl

def M_i_HistGet (x0 : Int × List (List UInt8)) (x1 : Int) : Option (List UInt8 × Bool) :=
  (bindO (M_i_HistOk x0) fun (y7 : Bool) =>
  (callO ((!y7) = false) (M_i_in x1 x0.1 (W ((W (x0.1 + (x0.2.length : Int))) - 1))) false fun (y11 : Bool) =>
  (bif (bif (!y7) then true else (!y11)) then
  some ([], false)
  else
  (guardO (0 ≤ (W (x1 - x0.1)) ∧ (W (x1 - x0.1)) < (x0.2.length : Int)) <|
  some ((at' x0.2 (W (x1 - x0.1))), true)))))

theorem ok_i_HistGet (x0 : Int × List (List UInt8)) (x1 : Int) (a3 : Option Addr) (c4 : Nat) (l5 : Nat) (hl6 : x0.2.length = l5) (r : List UInt8 × Bool) (h : M_i_HistGet x0 x1 = some r) :
    FC Tryz.prog 58 [.agg #[.int .i64 x0.1, .slice a3 l5 c4], .int .i64 x1] [⟨.str, ⟨a3, l5, c4⟩, x0.2⟩] (fun _ : Unit => True) (fun _ => .tuple #[.string (bs r.1), .bool r.2]) (fun _ => []) :=
  by
    subst hl6
    refine FC.of (T := TTx) Tryz.call58 Tryz.func58 rfl rfl fun w0 => ?_
    unfold M_i_HistGet at h
    refine JS.rgB ttOk 3 [] [2] [(2, .bp 2 0)] (.new 2 50 [.int .i64 x0.1, .slice a3 x0.2.length c4] .nil) ⟨⟨rfl, trivial⟩, (Bs rfl rfl)⟩ rfl rfl (JS.seq (JS.seq (JS.region (JO.reg ttOk 1 [] [] [(6, .v (.agg #[.int .i64 x0.1, .slice a3 x0.2.length c4]))] _ rfl ⟨⟨rfl, trivial⟩, rfl⟩ ?_))))
    obtain ⟨y7, hy8, h⟩ := bindO_some h
    refine JO.call rfl rfl rfl rfl (ok_i_HistOk x0 a3 c4 x0.2.length rfl _ hy8) rfl [0] rfl rfl fun _ _ => JO.reg ttOk 12 [(W (x0.1 + (x0.2.length : Int))), (W ((W (x0.1 + (x0.2.length : Int))) - 1))] [] [(9, .v (.bool (!y7))), (10, .cd [(9, false)] (.v (.int .i64 x1))), (12, .cd [(9, false)] (.v (.int .i64 x0.1))), (19, .cd [(9, false)] (.v (.int .i64 (W ((W (x0.1 + (x0.2.length : Int))) - 1)))))] _ rfl ⟨(fun q17 => ⟨trivial, rfl⟩), (fun q18 => ⟨trivial, rfl⟩), (Es rfl), rfl⟩ ?_
    obtain ⟨y11, hy12, -, h⟩ := callO_some h
    refine JO.callg rfl rfl rfl rfl (fun q19 => ok_i_in x1 x0.1 (W ((W (x0.1 + (x0.2.length : Int))) - 1)) _ (hy12 q19)) rfl [] rfl rfl (JO.reg ttOk 2 [] [] [(22, .v (.bool (bif (!y7) then true else (!y11))))] _ rfl ⟨⟨rfl, trivial⟩, rfl⟩ (JO.done rfl ?_))
    refine JS.cond rfl (fun ht21 => ?_) (fun ht21 => ?_)
    · have h := condT h ht21
      refine JS.rg0 ttOk 2 [(4, .v (.string (bs []))), (5, .v (.bool false))] ⟨(Es rfl), rfl⟩ rfl rfl ?_
      cases h
      exact JS.ret ttOk () trivial rfl rfl [] rfl
    have h := condF h ht21
    refine JS.skip (JS.seq (JS.region (JO.know 0 rfl fun hs20 => ?_)))
    obtain ⟨g15, h⟩ := guardO_some h
    refine JO.reg ttOk 7 [(W (x1 - x0.1))] [] [(29, .ep ⟨a3, x0.2.length, c4⟩ (Int.toNat (W (x1 - x0.1)) * 1))] _ rfl ⟨⟨trivial, rfl⟩, hs20.ix g15, ⟨rfl, trivial⟩, rfl⟩ (JO.load ttOk rfl rfl rfl rfl rfl rfl rfl 0 rfl rfl (Int.toNat (W (x1 - x0.1))) 0 (at' x0.2 (W (x1 - x0.1))) ⟨at_some g15, rfl⟩ rfl rfl (JO.reg ttOk 2 [] [] [(4, .v (.string (bs (at' x0.2 (W (x1 - x0.1)))))), (5, .v (.bool true))] _ rfl ⟨(Es rfl), rfl⟩ (JO.done rfl ?_)))
    cases h
    exact JS.ret ttOk () trivial rfl rfl [] rfl

def M_i_RuneBytes (x0 : Int) : Option (List UInt8) :=
  (bindO (M_i_RuneOk x0) fun (y2 : Bool) =>
  (bif (!y2) then
  some ([])
  else
  (bif (decide (x0 < 128)) then
  some ([(u8 (x0))] : List UInt8)
  else
  (bif (decide (x0 < 2048)) then
  some ([(u8 ((W (192 + (W (Int.tdiv x0 64)))))), (u8 ((W (128 + (Int.tmod x0 64)))))] : List UInt8)
  else
  (bif (decide (x0 < 65536)) then
  some ([(u8 ((W (224 + (W (Int.tdiv x0 4096)))))), (u8 ((W (128 + (Int.tmod (W (Int.tdiv x0 64)) 64))))), (u8 ((W (128 + (Int.tmod x0 64)))))] : List UInt8)
  else
  some ([(u8 ((W (240 + (W (Int.tdiv x0 262144)))))), (u8 ((W (128 + (Int.tmod (W (Int.tdiv x0 4096)) 64))))), (u8 ((W (128 + (Int.tmod (W (Int.tdiv x0 64)) 64))))), (u8 ((W (128 + (Int.tmod x0 64)))))] : List UInt8))))))

theorem ok_i_RuneBytes (x0 : Int) (r : List UInt8) (h : M_i_RuneBytes x0 = some r) :
    FC Tryz.prog 143 [.int .i64 x0] [] (fun _ : Option Addr × Nat => True) (fun q => .slice q.1 r.length q.2) (fun q => [⟨.byte, ⟨q.1, r.length, q.2⟩, r⟩]) :=
  by
    refine FC.of (T := TTx) Tryz.call143 Tryz.func143 rfl rfl fun w0 => ?_
    unfold M_i_RuneBytes at h
    refine JS.rg0 ttOk 1 [] ⟨trivial, rfl⟩ rfl rfl (JS.seq (JS.block (JS.seq (JS.region (JO.reg ttOk 1 [] [] [(4, .v (.int .i64 x0))] _ rfl ⟨⟨rfl, trivial⟩, rfl⟩ ?_)))))
    obtain ⟨y2, hy3, h⟩ := bindO_some h
    refine JO.call rfl rfl rfl rfl (ok_i_RuneOk x0 _ hy3) rfl [] rfl rfl fun _ _ => JO.reg ttOk 2 [] [] [(3, .v (.bool (!y2)))] _ rfl ⟨⟨rfl, trivial⟩, rfl⟩ (JO.done rfl ?_)
    refine JS.cond rfl (fun ht27 => ?_) (fun ht27 => ?_)
    · have h := condT h ht27
      refine JS.rg0 ttOk 1 [(2, .v (.slice none 0 0))] ⟨⟨rfl, trivial⟩, rfl⟩ rfl rfl ?_
      cases h
      refine JS.nilO .byte Sl.nil rfl rfl (JS.ret ttOk (none, 0) trivial rfl rfl [0] rfl)
    have h := condF h ht27
    refine JS.rg0 ttOk 3 [(7, .v (.bool (decide (x0 < 128))))] ⟨⟨rfl, trivial⟩, rfl⟩ rfl rfl ?_
    refine JS.cond rfl (fun ht26 => ?_) (fun ht26 => ?_)
    · have h := condT h ht26
      refine JS.seq (JS.region (JO.reg ttOk 2 [((u8 (x0)).toNat : Int)] [] [(11, .v (.int .u8 ((u8 (x0)).toNat : Int)))] _ rfl ⟨⟨trivial, u8_wrap _⟩, ⟨rfl, trivial⟩, rfl⟩ ?_))
      refine JO.ofK rfl (JK.buildSlice ttOk rfl rfl rfl rfl rfl rfl rfl rfl rfl rfl rfl [] rfl .byte [(u8 (x0))] ⟨rfl, rfl⟩ rfl rfl fun a4 => JO.toK ?_)
      refine JO.reg ttOk 1 [] [] [(2, .v (.slice a4 ([(u8 (x0))] : List UInt8).length ([(u8 (x0))] : List UInt8).length))] _ rfl ⟨⟨rfl, trivial⟩, rfl⟩ (JO.done rfl ?_)
      cases h
      exact JS.ret ttOk (a4, ([(u8 (x0))] : List UInt8).length) trivial rfl rfl [0] rfl
    have h := condF h ht26
    refine JS.rg0 ttOk 3 [(13, .v (.bool (decide (x0 < 2048))))] ⟨⟨rfl, trivial⟩, rfl⟩ rfl rfl ?_
    refine JS.cond rfl (fun ht25 => ?_) (fun ht25 => ?_)
    · have h := condT h ht25
      refine JS.seq (JS.region ?_)
      have g5 : (64 : Int) ≠ 0 := by decide
      have g6 : (64 : Int) ≠ 0 := by decide
      refine JO.reg ttOk 8 [(W (Int.tdiv x0 64)), (W (192 + (W (Int.tdiv x0 64)))), ((u8 ((W (192 + (W (Int.tdiv x0 64)))))).toNat : Int), (W (128 + (Int.tmod x0 64))), ((u8 ((W (128 + (Int.tmod x0 64))))).toNat : Int)] [] [(19, .v (.int .u8 ((u8 ((W (192 + (W (Int.tdiv x0 64)))))).toNat : Int))), (23, .v (.int .u8 ((u8 ((W (128 + (Int.tmod x0 64))))).toNat : Int)))] _ rfl ⟨⟨g5, rfl⟩, ⟨trivial, rfl⟩, ⟨trivial, u8_wrap _⟩, g6, ⟨trivial, rfl⟩, ⟨trivial, u8_wrap _⟩, (Es rfl), rfl⟩ ?_
      refine JO.ofK rfl (JK.buildSlice ttOk rfl rfl rfl rfl rfl rfl rfl rfl rfl rfl rfl [] rfl .byte [(u8 ((W (192 + (W (Int.tdiv x0 64)))))), (u8 ((W (128 + (Int.tmod x0 64)))))] ⟨rfl, rfl⟩ rfl rfl fun a7 => JO.toK ?_)
      refine JO.reg ttOk 1 [] [] [(2, .v (.slice a7 ([(u8 ((W (192 + (W (Int.tdiv x0 64)))))), (u8 ((W (128 + (Int.tmod x0 64)))))] : List UInt8).length ([(u8 ((W (192 + (W (Int.tdiv x0 64)))))), (u8 ((W (128 + (Int.tmod x0 64)))))] : List UInt8).length))] _ rfl ⟨⟨rfl, trivial⟩, rfl⟩ (JO.done rfl ?_)
      cases h
      exact JS.ret ttOk (a7, ([(u8 ((W (192 + (W (Int.tdiv x0 64)))))), (u8 ((W (128 + (Int.tmod x0 64)))))] : List UInt8).length) trivial rfl rfl [0] rfl
    have h := condF h ht25
    refine JS.rg0 ttOk 3 [(25, .v (.bool (decide (x0 < 65536))))] ⟨⟨rfl, trivial⟩, rfl⟩ rfl rfl ?_
    refine JS.cond rfl (fun ht24 => ?_) (fun ht24 => ?_)
    · have h := condT h ht24
      refine JS.seq (JS.region ?_)
      have g8 : (4096 : Int) ≠ 0 := by decide
      have g9 : (64 : Int) ≠ 0 := by decide
      have g10 : (64 : Int) ≠ 0 := by decide
      have g11 : (64 : Int) ≠ 0 := by decide
      refine JO.reg ttOk 13 [(W (Int.tdiv x0 4096)), (W (224 + (W (Int.tdiv x0 4096)))), ((u8 ((W (224 + (W (Int.tdiv x0 4096)))))).toNat : Int), (W (Int.tdiv x0 64)), (W (128 + (Int.tmod (W (Int.tdiv x0 64)) 64))), ((u8 ((W (128 + (Int.tmod (W (Int.tdiv x0 64)) 64))))).toNat : Int), (W (128 + (Int.tmod x0 64))), ((u8 ((W (128 + (Int.tmod x0 64))))).toNat : Int)] [] [(31, .v (.int .u8 ((u8 ((W (224 + (W (Int.tdiv x0 4096)))))).toNat : Int))), (36, .v (.int .u8 ((u8 ((W (128 + (Int.tmod (W (Int.tdiv x0 64)) 64))))).toNat : Int))), (40, .v (.int .u8 ((u8 ((W (128 + (Int.tmod x0 64))))).toNat : Int)))] _ rfl ⟨⟨g8, rfl⟩, ⟨trivial, rfl⟩, ⟨trivial, u8_wrap _⟩, ⟨g9, rfl⟩, g10, ⟨trivial, rfl⟩, ⟨trivial, u8_wrap _⟩, g11, ⟨trivial, rfl⟩, ⟨trivial, u8_wrap _⟩, (Es rfl), rfl⟩ ?_
      refine JO.ofK rfl (JK.buildSlice ttOk rfl rfl rfl rfl rfl rfl rfl rfl rfl rfl rfl [] rfl .byte [(u8 ((W (224 + (W (Int.tdiv x0 4096)))))), (u8 ((W (128 + (Int.tmod (W (Int.tdiv x0 64)) 64))))), (u8 ((W (128 + (Int.tmod x0 64)))))] ⟨rfl, rfl⟩ rfl rfl fun a12 => JO.toK ?_)
      refine JO.reg ttOk 1 [] [] [(2, .v (.slice a12 ([(u8 ((W (224 + (W (Int.tdiv x0 4096)))))), (u8 ((W (128 + (Int.tmod (W (Int.tdiv x0 64)) 64))))), (u8 ((W (128 + (Int.tmod x0 64)))))] : List UInt8).length ([(u8 ((W (224 + (W (Int.tdiv x0 4096)))))), (u8 ((W (128 + (Int.tmod (W (Int.tdiv x0 64)) 64))))), (u8 ((W (128 + (Int.tmod x0 64)))))] : List UInt8).length))] _ rfl ⟨⟨rfl, trivial⟩, rfl⟩ (JO.done rfl ?_)
      cases h
      exact JS.ret ttOk (a12, ([(u8 ((W (224 + (W (Int.tdiv x0 4096)))))), (u8 ((W (128 + (Int.tmod (W (Int.tdiv x0 64)) 64))))), (u8 ((W (128 + (Int.tmod x0 64)))))] : List UInt8).length) trivial rfl rfl [0] rfl
    have h := condF h ht24
    refine JS.skip (JS.endB (JS.seq (JS.region ?_)))
    have g13 : (262144 : Int) ≠ 0 := by decide
    have g14 : (4096 : Int) ≠ 0 := by decide
    have g15 : (64 : Int) ≠ 0 := by decide
    have g16 : (64 : Int) ≠ 0 := by decide
    have g17 : (64 : Int) ≠ 0 := by decide
    have g18 : (64 : Int) ≠ 0 := by decide
    refine JO.reg ttOk 18 [(W (Int.tdiv x0 262144)), (W (240 + (W (Int.tdiv x0 262144)))), ((u8 ((W (240 + (W (Int.tdiv x0 262144)))))).toNat : Int), (W (Int.tdiv x0 4096)), (W (128 + (Int.tmod (W (Int.tdiv x0 4096)) 64))), ((u8 ((W (128 + (Int.tmod (W (Int.tdiv x0 4096)) 64))))).toNat : Int), (W (Int.tdiv x0 64)), (W (128 + (Int.tmod (W (Int.tdiv x0 64)) 64))), ((u8 ((W (128 + (Int.tmod (W (Int.tdiv x0 64)) 64))))).toNat : Int), (W (128 + (Int.tmod x0 64))), ((u8 ((W (128 + (Int.tmod x0 64))))).toNat : Int)] [] [(45, .v (.int .u8 ((u8 ((W (240 + (W (Int.tdiv x0 262144)))))).toNat : Int))), (50, .v (.int .u8 ((u8 ((W (128 + (Int.tmod (W (Int.tdiv x0 4096)) 64))))).toNat : Int))), (55, .v (.int .u8 ((u8 ((W (128 + (Int.tmod (W (Int.tdiv x0 64)) 64))))).toNat : Int))), (59, .v (.int .u8 ((u8 ((W (128 + (Int.tmod x0 64))))).toNat : Int)))] _ rfl ⟨⟨g13, rfl⟩, ⟨trivial, rfl⟩, ⟨trivial, u8_wrap _⟩, ⟨g14, rfl⟩, g15, ⟨trivial, rfl⟩, ⟨trivial, u8_wrap _⟩, ⟨g16, rfl⟩, g17, ⟨trivial, rfl⟩, ⟨trivial, u8_wrap _⟩, g18, ⟨trivial, rfl⟩, ⟨trivial, u8_wrap _⟩, (Es rfl), rfl⟩ ?_
    refine JO.ofK rfl (JK.buildSlice ttOk rfl rfl rfl rfl rfl rfl rfl rfl rfl rfl rfl [] rfl .byte [(u8 ((W (240 + (W (Int.tdiv x0 262144)))))), (u8 ((W (128 + (Int.tmod (W (Int.tdiv x0 4096)) 64))))), (u8 ((W (128 + (Int.tmod (W (Int.tdiv x0 64)) 64))))), (u8 ((W (128 + (Int.tmod x0 64)))))] ⟨rfl, rfl⟩ rfl rfl fun a19 => JO.toK ?_)
    refine JO.reg ttOk 1 [] [] [(2, .v (.slice a19 ([(u8 ((W (240 + (W (Int.tdiv x0 262144)))))), (u8 ((W (128 + (Int.tmod (W (Int.tdiv x0 4096)) 64))))), (u8 ((W (128 + (Int.tmod (W (Int.tdiv x0 64)) 64))))), (u8 ((W (128 + (Int.tmod x0 64)))))] : List UInt8).length ([(u8 ((W (240 + (W (Int.tdiv x0 262144)))))), (u8 ((W (128 + (Int.tmod (W (Int.tdiv x0 4096)) 64))))), (u8 ((W (128 + (Int.tmod (W (Int.tdiv x0 64)) 64))))), (u8 ((W (128 + (Int.tmod x0 64)))))] : List UInt8).length))] _ rfl ⟨⟨rfl, trivial⟩, rfl⟩ (JO.done rfl ?_)
    cases h
    exact JS.ret ttOk (a19, ([(u8 ((W (240 + (W (Int.tdiv x0 262144)))))), (u8 ((W (128 + (Int.tmod (W (Int.tdiv x0 4096)) 64))))), (u8 ((W (128 + (Int.tmod (W (Int.tdiv x0 64)) 64))))), (u8 ((W (128 + (Int.tmod x0 64)))))] : List UInt8).length) trivial rfl rfl [0] rfl

def M_i_RuneRead_L1 (x0 : List UInt8) (x1 : Int) (x19 : Int) (j39 : Int → Option (Int × Int)) (k34 : (Int × Int) → Option (Int × Int)) : (Int × Int) → Option (Int × Int) := fun (x29, x30) =>
  (bif (decide (x30 < ((sub' x0 (W (x1 + 1)) (W (x1 + x19))).length : Int))) then
  (guardO (0 ≤ x30 ∧ x30 < ((sub' x0 (W (x1 + 1)) (W (x1 + x19))).length : Int)) <|
  k34 ((W ((W ((W (x29 * 64)) + ((at' (sub' x0 (W (x1 + 1)) (W (x1 + x19))) x30).toNat : Int))) - 128)), (W (x30 + 1))))
  else
  j39 x29)

def M_i_RuneRead (x0 : List UInt8) (x1 : Int) : Option (Int × Int) :=
  (bif (bif (decide (x1 < 0)) then true else (decide ((x0.length : Int) ≤ x1))) then
  some (0, 0)
  else
  (guardO (0 ≤ x1 ∧ x1 < (x0.length : Int)) <|
  (joinO (fun ((x19, x20) : Int × Int) =>
  (bif (decide ((W ((x0.length : Int) - x19)) < x1)) then
  some (0, 0)
  else
  (guardO (0 ≤ (W (x1 + 1)) ∧ (W (x1 + 1)) ≤ (W (x1 + x19)) ∧ (W (x1 + x19)) ≤ (x0.length : Int)) <|
  (joinO (fun (x38 : Int) =>
  (bindO (M_i_RuneBytes x38) fun (y42 : List UInt8) =>
  (guardO (0 ≤ x1 ∧ x1 ≤ (W (x1 + x19)) ∧ (W (x1 + x19)) ≤ (x0.length : Int)) <|
  (bif (!(decide (y42 = (sub' x0 x1 (W (x1 + x19)))))) then
  some (0, 0)
  else
  some (x38, x19))))) fun j39 =>
  (fixF (M_i_RuneRead_L1 x0 x1 x19 j39) FUEL (x20, 0)))))) fun j21 =>
  (bif (decide (((at' x0 x1).toNat : Int) < 128)) then
  some (((at' x0 x1).toNat : Int), 1)
  else
  (bindO (M_i_in ((at' x0 x1).toNat : Int) 192 223) fun (y9 : Bool) =>
  (bif y9 then
  j21 (2, (W (((at' x0 x1).toNat : Int) - 192)))
  else
  (bindO (M_i_in ((at' x0 x1).toNat : Int) 224 239) fun (y11 : Bool) =>
  (bif y11 then
  j21 (3, (W (((at' x0 x1).toNat : Int) - 224)))
  else
  (bindO (M_i_in ((at' x0 x1).toNat : Int) 240 247) fun (y13 : Bool) =>
  (bif y13 then
  j21 (4, (W (((at' x0 x1).toNat : Int) - 240)))
  else
  some (0, 0)))))))))))

theorem ok_i_RuneRead (x0 : List UInt8) (x1 : Int) (a3 : Option Addr) (c4 : Nat) (l5 : Nat) (hl6 : x0.length = l5) (r : Int × Int) (h : M_i_RuneRead x0 x1 = some r) :
    FC Tryz.prog 144 [.slice a3 l5 c4, .int .i64 x1] [⟨.byte, ⟨a3, l5, c4⟩, x0⟩] (fun _ : Unit => True) (fun _ => .tuple #[.int .i64 r.1, .int .i64 r.2]) (fun _ => []) :=
  by
    subst hl6
    refine FC.of (T := TTx) Tryz.call144 Tryz.func144 rfl rfl fun w0 => ?_
    unfold M_i_RuneRead at h
    refine JS.rg0 ttOk 2 [] ⟨trivial, rfl⟩ rfl rfl (JS.seq (JS.rg0 ttOk 8 [(18, .v (.bool (bif (decide (x1 < 0)) then true else (decide ((x0.length : Int) ≤ x1)))))] ⟨⟨rfl, trivial⟩, rfl⟩ rfl rfl ?_))
    refine JS.cond rfl (fun ht73 => ?_) (fun ht73 => ?_)
    · have h := condT h ht73
      refine JS.rg0 ttOk 2 [(4, .v (.int .i64 0)), (5, .v (.int .i64 0))] ⟨(Es rfl), rfl⟩ rfl rfl ?_
      cases h
      exact JS.ret ttOk () trivial rfl rfl [] rfl
    have h := condF h ht73
    refine JS.skip (JS.seq (JS.region (JO.know 0 rfl fun hs59 => ?_)))
    obtain ⟨g8, h⟩ := guardO_some h
    refine JO.reg ttOk 3 [] [] [(21, .ep ⟨a3, x0.length, c4⟩ (Int.toNat x1 * 1))] _ rfl ⟨hs59.ix g8, ⟨rfl, trivial⟩, rfl⟩ (JO.load ttOk rfl rfl rfl rfl rfl rfl rfl 0 rfl rfl (Int.toNat x1) 0 (at' x0 x1) ⟨at_some g8, rfl⟩ rfl rfl (JO.reg ttOk 2 [((at' x0 x1).toNat : Int)] [] [(6, .v (.int .i64 ((at' x0 x1).toNat : Int)))] _ rfl ⟨⟨trivial, W_byte _⟩, ⟨rfl, trivial⟩, rfl⟩ (JO.done rfl (JS.rg0 ttOk 2 [] ⟨trivial, rfl⟩ rfl rfl (JS.seq ?_)))))
    obtain ⟨j21, hj72, h⟩ := joinO_some h
    refine JS.blockJ (ι := Int × Int) ⟨fun z => j21 (z.1, z.2) = some r, fun z => [(0, .v (.slice a3 x0.length c4)), (1, .v (.int .i64 x1)), (7, .v (.int .i64 z.1)), (8, .v (.int .i64 z.2))], fun z => .nil, fun z => [⟨.byte, ⟨a3, x0.length, c4⟩, x0⟩], fun z => [], fun z => 0⟩ ?_ ?_
    · refine JS.rg0 ttOk 3 [(24, .v (.bool (decide (((at' x0 x1).toNat : Int) < 128))))] ⟨⟨rfl, trivial⟩, rfl⟩ rfl rfl ?_
      refine JS.cond rfl (fun ht63 => ?_) (fun ht63 => ?_)
      · have h := condT h ht63
        refine JS.rg0 ttOk 3 [(4, .v (.int .i64 ((at' x0 x1).toNat : Int))), (5, .v (.int .i64 1))] ⟨(Es rfl), rfl⟩ rfl rfl ?_
        cases h
        exact JS.ret ttOk () trivial rfl rfl [] rfl
      have h := condF h ht63
      refine JS.seq (JS.region (JO.reg ttOk 1 [] [] [(29, .v (.int .i64 ((at' x0 x1).toNat : Int)))] _ rfl ⟨⟨rfl, trivial⟩, rfl⟩ ?_))
      obtain ⟨y9, hy10, h⟩ := bindO_some h
      refine JO.call rfl rfl rfl rfl (ok_i_in ((at' x0 x1).toNat : Int) 192 223 _ hy10) rfl [] rfl rfl fun _ _ => JO.reg ttOk 1 [] [] [(28, .v (.bool y9))] _ rfl ⟨⟨rfl, trivial⟩, rfl⟩ (JO.done rfl ?_)
      refine JS.cond rfl (fun ht62 => ?_) (fun ht62 => ?_)
      · have h := condT h ht62
        refine JS.re ttOk 4 [(W (((at' x0 x1).toNat : Int) - 192))] [] [(7, .v (.int .i64 2)), (8, .v (.int .i64 (W (((at' x0 x1).toNat : Int) - 192))))] _ ⟨⟨trivial, rfl⟩, (Es rfl), rfl⟩ rfl rfl (JS.endB (JS.endJ (2, (W (((at' x0 x1).toNat : Int) - 192))) h (Es rfl) trivial [0] rfl [] rfl))
      have h := condF h ht62
      refine JS.seq (JS.region (JO.reg ttOk 1 [] [] [(34, .v (.int .i64 ((at' x0 x1).toNat : Int)))] _ rfl ⟨⟨rfl, trivial⟩, rfl⟩ ?_))
      obtain ⟨y11, hy12, h⟩ := bindO_some h
      refine JO.call rfl rfl rfl rfl (ok_i_in ((at' x0 x1).toNat : Int) 224 239 _ hy12) rfl [] rfl rfl fun _ _ => JO.reg ttOk 1 [] [] [(33, .v (.bool y11))] _ rfl ⟨⟨rfl, trivial⟩, rfl⟩ (JO.done rfl ?_)
      refine JS.cond rfl (fun ht61 => ?_) (fun ht61 => ?_)
      · have h := condT h ht61
        refine JS.re ttOk 4 [(W (((at' x0 x1).toNat : Int) - 224))] [] [(7, .v (.int .i64 3)), (8, .v (.int .i64 (W (((at' x0 x1).toNat : Int) - 224))))] _ ⟨⟨trivial, rfl⟩, (Es rfl), rfl⟩ rfl rfl (JS.endB (JS.endJ (3, (W (((at' x0 x1).toNat : Int) - 224))) h (Es rfl) trivial [0] rfl [] rfl))
      have h := condF h ht61
      refine JS.seq (JS.region (JO.reg ttOk 1 [] [] [(39, .v (.int .i64 ((at' x0 x1).toNat : Int)))] _ rfl ⟨⟨rfl, trivial⟩, rfl⟩ ?_))
      obtain ⟨y13, hy14, h⟩ := bindO_some h
      refine JO.call rfl rfl rfl rfl (ok_i_in ((at' x0 x1).toNat : Int) 240 247 _ hy14) rfl [] rfl rfl fun _ _ => JO.reg ttOk 1 [] [] [(38, .v (.bool y13))] _ rfl ⟨⟨rfl, trivial⟩, rfl⟩ (JO.done rfl ?_)
      refine JS.cond rfl (fun ht60 => ?_) (fun ht60 => ?_)
      · have h := condT h ht60
        refine JS.re ttOk 4 [(W (((at' x0 x1).toNat : Int) - 240))] [] [(7, .v (.int .i64 4)), (8, .v (.int .i64 (W (((at' x0 x1).toNat : Int) - 240))))] _ ⟨⟨trivial, rfl⟩, (Es rfl), rfl⟩ rfl rfl (JS.endB (JS.endJ (4, (W (((at' x0 x1).toNat : Int) - 240))) h (Es rfl) trivial [0] rfl [] rfl))
      have h := condF h ht60
      refine JS.rg0 ttOk 2 [(4, .v (.int .i64 0)), (5, .v (.int .i64 0))] ⟨(Es rfl), rfl⟩ rfl rfl ?_
      cases h
      exact JS.ret ttOk () trivial rfl rfl [] rfl
    rintro ⟨x19, x20⟩ h
    subst hj72
    refine JS.seq (JS.rg ttOk 6 [(W ((x0.length : Int) - x19))] [] [(48, .v (.bool (decide ((W ((x0.length : Int) - x19)) < x1))))] _ ⟨⟨trivial, rfl⟩, ⟨rfl, trivial⟩, rfl⟩ rfl rfl ?_)
    refine JS.cond rfl (fun ht71 => ?_) (fun ht71 => ?_)
    · have h := condT h ht71
      refine JS.rg0 ttOk 2 [(4, .v (.int .i64 0)), (5, .v (.int .i64 0))] ⟨(Es rfl), rfl⟩ rfl rfl ?_
      cases h
      exact JS.ret ttOk () trivial rfl rfl [] rfl
    have h := condF h ht71
    refine JS.skip (JS.seq (JS.seq (JS.region (JO.reg ttOk 6 [(W (x1 + 1)), (W (x1 + x19))] [] [(49, .v (.slice a3 x0.length c4)), (51, .v (.int .i64 (W (x1 + 1)))), (54, .v (.int .i64 (W (x1 + x19))))] _ rfl ⟨⟨trivial, rfl⟩, ⟨trivial, rfl⟩, (Es rfl), rfl⟩ ?_))))
    obtain ⟨g26, h⟩ := guardO_some h
    refine JO.sliceR' ttOk rfl rfl rfl rfl rfl rfl rfl rfl 0 rfl (W (x1 + 1)) (W (x1 + x19)) rfl rfl g26 rfl fun a27 c28 => JO.reg ttOk 2 [] [] [(56, .v (.int .i64 ((sub' x0 (W (x1 + 1)) (W (x1 + x19))).length : Int))), (57, .v (.int .i64 0))] _ rfl ⟨(Es rfl), rfl⟩ (JO.done rfl ?_)
    obtain ⟨j39, hj70, h⟩ := joinO_some h
    refine JS.blockJ (ι := Int) ⟨fun z => j39 z = some r, fun z => [(0, .v (.slice a3 x0.length c4)), (1, .v (.int .i64 x1)), (7, .v (.int .i64 x19)), (8, .v (.int .i64 z))], fun z => .nil, fun z => [⟨.byte, ⟨a3, x0.length, c4⟩, x0⟩], fun z => [], fun z => 0⟩ ?_ ?_
    · refine JS.loop (ι := Nat × Int × Int) ⟨fun z => fixF (M_i_RuneRead_L1 x0 x1 x19 j39) z.1 (z.2.1, z.2.2) = some r, fun z => [(0, .v (.slice a3 x0.length c4)), (1, .v (.int .i64 x1)), (7, .v (.int .i64 x19)), (8, .v (.int .i64 z.2.1)), (55, .v (.slice a27 (sub' x0 (W (x1 + 1)) (W (x1 + x19))).length c28)), (56, .v (.int .i64 ((sub' x0 (W (x1 + 1)) (W (x1 + x19))).length : Int))), (57, .v (.int .i64 z.2.2))], fun z => .nil, fun z => [⟨.byte, ⟨a3, x0.length, c4⟩, x0⟩, ⟨.byte, ⟨a27, (sub' x0 (W (x1 + 1)) (W (x1 + x19))).length, c28⟩, (sub' x0 (W (x1 + 1)) (W (x1 + x19)))⟩], fun z => [], fun z => z.1⟩ (FUEL, x20, 0) h (Es rfl) trivial [1, 0] rfl [] rfl ?_
      rintro ⟨n35, x29, x30⟩ h
      obtain ⟨n35, rfl, h⟩ := fixF_some h
      rw [M_i_RuneRead_L1] at h
      refine JS.rg0 ttOk 1 [(58, .v (.bool (decide (x30 < ((sub' x0 (W (x1 + 1)) (W (x1 + x19))).length : Int)))))] ⟨⟨rfl, trivial⟩, rfl⟩ rfl rfl (JS.seq ?_)
      refine JS.cond rfl (fun ht65 => ?_) (fun ht65 => ?_)
      · have h := condT h ht65
        refine JS.skip (JS.seq (JS.block (JS.seq (JS.region (JO.know 1 rfl fun hs64 => ?_)))))
        obtain ⟨g32, h⟩ := guardO_some h
        refine JO.reg ttOk 1 [] [] [(59, .ep ⟨a27, (sub' x0 (W (x1 + 1)) (W (x1 + x19))).length, c28⟩ (Int.toNat x30 * 1))] _ rfl ⟨hs64.ix g32, ⟨rfl, trivial⟩, rfl⟩ (JO.load ttOk rfl rfl rfl rfl rfl rfl rfl 1 rfl rfl (Int.toNat x30) 0 (at' (sub' x0 (W (x1 + 1)) (W (x1 + x19))) x30) ⟨at_some g32, rfl⟩ rfl rfl (JO.reg ttOk 1 [] [] [(10, .v (.int .u8 ((at' (sub' x0 (W (x1 + 1)) (W (x1 + x19))) x30).toNat : Int)))] _ rfl ⟨⟨rfl, trivial⟩, rfl⟩ (JO.done rfl (JS.re ttOk 7 [(W (x29 * 64)), ((at' (sub' x0 (W (x1 + 1)) (W (x1 + x19))) x30).toNat : Int), (W ((W (x29 * 64)) + ((at' (sub' x0 (W (x1 + 1)) (W (x1 + x19))) x30).toNat : Int))), (W ((W ((W (x29 * 64)) + ((at' (sub' x0 (W (x1 + 1)) (W (x1 + x19))) x30).toNat : Int))) - 128))] [] [(8, .v (.int .i64 (W ((W ((W (x29 * 64)) + ((at' (sub' x0 (W (x1 + 1)) (W (x1 + x19))) x30).toNat : Int))) - 128))))] _ ⟨⟨trivial, rfl⟩, ⟨trivial, W_byte _⟩, ⟨trivial, rfl⟩, ⟨trivial, rfl⟩, ⟨rfl, trivial⟩, rfl⟩ rfl rfl (JS.endB (JS.re ttOk 2 [(W (x30 + 1))] [] [(57, .v (.int .i64 (W (x30 + 1))))] _ ⟨⟨trivial, rfl⟩, ⟨rfl, trivial⟩, rfl⟩ rfl rfl (JS.endL (n35, (W ((W ((W (x29 * 64)) + ((at' (sub' x0 (W (x1 + 1)) (W (x1 + x19))) x30).toNat : Int))) - 128)), (W (x30 + 1))) h (Nat.lt_succ_self _) (Es rfl) trivial [0, 1] rfl [] rfl)))))))
      have h := condF h ht65
      refine JS.exit rfl (JS.endJ x29 h (Es rfl) trivial [0] rfl [] rfl)
    rintro x38 h
    subst hj70
    refine JS.seq (JS.seq ?_)
    obtain ⟨y42, hy43, h⟩ := bindO_some h
    obtain ⟨g46, h⟩ := guardO_some h
    refine JS.subR 0 rfl x1 (W (x1 + x19)) fun a47 c48 hu49 => JS.know 1 rfl fun hs68 => ?_
    refine JS.regionA rfl .nil [0] [10] trivial rfl (fun be53 => ?_)
    refine JA.reg ttOk panic_cx true 5 [0, 3, 4, 5, 6, 7] rfl (by kernel_rfl) [(W (x1 + x19))] [(68, .v (.int .i64 x38)), (71, .v (.slice a3 x0.length c4)), (72, .v (.int .i64 x1)), (75, .v (.int .i64 (W (x1 + x19))))] trivial [0] rfl rfl ⟨⟨trivial, rfl⟩, (Es rfl)⟩ (JA.sliceP ttOk panic_cx 8 rfl (by kernel_rfl) rfl rfl rfl rfl rfl rfl x1 (W (x1 + x19)) rfl rfl ⟨g46.1, g46.2.1, g46.2.2, hs68.cap, hu49 g46⟩ rfl (JA.strOf ttOk panic_cx 9 rfl (by kernel_rfl) rfl rfl rfl rfl rfl rfl rfl 0 rfl rfl trivial [0] rfl (JA.one 1 (by kernel_rfl) (JK.call rfl rfl rfl rfl (ok_i_RuneBytes x38 _ hy43) rfl [] rfl rfl ?_))))
    rintro ⟨a44, c45⟩ -
    refine JA.next trivial [0] rfl (JA.one 2 (by kernel_rfl) (JK.strOf ttOk rfl rfl rfl rfl rfl rfl rfl rfl 2 rfl rfl (JA.next trivial [0] rfl (JA.regL ttOk panic_cx 0 [10] rfl (by kernel_rfl) [] [(78, .v (.bool (!(decide (y42 = (sub' x0 x1 (W (x1 + x19))))))))] rfl ⟨rfl, trivial⟩ (JA.done (by kernel_rfl) (JS.boxes (B' := .nil) trivial ?_))))))
    refine JS.cond rfl (fun ht69 => ?_) (fun ht69 => ?_)
    · have h := condT h ht69
      refine JS.rg0 ttOk 2 [(4, .v (.int .i64 0)), (5, .v (.int .i64 0))] ⟨(Es rfl), rfl⟩ rfl rfl ?_
      cases h
      exact JS.ret ttOk () trivial rfl rfl [] rfl
    have h := condF h ht69
    refine JS.skip (JS.rg0 ttOk 4 [(4, .v (.int .i64 x38)), (5, .v (.int .i64 x19))] ⟨(Es rfl), rfl⟩ rfl rfl ?_)
    cases h
    exact JS.ret ttOk () trivial rfl rfl [] rfl

def M_i_RunesOf_L1 (x0 : List UInt8) (j29 : (List Int) → Option (List Int × Bool)) (k22 : (List Int × Int) → Option (List Int × Bool)) : (List Int × Int) → Option (List Int × Bool) := fun (x4, x10) =>
  (bif (decide (x10 < (x0.length : Int))) then
  (bindO (M_i_RuneRead x0 x10) fun (y11, y12) =>
  (bif (decide (y12 = 0)) then
  some ([], false)
  else
  (guardO (x4.length + ([y11] : List Int).length ≤ 536870912) <|
  k22 ((x4 ++ ([y11] : List Int)), (W (x10 + y12))))))
  else
  j29 x4)

def M_i_RunesOf (x0 : List UInt8) : Option (List Int × Bool) :=
  (bif (decide (65536 < (x0.length : Int))) then
  some ([], false)
  else
  (joinO (fun (x26 : List Int) =>
  some (x26, true)) fun j29 =>
  (fixF (M_i_RunesOf_L1 x0 j29) FUEL (([] : List Int), 0))))

theorem ok_i_RunesOf (x0 : List UInt8) (r : List Int × Bool) (h : M_i_RunesOf x0 = some r) :
    FC Tryz.prog 62 [.string (bs x0)] [] (fun _ : Option Addr × Nat => True) (fun q => .tuple #[.slice q.1 r.1.length q.2, .bool r.2]) (fun q => [⟨(.int .i64), ⟨q.1, r.1.length, q.2⟩, r.1⟩]) :=
  by
    refine FC.of (T := TTx) Tryz.call62 Tryz.func62 rfl rfl fun w0 => ?_
    unfold M_i_RunesOf at h
    refine JS.rg0 ttOk 2 [] ⟨trivial, rfl⟩ rfl rfl (JS.seq (JS.rg0 ttOk 3 [(11, .v (.bool (decide (65536 < (x0.length : Int)))))] ⟨⟨rfl, trivial⟩, rfl⟩ rfl rfl ?_))
    refine JS.cond rfl (fun ht37 => ?_) (fun ht37 => ?_)
    · have h := condT h ht37
      refine JS.rg0 ttOk 2 [(2, .v (.slice none 0 0)), (3, .v (.bool false))] ⟨(Es rfl), rfl⟩ rfl rfl ?_
      cases h
      refine JS.nilO (.int .i64) Sl.nil rfl rfl (JS.ret ttOk (none, 0) trivial rfl rfl [0] rfl)
    have h := condF h ht37
    refine JS.skip (JS.rg0 ttOk 1 [(4, .v (.slice none 0 0))] ⟨⟨rfl, trivial⟩, rfl⟩ rfl rfl (JS.seq (JS.region (JO.reg ttOk 1 [] [] [(12, .v (.string (bs x0)))] _ rfl ⟨⟨rfl, trivial⟩, rfl⟩ (JO.bytesOf ttOk rfl rfl rfl rfl rfl rfl rfl rfl rfl fun a2 c3 => JO.reg ttOk 1 [] [] [(5, .v (.slice a2 x0.length c3))] _ rfl ⟨⟨rfl, trivial⟩, rfl⟩ (JO.done rfl (JS.seq (JS.rg0 ttOk 1 [(6, .v (.int .i64 0))] ⟨⟨rfl, trivial⟩, rfl⟩ rfl rfl ?_))))))))
    obtain ⟨j29, hj36, h⟩ := joinO_some h
    refine JS.blockJ (ι := List Int × Option Addr × Nat) ⟨fun z => j29 z.1 = some r, fun z => [(4, .v (.slice z.2.1 z.1.length z.2.2))], fun z => .nil, fun z => [], fun z => [⟨(.int .i64), ⟨z.2.1, z.1.length, z.2.2⟩, z.1⟩], fun z => 0⟩ ?_ ?_
    · refine JS.nilO (.int .i64) Sl.nil rfl rfl (JS.loop (ι := Nat × List Int × Int × Option Addr × Nat) ⟨fun z => fixF (M_i_RunesOf_L1 x0 j29) z.1 (z.2.1, z.2.2.1) = some r, fun z => [(4, .v (.slice z.2.2.2.1 z.2.1.length z.2.2.2.2)), (5, .v (.slice a2 x0.length c3)), (6, .v (.int .i64 z.2.2.1))], fun z => .nil, fun z => [], fun z => [⟨(.int .i64), ⟨z.2.2.2.1, z.2.1.length, z.2.2.2.2⟩, z.2.1⟩, ⟨.byte, ⟨a2, x0.length, c3⟩, x0⟩], fun z => z.1⟩ (FUEL, ([] : List Int), 0, none, 0) h (Es rfl) trivial [] rfl [0, 0] rfl ?_)
      rintro ⟨n23, x4, x10, a5, c6⟩ h
      obtain ⟨n23, rfl, h⟩ := fixF_some h
      rw [M_i_RunesOf_L1] at h
      refine JS.seq (JS.rg0 ttOk 4 [(17, .v (.bool (decide (x10 < (x0.length : Int)))))] ⟨⟨rfl, trivial⟩, rfl⟩ rfl rfl ?_)
      refine JS.cond rfl (fun ht35 => ?_) (fun ht35 => ?_)
      · have h := condT h ht35
        refine JS.skip (JS.block (JS.seq (JS.region (JO.reg ttOk 2 [] [] [(19, .v (.slice a2 x0.length c3)), (20, .v (.int .i64 x10))] _ rfl ⟨(Es rfl), rfl⟩ ?_))))
        obtain ⟨⟨y11, y12⟩, hy13, h⟩ := bindO_some h
        refine JO.call rfl rfl rfl rfl (ok_i_RuneRead x0 x10 a2 c3 x0.length rfl _ hy13) rfl [1] rfl rfl fun _ _ => JO.reg ttOk 5 [] [] [(7, .v (.int .i64 y11)), (8, .v (.int .i64 y12))] _ rfl ⟨(Es rfl), rfl⟩ (JO.done rfl (JS.seq (JS.rg0 ttOk 2 [(25, .v (.bool (decide (y12 = 0))))] ⟨⟨rfl, trivial⟩, rfl⟩ rfl rfl ?_)))
        refine JS.cond rfl (fun ht34 => ?_) (fun ht34 => ?_)
        · have h := condT h ht34
          refine JS.rg0 ttOk 2 [(2, .v (.slice none 0 0)), (3, .v (.bool false))] ⟨(Es rfl), rfl⟩ rfl rfl ?_
          cases h
          refine JS.nilO (.int .i64) Sl.nil rfl rfl (JS.ret ttOk (none, 0) trivial rfl rfl [0] rfl)
        have h := condF h ht34
        refine JS.skip (JS.seq (JS.region (JO.reg ttOk 2 [] [] [(26, .v (.slice a5 x4.length c6)), (27, .v (.int .i64 y11))] _ rfl ⟨(Es rfl), rfl⟩ ?_)))
        refine JO.ofK rfl (JK.buildSlice ttOk rfl rfl rfl rfl rfl rfl rfl rfl rfl rfl rfl [] rfl (.int .i64) [y11] ⟨rfl, rfl⟩ rfl rfl fun a14 => JO.toK ?_)
        obtain ⟨g15, h⟩ := guardO_some h
        refine JO.appendR' ttOk rfl rfl rfl rfl ⟨rfl, rfl, rfl, rfl, trivial, rfl, rfl, rfl, rfl⟩ rfl rfl rfl [1] rfl 0 rfl g15 rfl fun a16 c17 => JO.reg ttOk 1 [] [] [(4, .v (.slice a16 (x4 ++ ([y11] : List Int)).length c17))] _ rfl ⟨⟨rfl, trivial⟩, rfl⟩ (JO.done rfl (JS.re ttOk 4 [(W (x10 + y12))] [] [(6, .v (.int .i64 (W (x10 + y12))))] _ ⟨⟨trivial, rfl⟩, ⟨rfl, trivial⟩, rfl⟩ rfl rfl (JS.endB (JS.endL (n23, (x4 ++ ([y11] : List Int)), (W (x10 + y12)), a16, c17) h (Nat.lt_succ_self _) (Es rfl) trivial [] rfl [0, 1] rfl))))
      have h := condF h ht35
      refine JS.exit rfl (JS.endJ (x4, a5, c6) h ⟨rfl, trivial⟩ trivial [] rfl [0] rfl)
    rintro ⟨x26, a27, c28⟩ h
    subst hj36
    refine JS.rg0 ttOk 3 [(2, .v (.slice a27 x26.length c28)), (3, .v (.bool true))] ⟨(Es rfl), rfl⟩ rfl rfl ?_
    cases h
    exact JS.ret ttOk (a27, c28) trivial rfl rfl [0] rfl

def M_i_LineOf (x0 : List UInt8) : Option ((List Int × Int) × Bool) :=
  (bindO (M_i_RunesOf x0) fun (y2, y3) =>
  (callO ((!y3) = false) (M_i_LineOk (y2, (y2.length : Int))) false fun (y7 : Bool) =>
  (bif (bif (!y3) then true else (!y7)) then
  some (([], 0), false)
  else
  some ((y2, (y2.length : Int)), true))))

theorem ok_i_LineOf (x0 : List UInt8) (r : (List Int × Int) × Bool) (h : M_i_LineOf x0 = some r) :
    FC Tryz.prog 59 [.string (bs x0)] [] (fun _ : Option Addr × Nat => True) (fun q => .tuple #[.agg #[.slice q.1 r.1.1.length q.2, .int .i64 r.1.2], .bool r.2]) (fun q => [⟨(.int .i64), ⟨q.1, r.1.1.length, q.2⟩, r.1.1⟩]) :=
  by
    refine FC.of (T := TTx) Tryz.call59 Tryz.func59 rfl rfl fun w0 => ?_
    unfold M_i_LineOf at h
    refine JS.rgB ttOk 2 [] [1] [(2, .bp 1 0)] (.new 1 38 [.slice none 0 0, .int .i64 0] .nil) ⟨⟨rfl, trivial⟩, (Bs rfl rfl)⟩ rfl rfl (JS.seq (JS.region (JO.reg ttOk 1 [] [] [(8, .v (.string (bs x0)))] _ rfl ⟨⟨rfl, trivial⟩, rfl⟩ ?_)))
    obtain ⟨⟨y2, y3⟩, hy4, h⟩ := bindO_some h
    refine JO.call rfl rfl rfl rfl (ok_i_RunesOf x0 _ hy4) rfl [] rfl rfl ?_
    rintro ⟨a5, c6⟩ -
    refine JO.reg ttOk 5 [] [] [(4, .v (.slice a5 y2.length c6)), (5, .v (.bool y3))] _ rfl ⟨(Es rfl), rfl⟩ (JO.done rfl (JS.rgB ttOk 6 [] [8] [(6, .bp 8 0)] (.new 1 38 [.slice none 0 0, .int .i64 0] (.new 8 38 [.slice a5 y2.length c6, .int .i64 (y2.length : Int)] .nil)) ⟨⟨rfl, trivial⟩, (Bs rfl rfl)⟩ rfl rfl (JS.seq (JS.seq (JS.region (JO.reg ttOk 4 [] [] [(18, .v (.bool (!y3))), (19, .cd [(18, false)] (.v (.agg #[.slice a5 y2.length c6, .int .i64 (y2.length : Int)])))] _ rfl ⟨(Es rfl), rfl⟩ ?_))))))
    obtain ⟨y7, hy8, -, h⟩ := callO_some h
    refine JO.callg rfl rfl rfl rfl (fun q11 => ok_i_LineOk (y2, (y2.length : Int)) a5 c6 y2.length rfl _ (hy8 q11)) rfl [0] rfl rfl (JO.reg ttOk 2 [] [] [(22, .v (.bool (bif (!y3) then true else (!y7))))] _ rfl ⟨⟨rfl, trivial⟩, rfl⟩ (JO.done rfl ?_))
    refine JS.cond rfl (fun ht12 => ?_) (fun ht12 => ?_)
    · have h := condT h ht12
      refine JS.rgB ttOk 3 [] [] [(3, .v (.bool false))] (.new 1 38 [.slice none 0 0, .int .i64 0] .nil) ⟨⟨rfl, trivial⟩, (Bs rfl rfl)⟩ rfl rfl ?_
      cases h
      refine JS.nilO (.int .i64) Sl.nil rfl rfl (JS.ret ttOk (none, 0) trivial rfl rfl [0] rfl)
    have h := condF h ht12
    refine JS.skip (JS.rgB ttOk 3 [] [] [(3, .v (.bool true))] (.new 1 38 [.slice a5 y2.length c6, .int .i64 (y2.length : Int)] .nil) ⟨⟨rfl, trivial⟩, (Bs rfl rfl)⟩ rfl rfl ?_)
    cases h
    exact JS.ret ttOk (a5, c6) trivial rfl rfl [0] rfl

def M_i_TextOf_L1 (x0 : List Int) (j27 : (List UInt8) → Option (List UInt8)) (k20 : (List UInt8 × Int) → Option (List UInt8)) : (List UInt8 × Int) → Option (List UInt8) := fun (x6, x9) =>
  (bif (decide (x9 < (x0.length : Int))) then
  (guardO (0 ≤ x9 ∧ x9 < (x0.length : Int)) <|
  (bindO (M_i_RuneBytes (at' x0 x9)) fun (y12 : List UInt8) =>
  (guardO (x6.length + y12.length ≤ 536870912) <|
  k20 ((x6 ++ y12), (W (x9 + 1))))))
  else
  j27 x6)

def M_i_TextOf (x0 : List Int) : Option (List UInt8) :=
  (joinO (fun (x24 : List UInt8) =>
  some x24) fun j27 =>
  (fixF (M_i_TextOf_L1 x0 j27) FUEL (([] : List UInt8), 0)))

theorem ok_i_TextOf (x0 : List Int) (a2 : Option Addr) (c3 : Nat) (l4 : Nat) (hl5 : x0.length = l4) (r : List UInt8) (h : M_i_TextOf x0 = some r) :
    FC Tryz.prog 61 [.slice a2 l4 c3] [⟨(.int .i64), ⟨a2, l4, c3⟩, x0⟩] (fun _ : Unit => True) (fun _ => .string (bs r)) (fun _ => []) :=
  by
    subst hl5
    refine FC.of (T := TTx) Tryz.call61 Tryz.func61 rfl rfl fun w0 => ?_
    unfold M_i_TextOf at h
    refine JS.rg0 ttOk 1 [] ⟨trivial, rfl⟩ rfl rfl (JS.rg0 ttOk 1 [(3, .v (.slice none 0 0))] ⟨⟨rfl, trivial⟩, rfl⟩ rfl rfl (JS.seq (JS.rg0 ttOk 3 [(6, .v (.slice a2 x0.length c3)), (7, .v (.int .i64 (x0.length : Int))), (8, .v (.int .i64 0))] ⟨(Es rfl), rfl⟩ rfl rfl ?_)))
    obtain ⟨j27, hj33, h⟩ := joinO_some h
    refine JS.blockJ (ι := List UInt8 × Option Addr × Nat) ⟨fun z => j27 z.1 = some r, fun z => [(3, .v (.slice z.2.1 z.1.length z.2.2))], fun z => .nil, fun z => [], fun z => [⟨.byte, ⟨z.2.1, z.1.length, z.2.2⟩, z.1⟩], fun z => 0⟩ ?_ ?_
    · refine JS.nilO .byte Sl.nil rfl rfl (JS.loop (ι := Nat × List UInt8 × Int × Option Addr × Nat) ⟨fun z => fixF (M_i_TextOf_L1 x0 j27) z.1 (z.2.1, z.2.2.1) = some r, fun z => [(3, .v (.slice z.2.2.2.1 z.2.1.length z.2.2.2.2)), (6, .v (.slice a2 x0.length c3)), (7, .v (.int .i64 (x0.length : Int))), (8, .v (.int .i64 z.2.2.1))], fun z => .nil, fun z => [⟨(.int .i64), ⟨a2, x0.length, c3⟩, x0⟩], fun z => [⟨.byte, ⟨z.2.2.2.1, z.2.1.length, z.2.2.2.2⟩, z.2.1⟩], fun z => z.1⟩ (FUEL, ([] : List UInt8), 0, none, 0) h (Es rfl) trivial [0] rfl [0] rfl ?_)
      rintro ⟨n21, x6, x9, a7, c8⟩ h
      obtain ⟨n21, rfl, h⟩ := fixF_some h
      rw [M_i_TextOf_L1] at h
      refine JS.rg0 ttOk 1 [(9, .v (.bool (decide (x9 < (x0.length : Int)))))] ⟨⟨rfl, trivial⟩, rfl⟩ rfl rfl (JS.seq ?_)
      refine JS.cond rfl (fun ht32 => ?_) (fun ht32 => ?_)
      · have h := condT h ht32
        refine JS.skip (JS.seq (JS.block (JS.seq (JS.region (JO.know 0 rfl fun hs31 => ?_)))))
        obtain ⟨g11, h⟩ := guardO_some h
        refine JO.reg ttOk 1 [] [] [(10, .ep ⟨a2, x0.length, c3⟩ (Int.toNat x9 * 1))] _ rfl ⟨hs31.ix g11, ⟨rfl, trivial⟩, rfl⟩ (JO.load ttOk rfl rfl rfl rfl rfl rfl rfl 0 rfl rfl (Int.toNat x9) 0 (at' x0 x9) ⟨at_some g11, rfl⟩ rfl rfl (JO.reg ttOk 1 [] [] [(5, .v (.int .i64 (at' x0 x9)))] _ rfl ⟨⟨rfl, trivial⟩, rfl⟩ (JO.done rfl (JS.region (JO.reg ttOk 2 [] [] [(12, .v (.slice a7 x6.length c8)), (13, .v (.int .i64 (at' x0 x9)))] _ rfl ⟨(Es rfl), rfl⟩ ?_)))))
        obtain ⟨y12, hy13, h⟩ := bindO_some h
        refine JO.call rfl rfl rfl rfl (ok_i_RuneBytes (at' x0 x9) _ hy13) rfl [] rfl rfl ?_
        rintro ⟨a14, c15⟩ -
        obtain ⟨g16, h⟩ := guardO_some h
        refine JO.appendR' ttOk rfl rfl rfl rfl ⟨rfl, rfl, rfl, rfl, trivial, rfl, rfl, rfl, rfl⟩ rfl rfl rfl [1] rfl 1 rfl g16 rfl fun a17 c18 => JO.reg ttOk 1 [] [] [(3, .v (.slice a17 (x6 ++ y12).length c18))] _ rfl ⟨⟨rfl, trivial⟩, rfl⟩ (JO.done rfl (JS.endB (JS.re ttOk 2 [(W (x9 + 1))] [] [(8, .v (.int .i64 (W (x9 + 1))))] _ ⟨⟨trivial, rfl⟩, ⟨rfl, trivial⟩, rfl⟩ rfl rfl (JS.endL (n21, (x6 ++ y12), (W (x9 + 1)), a17, c18) h (Nat.lt_succ_self _) (Es rfl) trivial [0] rfl [0] rfl))))
      have h := condF h ht32
      refine JS.exit rfl (JS.endJ (x6, a7, c8) h ⟨rfl, trivial⟩ trivial [] rfl [0] rfl)
    rintro ⟨x24, a25, c26⟩ h
    subst hj33
    refine JS.seq (JS.region (JO.reg ttOk 1 [] [] [(17, .v (.slice a25 x24.length c26))] _ rfl ⟨⟨rfl, trivial⟩, rfl⟩ (JO.strOf ttOk rfl rfl rfl rfl rfl rfl rfl rfl 0 rfl rfl (JO.reg ttOk 1 [] [] [(2, .v (.string (bs x24)))] _ rfl ⟨⟨rfl, trivial⟩, rfl⟩ (JO.done rfl ?_)))))
    cases h
    exact JS.ret ttOk () trivial rfl rfl [] rfl

def M_internal_bytealg_IndexString (gm0 : Int) (x0 : List UInt8) (x1 : List UInt8) : Option Int := guardO (2 ≤ x1.length ∧ (x1.length : Int) ≤ gm0 ∧ x0.length < 4294967281) <| some (Lib.index x0 x1)

theorem ok_internal_bytealg_IndexString (x0 : List UInt8) (x1 : List UInt8) (gm0 : Int) (r : Int) (h : M_internal_bytealg_IndexString gm0 x0 x1 = some r) :
    FE Tryz.prog 234 [.string (bs x0), .string (bs x1)] [⟨(.int .i64), ⟨(some ⟨0, 0, none⟩), 1, 1⟩, [gm0]⟩] (.int .i64 r) := by
  obtain ⟨⟨h1, h2, h3⟩, h⟩ := guardO_some h
  cases h
  refine FE.outer Tryz.func234 (by kernel_rfl) (by kernel_rfl) (by kernel_rfl) (x := Extern.BytealgIndex.index) (by kernel_rfl) fun w hw => ?_
  obtain ⟨L, hL⟩ := hw _ (List.mem_singleton.2 rfl)
  have := Lib.run_indexString (P := Tryz.prog) (bs x0) (bs x1) w 0 gm0 (by kernel_rfl) (fact_var hL) (by rw [bs_size]; exact h1) (by rw [bs_size]; exact h2) (by rw [bs_size]; exact h3)
  rw [bs_data, bs_data] at this
  exact this

def M_internal_bytealg_IndexByteString (x0 : List UInt8) (x1 : UInt8) : Option Int := some (Lib.indexByte x0 x1)

theorem ok_internal_bytealg_IndexByteString (x0 : List UInt8) (x1 : UInt8) (r : Int) (h : M_internal_bytealg_IndexByteString x0 x1 = some r) :
    FE Tryz.prog 285 [.string (bs x0), .int .u8 (x1.toNat : Int)] [] (.int .i64 r) := by
  cases h
  refine FE.outer Tryz.func285 (by kernel_rfl) (by kernel_rfl) (by kernel_rfl) (x := Extern.BytealgIndexByte.indexByte) (by kernel_rfl) fun w hw => ?_
  have := Lib.run_indexByteString (P := Tryz.prog) (bs x0) (x1.toNat : Int) w
  rw [bs_data, u8_byte] at this
  exact this

def M_internal_stringslite_IndexByte (x0 : List UInt8) (x1 : UInt8) : Option Int :=
  (bindO (M_internal_bytealg_IndexByteString x0 x1) fun (y3 : Int) =>
  some y3)

theorem ok_internal_stringslite_IndexByte (x0 : List UInt8) (x1 : UInt8) (r : Int) (h : M_internal_stringslite_IndexByte x0 x1 = some r) :
    FC Tryz.prog 233 [.string (bs x0), .int .u8 (x1.toNat : Int)] [] (fun _ : Unit => True) (fun _ => .int .i64 r) (fun _ => []) :=
  by
    refine FC.of (T := TTx) Tryz.call233 Tryz.func233 rfl rfl fun w0 => ?_
    unfold M_internal_stringslite_IndexByte at h
    refine JS.rg0 ttOk 1 [] ⟨trivial, rfl⟩ rfl rfl (JS.seq (JS.region (JO.reg ttOk 2 [] [] [(5, .v (.string (bs x0))), (6, .v (.int .u8 (x1.toNat : Int)))] _ rfl ⟨(Es rfl), rfl⟩ ?_)))
    obtain ⟨y3, hy4, h⟩ := bindO_some h
    refine JO.ext rfl rfl rfl rfl (ok_internal_bytealg_IndexByteString x0 x1 _ hy4) rfl [] rfl rfl (JO.reg ttOk 1 [] [] [(4, .v (.int .i64 y3))] _ rfl ⟨⟨rfl, trivial⟩, rfl⟩ (JO.done rfl ?_))
    cases h
    exact JS.ret ttOk () trivial rfl rfl [] rfl

def M_internal_bytealg_Cutover (x0 : Int) : Option Int :=
  some (W (Int.tdiv (W (x0 + 16)) 8))

theorem ok_internal_bytealg_Cutover (x0 : Int) (r : Int) (h : M_internal_bytealg_Cutover x0 = some r) :
    FC Tryz.prog 235 [.int .i64 x0] [] (fun _ : Unit => True) (fun _ => .int .i64 r) (fun _ => []) :=
  by
    refine FC.of (T := TTx) Tryz.call235 Tryz.func235 rfl rfl fun w0 => ?_
    unfold M_internal_bytealg_Cutover at h
    refine JS.rg0 ttOk 1 [] ⟨trivial, rfl⟩ rfl rfl (JS.seq (JS.region ?_))
    have g2 : (8 : Int) ≠ 0 := by decide
    refine JO.reg ttOk 4 [(W (x0 + 16)), (W (Int.tdiv (W (x0 + 16)) 8))] [] [(2, .v (.int .i64 (W (Int.tdiv (W (x0 + 16)) 8))))] _ rfl ⟨⟨trivial, rfl⟩, ⟨g2, rfl⟩, ⟨rfl, trivial⟩, rfl⟩ (JO.done rfl ?_)
    cases h
    exact JS.ret ttOk () trivial rfl rfl [] rfl

def M_internal_bytealg_hashStrstring_L1 (x0 : List UInt8) (j10 : Int → Option (Int × Int)) (k6 : (Int × Int) → Option (Int × Int)) : (Int × Int) → Option (Int × Int) := fun (x2, x3) =>
  (bif (decide (x3 < (x0.length : Int))) then
  (guardO (0 ≤ x3 ∧ x3 < (x0.length : Int)) <|
  k6 ((IntKind.u32.wrap ((IntKind.u32.wrap (x2 * 16777619)) + (IntKind.u32.wrap (((at' x0 x3).toNat : Int))))), (W (x3 + 1))))
  else
  j10 x2)

def M_internal_bytealg_hashStrstring_L2 (j28 : Int → Option (Int × Int)) (k22 : (Int × Int × Int) → Option (Int × Int)) : (Int × Int × Int) → Option (Int × Int) := fun (x12, x13, x14) =>
  (bif (decide (0 < x14)) then
  (joinO (fun (x16 : Int) =>
  k22 (x16, (IntKind.u32.wrap (x13 * x13)), (Int.fdiv x14 (2 ^ (min (Int.toNat 1) (IntKind.bits .i64)))))) fun j17 =>
  (bif (!(decide ((W (((BitVec.ofInt (IntKind.bits .i64) x14 &&& BitVec.ofInt (IntKind.bits .i64) 1).toNat : Int))) = 0))) then
  j17 (IntKind.u32.wrap (x12 * x13))
  else
  j17 x12))
  else
  j28 x12)

def M_internal_bytealg_hashStrstring (x0 : List UInt8) : Option (Int × Int) :=
  (joinO (fun (x9 : Int) =>
  (joinO (fun (x27 : Int) =>
  some (x9, x27)) fun j28 =>
  (fixF (M_internal_bytealg_hashStrstring_L2 j28) FUEL (1, 16777619, (x0.length : Int))))) fun j10 =>
  (fixF (M_internal_bytealg_hashStrstring_L1 x0 j10) FUEL (0, 0)))

theorem ok_internal_bytealg_hashStrstring (x0 : List UInt8) (r : Int × Int) (h : M_internal_bytealg_hashStrstring x0 = some r) :
    FC Tryz.prog 286 [.string (bs x0)] [] (fun _ : Unit => True) (fun _ => .tuple #[.int .u32 r.1, .int .u32 r.2]) (fun _ => []) :=
  by
    refine FC.of (T := TTx) Tryz.call286 Tryz.func286 rfl rfl fun w0 => ?_
    unfold M_internal_bytealg_hashStrstring at h
    refine JS.rg0 ttOk 2 [] ⟨trivial, rfl⟩ rfl rfl (JS.rg0 ttOk 1 [(4, .v (.int .u32 0))] ⟨⟨rfl, trivial⟩, rfl⟩ rfl rfl (JS.seq (JS.rg0 ttOk 1 [(5, .v (.int .i64 0))] ⟨⟨rfl, trivial⟩, rfl⟩ rfl rfl ?_)))
    obtain ⟨j10, hj39, h⟩ := joinO_some h
    refine JS.blockJ (ι := Int) ⟨fun z => j10 z = some r, fun z => [(0, .v (.string (bs x0))), (4, .v (.int .u32 z))], fun z => .nil, fun z => [], fun z => [], fun z => 0⟩ ?_ ?_
    · refine JS.loop (ι := Nat × Int × Int) ⟨fun z => fixF (M_internal_bytealg_hashStrstring_L1 x0 j10) z.1 (z.2.1, z.2.2) = some r, fun z => [(0, .v (.string (bs x0))), (4, .v (.int .u32 z.2.1)), (5, .v (.int .i64 z.2.2))], fun z => .nil, fun z => [], fun z => [], fun z => z.1⟩ (FUEL, 0, 0) h (Es rfl) trivial [] rfl [] rfl ?_
      rintro ⟨n7, x2, x3⟩ h
      obtain ⟨n7, rfl, h⟩ := fixF_some h
      rw [M_internal_bytealg_hashStrstring_L1] at h
      refine JS.seq (JS.rg0 ttOk 4 [(12, .v (.bool (decide (x3 < (x0.length : Int)))))] ⟨⟨rfl, trivial⟩, rfl⟩ rfl rfl ?_)
      refine JS.cond rfl (fun ht34 => ?_) (fun ht34 => ?_)
      · have h := condT h ht34
        refine JS.skip (JS.seq (JS.block (JS.region ?_)))
        obtain ⟨g4, h⟩ := guardO_some h
        refine JO.reg ttOk 8 [(IntKind.u32.wrap (x2 * 16777619)), (IntKind.u32.wrap (((at' x0 x3).toNat : Int))), (IntKind.u32.wrap ((IntKind.u32.wrap (x2 * 16777619)) + (IntKind.u32.wrap (((at' x0 x3).toNat : Int)))))] [] [(4, .v (.int .u32 (IntKind.u32.wrap ((IntKind.u32.wrap (x2 * 16777619)) + (IntKind.u32.wrap (((at' x0 x3).toNat : Int)))))))] _ rfl ⟨⟨trivial, rfl⟩, g4, ⟨trivial, rfl⟩, ⟨trivial, rfl⟩, ⟨rfl, trivial⟩, rfl⟩ (JO.done rfl (JS.endB (JS.re ttOk 3 [(W (x3 + 1))] [] [(5, .v (.int .i64 (W (x3 + 1))))] _ ⟨⟨trivial, rfl⟩, ⟨rfl, trivial⟩, rfl⟩ rfl rfl (JS.endL (n7, (IntKind.u32.wrap ((IntKind.u32.wrap (x2 * 16777619)) + (IntKind.u32.wrap (((at' x0 x3).toNat : Int))))), (W (x3 + 1))) h (Nat.lt_succ_self _) (Es rfl) trivial [] rfl [] rfl))))
      have h := condF h ht34
      refine JS.exit rfl (JS.endJ x2 h (Es rfl) trivial [] rfl [] rfl)
    rintro x9 h
    subst hj39
    refine JS.rg0 ttOk 2 [(6, .v (.int .u32 1)), (7, .v (.int .u32 16777619))] ⟨(Es rfl), rfl⟩ rfl rfl (JS.seq (JS.rg0 ttOk 3 [(8, .v (.int .i64 (x0.length : Int)))] ⟨⟨rfl, trivial⟩, rfl⟩ rfl rfl ?_))
    obtain ⟨j28, hj38, h⟩ := joinO_some h
    refine JS.blockJ (ι := Int) ⟨fun z => j28 z = some r, fun z => [(4, .v (.int .u32 x9)), (6, .v (.int .u32 z))], fun z => .nil, fun z => [], fun z => [], fun z => 0⟩ ?_ ?_
    · refine JS.loop (ι := Nat × Int × Int × Int) ⟨fun z => fixF (M_internal_bytealg_hashStrstring_L2 j28) z.1 (z.2.1, z.2.2.1, z.2.2.2) = some r, fun z => [(4, .v (.int .u32 x9)), (6, .v (.int .u32 z.2.1)), (7, .v (.int .u32 z.2.2.1)), (8, .v (.int .i64 z.2.2.2))], fun z => .nil, fun z => [], fun z => [], fun z => z.1⟩ (FUEL, 1, 16777619, (x0.length : Int)) h (Es rfl) trivial [] rfl [] rfl ?_
      rintro ⟨n23, x12, x13, x14⟩ h
      obtain ⟨n23, rfl, h⟩ := fixF_some h
      rw [M_internal_bytealg_hashStrstring_L2] at h
      refine JS.seq (JS.rg0 ttOk 2 [(25, .v (.bool (decide (0 < x14))))] ⟨⟨rfl, trivial⟩, rfl⟩ rfl rfl ?_)
      refine JS.cond rfl (fun ht37 => ?_) (fun ht37 => ?_)
      · have h := condT h ht37
        refine JS.skip (JS.seq (JS.block ?_))
        obtain ⟨j17, hj36, h⟩ := joinO_some h
        refine JS.seqJ (ι := Int) ⟨fun z => j17 z = some r, fun z => [(4, .v (.int .u32 x9)), (6, .v (.int .u32 z)), (7, .v (.int .u32 x13)), (8, .v (.int .i64 x14))], fun z => .nil, fun z => [], fun z => [], fun z => 0⟩ ?_ ?_
        · refine JS.rg ttOk 3 [(W (((BitVec.ofInt (IntKind.bits .i64) x14 &&& BitVec.ofInt (IntKind.bits .i64) 1).toNat : Int)))] [] [(30, .v (.bool (!(decide ((W (((BitVec.ofInt (IntKind.bits .i64) x14 &&& BitVec.ofInt (IntKind.bits .i64) 1).toNat : Int))) = 0)))))] _ ⟨⟨trivial, rfl⟩, ⟨rfl, trivial⟩, rfl⟩ rfl rfl ?_
          refine JS.cond rfl (fun ht35 => ?_) (fun ht35 => ?_)
          · have h := condT h ht35
            refine JS.re ttOk 4 [(IntKind.u32.wrap (x12 * x13))] [] [(6, .v (.int .u32 (IntKind.u32.wrap (x12 * x13))))] _ ⟨⟨trivial, rfl⟩, ⟨rfl, trivial⟩, rfl⟩ rfl rfl (JS.endJ (IntKind.u32.wrap (x12 * x13)) h (Es rfl) trivial [] rfl [] rfl)
          have h := condF h ht35
          refine JS.skip (JS.endJ x12 h (Es rfl) trivial [] rfl [] rfl)
        rintro x16 h
        subst hj36
        refine JS.re ttOk 4 [(IntKind.u32.wrap (x13 * x13))] [] [(7, .v (.int .u32 (IntKind.u32.wrap (x13 * x13))))] _ ⟨⟨trivial, rfl⟩, ⟨rfl, trivial⟩, rfl⟩ rfl rfl (JS.endB (JS.region ?_))
        have g19 : (0 : Int) ≤ 1 := by decide
        refine JO.reg ttOk 3 [] [] [(8, .v (.int .i64 (Int.fdiv x14 (2 ^ (min (Int.toNat 1) (IntKind.bits .i64))))))] _ rfl ⟨g19, ⟨rfl, trivial⟩, rfl⟩ (JO.done rfl (JS.endL (n23, x16, (IntKind.u32.wrap (x13 * x13)), (Int.fdiv x14 (2 ^ (min (Int.toNat 1) (IntKind.bits .i64))))) h (Nat.lt_succ_self _) (Es rfl) trivial [] rfl [] rfl))
      have h := condF h ht37
      refine JS.exit rfl (JS.endJ x12 h (Es rfl) trivial [] rfl [] rfl)
    rintro x27 h
    subst hj38
    refine JS.rg0 ttOk 4 [(2, .v (.int .u32 x9)), (3, .v (.int .u32 x27))] ⟨(Es rfl), rfl⟩ rfl rfl ?_
    cases h
    exact JS.ret ttOk () trivial rfl rfl [] rfl

def M_internal_bytealg_IndexRabinKarpstring_L1 (x0 : List UInt8) (x1 : List UInt8) (j14 : Int → Option Int) (k10 : (Int × Int) → Option Int) : (Int × Int) → Option Int := fun (x6, x7) =>
  (bif (decide (x7 < (x1.length : Int))) then
  (guardO (0 ≤ x7 ∧ x7 < (x0.length : Int)) <|
  k10 ((IntKind.u32.wrap ((IntKind.u32.wrap (x6 * 16777619)) + (IntKind.u32.wrap (((at' x0 x7).toNat : Int))))), (W (x7 + 1))))
  else
  j14 x6)

def M_internal_bytealg_IndexRabinKarpstring_L2 (x0 : List UInt8) (x1 : List UInt8) (y3 : Int) (y4 : Int) (j33 : Unit → Option Int) (k27 : (Int × Int) → Option Int) : (Int × Int) → Option Int := fun (x18, x19) =>
  (bif (decide (x19 < (x0.length : Int))) then
  (guardO (0 ≤ x19 ∧ x19 < (x0.length : Int)) <|
  (guardO (0 ≤ (W (x19 - (x1.length : Int))) ∧ (W (x19 - (x1.length : Int))) < (x0.length : Int)) <|
  (guardO (((decide ((IntKind.u32.wrap ((IntKind.u32.wrap ((IntKind.u32.wrap (x18 * 16777619)) + (IntKind.u32.wrap (((at' x0 x19).toNat : Int))))) - (IntKind.u32.wrap (y4 * (IntKind.u32.wrap (((at' x0 (W (x19 - (x1.length : Int)))).toNat : Int))))))) = y3)) = true) → 0 ≤ (W ((W (x19 + 1)) - (x1.length : Int))) ∧ (W ((W (x19 + 1)) - (x1.length : Int))) ≤ (W (x19 + 1)) ∧ (W (x19 + 1)) ≤ (x0.length : Int)) <|
  (bif (bif (decide ((IntKind.u32.wrap ((IntKind.u32.wrap ((IntKind.u32.wrap (x18 * 16777619)) + (IntKind.u32.wrap (((at' x0 x19).toNat : Int))))) - (IntKind.u32.wrap (y4 * (IntKind.u32.wrap (((at' x0 (W (x19 - (x1.length : Int)))).toNat : Int))))))) = y3)) then (decide ((sub' x0 (W ((W (x19 + 1)) - (x1.length : Int))) (W (x19 + 1))) = x1)) else false) then
  some (W ((W (x19 + 1)) - (x1.length : Int)))
  else
  k27 ((IntKind.u32.wrap ((IntKind.u32.wrap ((IntKind.u32.wrap (x18 * 16777619)) + (IntKind.u32.wrap (((at' x0 x19).toNat : Int))))) - (IntKind.u32.wrap (y4 * (IntKind.u32.wrap (((at' x0 (W (x19 - (x1.length : Int)))).toNat : Int))))))), (W (x19 + 1)))))))
  else
  j33 ())

def M_internal_bytealg_IndexRabinKarpstring (x0 : List UInt8) (x1 : List UInt8) : Option Int :=
  (bindO (M_internal_bytealg_hashStrstring x1) fun (y3, y4) =>
  (joinO (fun (x13 : Int) =>
  (guardO (((decide (x13 = y3)) = true) → 0 ≤ (0 : Int) ∧ (0 : Int) ≤ (x1.length : Int) ∧ (x1.length : Int) ≤ (x0.length : Int)) <|
  (bif (bif (decide (x13 = y3)) then (decide ((sub' x0 0 (x1.length : Int)) = x1)) else false) then
  some 0
  else
  (joinO (fun (_ : Unit) =>
  some (-1)) fun j33 =>
  (fixF (M_internal_bytealg_IndexRabinKarpstring_L2 x0 x1 y3 y4 j33) FUEL (x13, (x1.length : Int))))))) fun j14 =>
  (fixF (M_internal_bytealg_IndexRabinKarpstring_L1 x0 x1 j14) FUEL (0, 0))))

theorem ok_internal_bytealg_IndexRabinKarpstring (x0 : List UInt8) (x1 : List UInt8) (r : Int) (h : M_internal_bytealg_IndexRabinKarpstring x0 x1 = some r) :
    FC Tryz.prog 236 [.string (bs x0), .string (bs x1)] [] (fun _ : Unit => True) (fun _ => .int .i64 r) (fun _ => []) :=
  by
    refine FC.of (T := TTx) Tryz.call236 Tryz.func236 rfl rfl fun w0 => ?_
    unfold M_internal_bytealg_IndexRabinKarpstring at h
    refine JS.rg0 ttOk 1 [] ⟨trivial, rfl⟩ rfl rfl (JS.seq (JS.region (JO.reg ttOk 1 [] [] [(12, .v (.string (bs x1)))] _ rfl ⟨⟨rfl, trivial⟩, rfl⟩ ?_)))
    obtain ⟨⟨y3, y4⟩, hy5, h⟩ := bindO_some h
    refine JO.call rfl rfl rfl rfl (ok_internal_bytealg_hashStrstring x1 _ hy5) rfl [] rfl rfl fun _ _ => JO.reg ttOk 5 [] [] [(5, .v (.int .u32 y3)), (6, .v (.int .u32 y4))] _ rfl ⟨(Es rfl), rfl⟩ (JO.done rfl (JS.rg0 ttOk 3 [(7, .v (.int .i64 (x1.length : Int)))] ⟨⟨rfl, trivial⟩, rfl⟩ rfl rfl (JS.rg0 ttOk 1 [(8, .v (.int .u32 0))] ⟨⟨rfl, trivial⟩, rfl⟩ rfl rfl (JS.seq (JS.rg0 ttOk 1 [(9, .v (.int .i64 0))] ⟨⟨rfl, trivial⟩, rfl⟩ rfl rfl ?_)))))
    obtain ⟨j14, hj49, h⟩ := joinO_some h
    refine JS.blockJ (ι := Int) ⟨fun z => j14 z = some r, fun z => [(0, .v (.string (bs x0))), (1, .v (.string (bs x1))), (5, .v (.int .u32 y3)), (6, .v (.int .u32 y4)), (7, .v (.int .i64 (x1.length : Int))), (8, .v (.int .u32 z))], fun z => .nil, fun z => [], fun z => [], fun z => 0⟩ ?_ ?_
    · refine JS.loop (ι := Nat × Int × Int) ⟨fun z => fixF (M_internal_bytealg_IndexRabinKarpstring_L1 x0 x1 j14) z.1 (z.2.1, z.2.2) = some r, fun z => [(0, .v (.string (bs x0))), (1, .v (.string (bs x1))), (5, .v (.int .u32 y3)), (6, .v (.int .u32 y4)), (7, .v (.int .i64 (x1.length : Int))), (8, .v (.int .u32 z.2.1)), (9, .v (.int .i64 z.2.2))], fun z => .nil, fun z => [], fun z => [], fun z => z.1⟩ (FUEL, 0, 0) h (Es rfl) trivial [] rfl [] rfl ?_
      rintro ⟨n11, x6, x7⟩ h
      obtain ⟨n11, rfl, h⟩ := fixF_some h
      rw [M_internal_bytealg_IndexRabinKarpstring_L1] at h
      refine JS.seq (JS.rg0 ttOk 3 [(20, .v (.bool (decide (x7 < (x1.length : Int)))))] ⟨⟨rfl, trivial⟩, rfl⟩ rfl rfl ?_)
      refine JS.cond rfl (fun ht41 => ?_) (fun ht41 => ?_)
      · have h := condT h ht41
        refine JS.skip (JS.seq (JS.block (JS.region ?_)))
        obtain ⟨g8, h⟩ := guardO_some h
        refine JO.reg ttOk 8 [(IntKind.u32.wrap (x6 * 16777619)), (IntKind.u32.wrap (((at' x0 x7).toNat : Int))), (IntKind.u32.wrap ((IntKind.u32.wrap (x6 * 16777619)) + (IntKind.u32.wrap (((at' x0 x7).toNat : Int)))))] [] [(8, .v (.int .u32 (IntKind.u32.wrap ((IntKind.u32.wrap (x6 * 16777619)) + (IntKind.u32.wrap (((at' x0 x7).toNat : Int)))))))] _ rfl ⟨⟨trivial, rfl⟩, g8, ⟨trivial, rfl⟩, ⟨trivial, rfl⟩, ⟨rfl, trivial⟩, rfl⟩ (JO.done rfl (JS.endB (JS.re ttOk 3 [(W (x7 + 1))] [] [(9, .v (.int .i64 (W (x7 + 1))))] _ ⟨⟨trivial, rfl⟩, ⟨rfl, trivial⟩, rfl⟩ rfl rfl (JS.endL (n11, (IntKind.u32.wrap ((IntKind.u32.wrap (x6 * 16777619)) + (IntKind.u32.wrap (((at' x0 x7).toNat : Int))))), (W (x7 + 1))) h (Nat.lt_succ_self _) (Es rfl) trivial [] rfl [] rfl))))
      have h := condF h ht41
      refine JS.exit rfl (JS.endJ x6 h (Es rfl) trivial [] rfl [] rfl)
    rintro x13 h
    subst hj49
    refine JS.seq (JS.seq (JS.region ?_))
    obtain ⟨g16, h⟩ := guardO_some h
    refine JO.reg ttOk 10 [] [] [(39, .v (.bool (bif (decide (x13 = y3)) then (decide ((sub' x0 0 (x1.length : Int)) = x1)) else false)))] _ rfl ⟨(fun q42 => (g16 q42)), ⟨rfl, trivial⟩, rfl⟩ (JO.done rfl ?_)
    refine JS.cond rfl (fun ht48 => ?_) (fun ht48 => ?_)
    · have h := condT h ht48
      refine JS.rg0 ttOk 1 [(4, .v (.int .i64 0))] ⟨⟨rfl, trivial⟩, rfl⟩ rfl rfl ?_
      cases h
      exact JS.ret ttOk () trivial rfl rfl [] rfl
    have h := condF h ht48
    refine JS.skip (JS.seq (JS.rg0 ttOk 2 [(10, .v (.int .i64 (x1.length : Int)))] ⟨⟨rfl, trivial⟩, rfl⟩ rfl rfl ?_))
    obtain ⟨j33, hj47, h⟩ := joinO_some h
    refine JS.blockJ (ι := Unit) ⟨fun _ => j33 () = some r, fun _ => [], fun _ => .nil, fun _ => [], fun _ => [], fun _ => 0⟩ ?_ ?_
    · refine JS.loop (ι := Nat × Int × Int) ⟨fun z => fixF (M_internal_bytealg_IndexRabinKarpstring_L2 x0 x1 y3 y4 j33) z.1 (z.2.1, z.2.2) = some r, fun z => [(0, .v (.string (bs x0))), (1, .v (.string (bs x1))), (5, .v (.int .u32 y3)), (6, .v (.int .u32 y4)), (7, .v (.int .i64 (x1.length : Int))), (8, .v (.int .u32 z.2.1)), (10, .v (.int .i64 z.2.2))], fun z => .nil, fun z => [], fun z => [], fun z => z.1⟩ (FUEL, x13, (x1.length : Int)) h (Es rfl) trivial [] rfl [] rfl ?_
      rintro ⟨n28, x18, x19⟩ h
      obtain ⟨n28, rfl, h⟩ := fixF_some h
      rw [M_internal_bytealg_IndexRabinKarpstring_L2] at h
      refine JS.seq (JS.rg0 ttOk 4 [(44, .v (.bool (decide (x19 < (x0.length : Int)))))] ⟨⟨rfl, trivial⟩, rfl⟩ rfl rfl ?_)
      refine JS.cond rfl (fun ht46 => ?_) (fun ht46 => ?_)
      · have h := condT h ht46
        refine JS.skip (JS.block (JS.rg ttOk 3 [(IntKind.u32.wrap (x18 * 16777619))] [] [(8, .v (.int .u32 (IntKind.u32.wrap (x18 * 16777619))))] _ ⟨⟨trivial, rfl⟩, ⟨rfl, trivial⟩, rfl⟩ rfl rfl (JS.seq (JS.region ?_))))
        obtain ⟨g20, h⟩ := guardO_some h
        refine JO.reg ttOk 7 [(IntKind.u32.wrap (((at' x0 x19).toNat : Int))), (IntKind.u32.wrap ((IntKind.u32.wrap (x18 * 16777619)) + (IntKind.u32.wrap (((at' x0 x19).toNat : Int)))))] [] [(8, .v (.int .u32 (IntKind.u32.wrap ((IntKind.u32.wrap (x18 * 16777619)) + (IntKind.u32.wrap (((at' x0 x19).toNat : Int)))))))] _ rfl ⟨g20, ⟨trivial, rfl⟩, ⟨trivial, rfl⟩, ⟨rfl, trivial⟩, rfl⟩ (JO.done rfl (JS.seq (JS.region ?_)))
        obtain ⟨g21, h⟩ := guardO_some h
        refine JO.reg ttOk 11 [(W (x19 - (x1.length : Int))), (IntKind.u32.wrap (((at' x0 (W (x19 - (x1.length : Int)))).toNat : Int))), (IntKind.u32.wrap (y4 * (IntKind.u32.wrap (((at' x0 (W (x19 - (x1.length : Int)))).toNat : Int))))), (IntKind.u32.wrap ((IntKind.u32.wrap ((IntKind.u32.wrap (x18 * 16777619)) + (IntKind.u32.wrap (((at' x0 x19).toNat : Int))))) - (IntKind.u32.wrap (y4 * (IntKind.u32.wrap (((at' x0 (W (x19 - (x1.length : Int)))).toNat : Int)))))))] [] [(8, .v (.int .u32 (IntKind.u32.wrap ((IntKind.u32.wrap ((IntKind.u32.wrap (x18 * 16777619)) + (IntKind.u32.wrap (((at' x0 x19).toNat : Int))))) - (IntKind.u32.wrap (y4 * (IntKind.u32.wrap (((at' x0 (W (x19 - (x1.length : Int)))).toNat : Int)))))))))] _ rfl ⟨⟨trivial, rfl⟩, g21, ⟨trivial, rfl⟩, ⟨trivial, rfl⟩, ⟨trivial, rfl⟩, ⟨rfl, trivial⟩, rfl⟩ (JO.done rfl (JS.rg ttOk 3 [(W (x19 + 1))] [] [(10, .v (.int .i64 (W (x19 + 1))))] _ ⟨⟨trivial, rfl⟩, ⟨rfl, trivial⟩, rfl⟩ rfl rfl (JS.seq (JS.region ?_))))
        obtain ⟨g23, h⟩ := guardO_some h
        refine JO.reg ttOk 13 [(W ((W (x19 + 1)) - (x1.length : Int)))] [] [(77, .v (.bool (bif (decide ((IntKind.u32.wrap ((IntKind.u32.wrap ((IntKind.u32.wrap (x18 * 16777619)) + (IntKind.u32.wrap (((at' x0 x19).toNat : Int))))) - (IntKind.u32.wrap (y4 * (IntKind.u32.wrap (((at' x0 (W (x19 - (x1.length : Int)))).toNat : Int))))))) = y3)) then (decide ((sub' x0 (W ((W (x19 + 1)) - (x1.length : Int))) (W (x19 + 1))) = x1)) else false)))] _ rfl ⟨(fun q43 => ⟨trivial, rfl⟩), (fun q44 => (g23 q44)), ⟨rfl, trivial⟩, rfl⟩ (JO.done rfl ?_)
        refine JS.cond rfl (fun ht45 => ?_) (fun ht45 => ?_)
        · have h := condT h ht45
          refine JS.rg ttOk 4 [(W ((W (x19 + 1)) - (x1.length : Int)))] [] [(4, .v (.int .i64 (W ((W (x19 + 1)) - (x1.length : Int)))))] _ ⟨⟨trivial, rfl⟩, ⟨rfl, trivial⟩, rfl⟩ rfl rfl ?_
          cases h
          exact JS.ret ttOk () trivial rfl rfl [] rfl
        have h := condF h ht45
        refine JS.skip (JS.endB (JS.endL (n28, (IntKind.u32.wrap ((IntKind.u32.wrap ((IntKind.u32.wrap (x18 * 16777619)) + (IntKind.u32.wrap (((at' x0 x19).toNat : Int))))) - (IntKind.u32.wrap (y4 * (IntKind.u32.wrap (((at' x0 (W (x19 - (x1.length : Int)))).toNat : Int))))))), (W (x19 + 1))) h (Nat.lt_succ_self _) (Es rfl) trivial [] rfl [] rfl))
      have h := condF h ht46
      refine JS.exit rfl (JS.endJ () h trivial trivial [] rfl [] rfl)
    rintro _ h
    subst hj47
    refine JS.rg0 ttOk 1 [(4, .v (.int .i64 (-1)))] ⟨⟨rfl, trivial⟩, rfl⟩ rfl rfl ?_
    cases h
    exact JS.ret ttOk () trivial rfl rfl [] rfl

def M_internal_stringslite_Index_L1 (x0 : List UInt8) (x1 : List UInt8) (gm0 : Int) (j61 : Unit → Option Int) (k45 : (Int × Int) → Option Int) : (Int × Int) → Option Int := fun (x10, x11) =>
  (bif (decide (x10 < (W ((W ((x0.length : Int) - (x1.length : Int))) + 1)))) then
  (joinO (fun (x18 : Int) =>
  (guardO (0 ≤ (W (x18 + 1)) ∧ (W (x18 + 1)) < (x0.length : Int)) <|
  (guardO (((decide (((at' x0 (W (x18 + 1))).toNat : Int) = ((at' x1 1).toNat : Int))) = true) → 0 ≤ x18 ∧ x18 ≤ (W (x18 + (x1.length : Int))) ∧ (W (x18 + (x1.length : Int))) ≤ (x0.length : Int)) <|
  (bif (bif (decide (((at' x0 (W (x18 + 1))).toNat : Int) = ((at' x1 1).toNat : Int))) then (decide ((sub' x0 x18 (W (x18 + (x1.length : Int)))) = x1)) else false) then
  some x18
  else
  (callO ((decide ((x1.length : Int) ≤ gm0)) = true) (M_internal_bytealg_Cutover (W (x18 + 1))) (0 : Int) fun (y26 : Int) =>
  (bif (bif (decide ((x1.length : Int) ≤ gm0)) then (decide (y26 < (W (x11 + 1)))) else false) then
  (guardO (0 ≤ (W (x18 + 1)) ∧ (W (x18 + 1)) ≤ (x0.length : Int) ∧ (x0.length : Int) ≤ (x0.length : Int)) <|
  (bindO (M_internal_bytealg_IndexString gm0 (sub' x0 (W (x18 + 1)) (x0.length : Int)) x1) fun (y30 : Int) =>
  (bif (decide (0 ≤ y30)) then
  some (W (y30 + (W (x18 + 1))))
  else
  some (-1))))
  else
  (bif (bif (bif (decide (gm0 < (x1.length : Int))) then (decide ((W (4 + (Int.fdiv (W (x18 + 1)) (2 ^ (min (Int.toNat 4) (IntKind.bits .i64)))))) ≤ (W (x11 + 1)))) else false) then (decide ((W (x18 + 1)) < (W ((W ((x0.length : Int) - (x1.length : Int))) + 1)))) else false) then
  (guardO (0 ≤ (W (x18 + 1)) ∧ (W (x18 + 1)) ≤ (x0.length : Int) ∧ (x0.length : Int) ≤ (x0.length : Int)) <|
  (bindO (M_internal_bytealg_IndexRabinKarpstring (sub' x0 (W (x18 + 1)) (x0.length : Int)) x1) fun (y37 : Int) =>
  (bif (decide (y37 < 0)) then
  some (-1)
  else
  some (W ((W (x18 + 1)) + y37)))))
  else
  k45 ((W (x18 + 1)), (W (x11 + 1)))))))))) fun j19 =>
  (guardO (0 ≤ x10 ∧ x10 < (x0.length : Int)) <|
  (bif (!(decide (((at' x0 x10).toNat : Int) = ((at' x1 0).toNat : Int)))) then
  (guardO (0 ≤ (W (x10 + 1)) ∧ (W (x10 + 1)) ≤ (W ((W ((x0.length : Int) - (x1.length : Int))) + 1)) ∧ (W ((W ((x0.length : Int) - (x1.length : Int))) + 1)) ≤ (x0.length : Int)) <|
  (bindO (M_internal_stringslite_IndexByte (sub' x0 (W (x10 + 1)) (W ((W ((x0.length : Int) - (x1.length : Int))) + 1))) (at' x1 0)) fun (y14 : Int) =>
  (bif (decide (y14 < 0)) then
  some (-1)
  else
  j19 (W (x10 + (W (y14 + 1)))))))
  else
  j19 x10)))
  else
  j61 ())

def M_internal_stringslite_Index (gm0 : Int) (x0 : List UInt8) (x1 : List UInt8) : Option Int :=
  (bif (bif (decide ((x1.length : Int) = 0)) then true else (decide (x1 = x0))) then
  some 0
  else
  (bif (decide ((x1.length : Int) = 1)) then
  (guardO (0 ≤ (0 : Int) ∧ 0 < (x1.length : Int)) <|
  (bindO (M_internal_stringslite_IndexByte x0 (at' x1 0)) fun (y4 : Int) =>
  some y4))
  else
  (bif (decide ((x0.length : Int) ≤ (x1.length : Int))) then
  some (-1)
  else
  (bif (bif (decide ((x1.length : Int) ≤ gm0)) then (decide ((x0.length : Int) ≤ 64)) else false) then
  (bindO (M_internal_bytealg_IndexString gm0 x0 x1) fun (y6 : Int) =>
  some y6)
  else
  (guardO (0 ≤ (0 : Int) ∧ 0 < (x1.length : Int)) <|
  (guardO (0 ≤ (1 : Int) ∧ 1 < (x1.length : Int)) <|
  (joinO (fun (_ : Unit) =>
  some (-1)) fun j61 =>
  (fixF (M_internal_stringslite_Index_L1 x0 x1 gm0 j61) FUEL (0, 0)))))))))

theorem ok_internal_stringslite_Index (x0 : List UInt8) (x1 : List UInt8) (gm0 : Int) (r : Int) (h : M_internal_stringslite_Index gm0 x0 x1 = some r) :
    FC Tryz.prog 142 [.string (bs x0), .string (bs x1)] [⟨(.int .i64), ⟨(some ⟨0, 0, none⟩), 1, 1⟩, [gm0]⟩] (fun _ : Unit => True) (fun _ => .int .i64 r) (fun _ => []) :=
  by
    refine FC.of (T := TTx) Tryz.call142 Tryz.func142 rfl rfl fun w0 => ?_
    unfold M_internal_stringslite_Index at h
    refine JS.rg0 ttOk 1 [] ⟨trivial, rfl⟩ rfl rfl (JS.rg0 ttOk 3 [(5, .v (.int .i64 (x1.length : Int)))] ⟨⟨rfl, trivial⟩, rfl⟩ rfl rfl (JS.seq (JS.block (JS.rg0 ttOk 8 [(16, .v (.bool (bif (decide ((x1.length : Int) = 0)) then true else (decide (x1 = x0)))))] ⟨⟨rfl, trivial⟩, rfl⟩ rfl rfl ?_))))
    refine JS.cond rfl (fun ht99 => ?_) (fun ht99 => ?_)
    · have h := condT h ht99
      refine JS.rg0 ttOk 1 [(4, .v (.int .i64 0))] ⟨⟨rfl, trivial⟩, rfl⟩ rfl rfl ?_
      cases h
      exact JS.ret ttOk () trivial rfl rfl [] rfl
    have h := condF h ht99
    refine JS.rg0 ttOk 3 [(24, .v (.bool (decide ((x1.length : Int) = 1))))] ⟨⟨rfl, trivial⟩, rfl⟩ rfl rfl ?_
    refine JS.cond rfl (fun ht98 => ?_) (fun ht98 => ?_)
    · have h := condT h ht98
      refine JS.seq (JS.region ?_)
      obtain ⟨g3, h⟩ := guardO_some h
      refine JO.reg ttOk 3 [] [] [(27, .v (.string (bs x0))), (29, .v (.int .u8 ((at' x1 0).toNat : Int)))] _ rfl ⟨g3, (Es rfl), rfl⟩ ?_
      obtain ⟨y4, hy5, h⟩ := bindO_some h
      refine JO.call rfl rfl rfl rfl (ok_internal_stringslite_IndexByte x0 (at' x1 0) _ hy5) rfl [] rfl rfl fun _ _ => JO.reg ttOk 1 [] [] [(4, .v (.int .i64 y4))] _ rfl ⟨⟨rfl, trivial⟩, rfl⟩ (JO.done rfl ?_)
      cases h
      exact JS.ret ttOk () trivial rfl rfl [] rfl
    have h := condF h ht98
    refine JS.rg0 ttOk 5 [(31, .v (.bool (decide ((x0.length : Int) ≤ (x1.length : Int)))))] ⟨⟨rfl, trivial⟩, rfl⟩ rfl rfl ?_
    refine JS.cond rfl (fun ht97 => ?_) (fun ht97 => ?_)
    · have h := condT h ht97
      refine JS.rg0 ttOk 1 [(4, .v (.int .i64 (-1)))] ⟨⟨rfl, trivial⟩, rfl⟩ rfl rfl ?_
      cases h
      exact JS.ret ttOk () trivial rfl rfl [] rfl
    have h := condF h ht97
    refine JS.seq (JS.region (JO.reg ttOk 1 [] [] [(37, .v (.int .i64 (x1.length : Int)))] _ rfl ⟨⟨rfl, trivial⟩, rfl⟩ (JO.loadV ttOk rfl rfl rfl rfl rfl rfl 0 rfl rfl 0 0 gm0 ⟨rfl, rfl⟩ rfl rfl rfl (JO.reg ttOk 7 [] [] [(36, .v (.bool (bif (decide ((x1.length : Int) ≤ gm0)) then (decide ((x0.length : Int) ≤ 64)) else false)))] _ rfl ⟨⟨rfl, trivial⟩, rfl⟩ (JO.done rfl ?_)))))
    refine JS.cond rfl (fun ht96 => ?_) (fun ht96 => ?_)
    · have h := condT h ht96
      refine JS.seq (JS.region (JO.reg ttOk 2 [] [] [(45, .v (.string (bs x0))), (46, .v (.string (bs x1)))] _ rfl ⟨(Es rfl), rfl⟩ ?_))
      obtain ⟨y6, hy7, h⟩ := bindO_some h
      refine JO.ext rfl rfl rfl rfl (ok_internal_bytealg_IndexString x0 x1 gm0 _ hy7) rfl [0] rfl rfl (JO.reg ttOk 1 [] [] [(4, .v (.int .i64 y6))] _ rfl ⟨⟨rfl, trivial⟩, rfl⟩ (JO.done rfl ?_))
      cases h
      exact JS.ret ttOk () trivial rfl rfl [] rfl
    have h := condF h ht96
    refine JS.skip (JS.endB (JS.seq (JS.region ?_)))
    obtain ⟨g8, h⟩ := guardO_some h
    refine JO.reg ttOk 3 [] [] [(6, .v (.int .u8 ((at' x1 0).toNat : Int)))] _ rfl ⟨g8, ⟨rfl, trivial⟩, rfl⟩ (JO.done rfl (JS.seq (JS.region ?_)))
    obtain ⟨g9, h⟩ := guardO_some h
    refine JO.reg ttOk 3 [] [] [(7, .v (.int .u8 ((at' x1 1).toNat : Int)))] _ rfl ⟨g9, ⟨rfl, trivial⟩, rfl⟩ (JO.done rfl (JS.rg0 ttOk 1 [(8, .v (.int .i64 0))] ⟨⟨rfl, trivial⟩, rfl⟩ rfl rfl (JS.rg ttOk 6 [(W ((x0.length : Int) - (x1.length : Int))), (W ((W ((x0.length : Int) - (x1.length : Int))) + 1))] [] [(9, .v (.int .i64 (W ((W ((x0.length : Int) - (x1.length : Int))) + 1))))] _ ⟨⟨trivial, rfl⟩, ⟨trivial, rfl⟩, ⟨rfl, trivial⟩, rfl⟩ rfl rfl (JS.rg0 ttOk 1 [(10, .v (.int .i64 0))] ⟨⟨rfl, trivial⟩, rfl⟩ rfl rfl (JS.seq ?_)))))
    obtain ⟨j61, hj95, h⟩ := joinO_some h
    refine JS.blockJ (ι := Unit) ⟨fun _ => j61 () = some r, fun _ => [], fun _ => .nil, fun _ => [⟨(.int .i64), ⟨(some ⟨0, 0, none⟩), 1, 1⟩, [gm0]⟩], fun _ => [], fun _ => 0⟩ ?_ ?_
    · refine JS.loop (ι := Nat × Int × Int) ⟨fun z => fixF (M_internal_stringslite_Index_L1 x0 x1 gm0 j61) z.1 (z.2.1, z.2.2) = some r, fun z => [(0, .v (.string (bs x0))), (1, .v (.string (bs x1))), (5, .v (.int .i64 (x1.length : Int))), (6, .v (.int .u8 ((at' x1 0).toNat : Int))), (7, .v (.int .u8 ((at' x1 1).toNat : Int))), (8, .v (.int .i64 z.2.1)), (9, .v (.int .i64 (W ((W ((x0.length : Int) - (x1.length : Int))) + 1)))), (10, .v (.int .i64 z.2.2))], fun z => .nil, fun z => [⟨(.int .i64), ⟨(some ⟨0, 0, none⟩), 1, 1⟩, [gm0]⟩], fun z => [], fun z => z.1⟩ (FUEL, 0, 0) h (Es rfl) trivial [0] rfl [] rfl ?_
      rintro ⟨n46, x10, x11⟩ h
      obtain ⟨n46, rfl, h⟩ := fixF_some h
      rw [M_internal_stringslite_Index_L1] at h
      refine JS.seq (JS.rg0 ttOk 3 [(59, .v (.bool (decide (x10 < (W ((W ((x0.length : Int) - (x1.length : Int))) + 1))))))] ⟨⟨rfl, trivial⟩, rfl⟩ rfl rfl ?_)
      refine JS.cond rfl (fun ht94 => ?_) (fun ht94 => ?_)
      · have h := condT h ht94
        refine JS.skip (JS.block ?_)
        obtain ⟨j19, hj93, h⟩ := joinO_some h
        refine JS.seqJ (ι := Int) ⟨fun z => j19 z = some r, fun z => [(0, .v (.string (bs x0))), (1, .v (.string (bs x1))), (5, .v (.int .i64 (x1.length : Int))), (6, .v (.int .u8 ((at' x1 0).toNat : Int))), (7, .v (.int .u8 ((at' x1 1).toNat : Int))), (8, .v (.int .i64 z)), (9, .v (.int .i64 (W ((W ((x0.length : Int) - (x1.length : Int))) + 1)))), (10, .v (.int .i64 x11))], fun z => .nil, fun z => [⟨(.int .i64), ⟨(some ⟨0, 0, none⟩), 1, 1⟩, [gm0]⟩], fun z => [], fun z => 0⟩ ?_ ?_
        · refine JS.seq (JS.region ?_)
          obtain ⟨g12, h⟩ := guardO_some h
          refine JO.reg ttOk 5 [] [] [(64, .v (.bool (!(decide (((at' x0 x10).toNat : Int) = ((at' x1 0).toNat : Int))))))] _ rfl ⟨g12, ⟨rfl, trivial⟩, rfl⟩ (JO.done rfl ?_)
          refine JS.cond rfl (fun ht82 => ?_) (fun ht82 => ?_)
          · have h := condT h ht82
            refine JS.seq (JS.region ?_)
            obtain ⟨g13, h⟩ := guardO_some h
            refine JO.reg ttOk 6 [(W (x10 + 1))] [] [(69, .v (.string (bs (sub' x0 (W (x10 + 1)) (W ((W ((x0.length : Int) - (x1.length : Int))) + 1)))))), (70, .v (.int .u8 ((at' x1 0).toNat : Int)))] _ rfl ⟨⟨trivial, rfl⟩, g13, (Es rfl), rfl⟩ ?_
            obtain ⟨y14, hy15, h⟩ := bindO_some h
            refine JO.call rfl rfl rfl rfl (ok_internal_stringslite_IndexByte (sub' x0 (W (x10 + 1)) (W ((W ((x0.length : Int) - (x1.length : Int))) + 1))) (at' x1 0) _ hy15) rfl [] rfl rfl fun _ _ => JO.reg ttOk 1 [] [] [(11, .v (.int .i64 y14))] _ rfl ⟨⟨rfl, trivial⟩, rfl⟩ (JO.done rfl (JS.seq (JS.rg0 ttOk 2 [(73, .v (.bool (decide (y14 < 0))))] ⟨⟨rfl, trivial⟩, rfl⟩ rfl rfl ?_)))
            refine JS.cond rfl (fun ht81 => ?_) (fun ht81 => ?_)
            · have h := condT h ht81
              refine JS.rg0 ttOk 1 [(4, .v (.int .i64 (-1)))] ⟨⟨rfl, trivial⟩, rfl⟩ rfl rfl ?_
              cases h
              exact JS.ret ttOk () trivial rfl rfl [] rfl
            have h := condF h ht81
            refine JS.skip (JS.re ttOk 5 [(W (y14 + 1)), (W (x10 + (W (y14 + 1))))] [] [(8, .v (.int .i64 (W (x10 + (W (y14 + 1))))))] _ ⟨⟨trivial, rfl⟩, ⟨trivial, rfl⟩, ⟨rfl, trivial⟩, rfl⟩ rfl rfl (JS.endJ (W (x10 + (W (y14 + 1)))) h (Es rfl) trivial [0] rfl [] rfl))
          have h := condF h ht82
          refine JS.skip (JS.endJ x10 h (Es rfl) trivial [0] rfl [] rfl)
        rintro x18 h
        subst hj93
        refine JS.seq (JS.seq (JS.region ?_))
        obtain ⟨g22, h⟩ := guardO_some h
        obtain ⟨g24, h⟩ := guardO_some h
        refine JO.reg ttOk 16 [(W (x18 + 1)), (W (x18 + (x1.length : Int)))] [] [(93, .v (.bool (bif (decide (((at' x0 (W (x18 + 1))).toNat : Int) = ((at' x1 1).toNat : Int))) then (decide ((sub' x0 x18 (W (x18 + (x1.length : Int)))) = x1)) else false)))] _ rfl ⟨⟨trivial, rfl⟩, g22, (fun q83 => ⟨trivial, rfl⟩), (fun q84 => (g24 q84)), ⟨rfl, trivial⟩, rfl⟩ (JO.done rfl ?_)
        refine JS.cond rfl (fun ht92 => ?_) (fun ht92 => ?_)
        · have h := condT h ht92
          refine JS.rg0 ttOk 2 [(4, .v (.int .i64 x18))] ⟨⟨rfl, trivial⟩, rfl⟩ rfl rfl ?_
          cases h
          exact JS.ret ttOk () trivial rfl rfl [] rfl
        have h := condF h ht92
        refine JS.skip (JS.rg ttOk 3 [(W (x18 + 1))] [] [(8, .v (.int .i64 (W (x18 + 1))))] _ ⟨⟨trivial, rfl⟩, ⟨rfl, trivial⟩, rfl⟩ rfl rfl (JS.rg ttOk 3 [(W (x11 + 1))] [] [(10, .v (.int .i64 (W (x11 + 1))))] _ ⟨⟨trivial, rfl⟩, ⟨rfl, trivial⟩, rfl⟩ rfl rfl (JS.seq (JS.region (JO.reg ttOk 1 [] [] [(99, .v (.int .i64 (x1.length : Int)))] _ rfl ⟨⟨rfl, trivial⟩, rfl⟩ (JO.loadV ttOk rfl rfl rfl rfl rfl rfl 0 rfl rfl 0 0 gm0 ⟨rfl, rfl⟩ rfl rfl rfl (JO.reg ttOk 4 [] [] [(102, .v (.bool (decide ((x1.length : Int) ≤ gm0)))), (103, .cd [(102, true)] (.v (.int .i64 (W (x11 + 1))))), (104, .cd [(102, true)] (.v (.int .i64 (W (x18 + 1)))))] _ rfl ⟨(Es rfl), rfl⟩ ?_)))))))
        obtain ⟨y26, hy27, -, h⟩ := callO_some h
        refine JO.callg rfl rfl rfl rfl (fun q85 => ok_internal_bytealg_Cutover (W (x18 + 1)) _ (hy27 q85)) rfl [] rfl rfl (JO.reg ttOk 2 [] [] [(107, .v (.bool (bif (decide ((x1.length : Int) ≤ gm0)) then (decide (y26 < (W (x11 + 1)))) else false)))] _ rfl ⟨⟨rfl, trivial⟩, rfl⟩ (JO.done rfl ?_))
        refine JS.cond rfl (fun ht91 => ?_) (fun ht91 => ?_)
        · have h := condT h ht91
          refine JS.seq (JS.region ?_)
          obtain ⟨g29, h⟩ := guardO_some h
          refine JO.reg ttOk 4 [] [] [(110, .v (.string (bs (sub' x0 (W (x18 + 1)) (x0.length : Int))))), (111, .v (.string (bs x1)))] _ rfl ⟨g29, (Es rfl), rfl⟩ ?_
          obtain ⟨y30, hy31, h⟩ := bindO_some h
          refine JO.ext rfl rfl rfl rfl (ok_internal_bytealg_IndexString (sub' x0 (W (x18 + 1)) (x0.length : Int)) x1 gm0 _ hy31) rfl [0] rfl rfl (JO.reg ttOk 1 [] [] [(12, .v (.int .i64 y30))] _ rfl ⟨⟨rfl, trivial⟩, rfl⟩ (JO.done rfl (JS.seq (JS.rg0 ttOk 2 [(114, .v (.bool (decide (0 ≤ y30))))] ⟨⟨rfl, trivial⟩, rfl⟩ rfl rfl ?_))))
          refine JS.cond rfl (fun ht86 => ?_) (fun ht86 => ?_)
          · have h := condT h ht86
            refine JS.rg ttOk 4 [(W (y30 + (W (x18 + 1))))] [] [(4, .v (.int .i64 (W (y30 + (W (x18 + 1))))))] _ ⟨⟨trivial, rfl⟩, ⟨rfl, trivial⟩, rfl⟩ rfl rfl ?_
            cases h
            exact JS.ret ttOk () trivial rfl rfl [] rfl
          have h := condF h ht86
          refine JS.skip (JS.rg0 ttOk 1 [(4, .v (.int .i64 (-1)))] ⟨⟨rfl, trivial⟩, rfl⟩ rfl rfl ?_)
          cases h
          exact JS.ret ttOk () trivial rfl rfl [] rfl
        have h := condF h ht91
        refine JS.seq (JS.region (JO.reg ttOk 1 [] [] [(118, .v (.int .i64 (x1.length : Int)))] _ rfl ⟨⟨rfl, trivial⟩, rfl⟩ (JO.loadV ttOk rfl rfl rfl rfl rfl rfl 0 rfl rfl 0 0 gm0 ⟨rfl, rfl⟩ rfl rfl rfl ?_)))
        have g33 : (0 : Int) ≤ 4 := by decide
        refine JO.reg ttOk 13 [(W (4 + (Int.fdiv (W (x18 + 1)) (2 ^ (min (Int.toNat 4) (IntKind.bits .i64))))))] [] [(132, .v (.bool (bif (bif (decide (gm0 < (x1.length : Int))) then (decide ((W (4 + (Int.fdiv (W (x18 + 1)) (2 ^ (min (Int.toNat 4) (IntKind.bits .i64)))))) ≤ (W (x11 + 1)))) else false) then (decide ((W (x18 + 1)) < (W ((W ((x0.length : Int) - (x1.length : Int))) + 1)))) else false)))] _ rfl ⟨(fun q87 => g33), (fun q88 => ⟨trivial, rfl⟩), ⟨rfl, trivial⟩, rfl⟩ (JO.done rfl ?_)
        refine JS.cond rfl (fun ht90 => ?_) (fun ht90 => ?_)
        · have h := condT h ht90
          refine JS.seq (JS.region ?_)
          obtain ⟨g36, h⟩ := guardO_some h
          refine JO.reg ttOk 4 [] [] [(135, .v (.string (bs (sub' x0 (W (x18 + 1)) (x0.length : Int))))), (136, .v (.string (bs x1)))] _ rfl ⟨g36, (Es rfl), rfl⟩ ?_
          obtain ⟨y37, hy38, h⟩ := bindO_some h
          refine JO.call rfl rfl rfl rfl (ok_internal_bytealg_IndexRabinKarpstring (sub' x0 (W (x18 + 1)) (x0.length : Int)) x1 _ hy38) rfl [] rfl rfl fun _ _ => JO.reg ttOk 1 [] [] [(13, .v (.int .i64 y37))] _ rfl ⟨⟨rfl, trivial⟩, rfl⟩ (JO.done rfl (JS.seq (JS.rg0 ttOk 2 [(139, .v (.bool (decide (y37 < 0))))] ⟨⟨rfl, trivial⟩, rfl⟩ rfl rfl ?_)))
          refine JS.cond rfl (fun ht89 => ?_) (fun ht89 => ?_)
          · have h := condT h ht89
            refine JS.rg0 ttOk 1 [(4, .v (.int .i64 (-1)))] ⟨⟨rfl, trivial⟩, rfl⟩ rfl rfl ?_
            cases h
            exact JS.ret ttOk () trivial rfl rfl [] rfl
          have h := condF h ht89
          refine JS.skip (JS.rg ttOk 4 [(W ((W (x18 + 1)) + y37))] [] [(4, .v (.int .i64 (W ((W (x18 + 1)) + y37))))] _ ⟨⟨trivial, rfl⟩, ⟨rfl, trivial⟩, rfl⟩ rfl rfl ?_)
          cases h
          exact JS.ret ttOk () trivial rfl rfl [] rfl
        have h := condF h ht90
        refine JS.skip (JS.endB (JS.endL (n46, (W (x18 + 1)), (W (x11 + 1))) h (Nat.lt_succ_self _) (Es rfl) trivial [0] rfl [] rfl))
      have h := condF h ht94
      refine JS.exit rfl (JS.endJ () h trivial trivial [0] rfl [] rfl)
    rintro _ h
    subst hj95
    refine JS.rg0 ttOk 1 [(4, .v (.int .i64 (-1)))] ⟨⟨rfl, trivial⟩, rfl⟩ rfl rfl ?_
    cases h
    exact JS.ret ttOk () trivial rfl rfl [] rfl

def M_strings_IndexG (gm0 : Int) (x0 : List UInt8) (x1 : List UInt8) : Option Int :=
  (bindO (M_internal_stringslite_Index gm0 x0 x1) fun (y3 : Int) =>
  some y3)

theorem ok_strings_IndexG (x0 : List UInt8) (x1 : List UInt8) (gm0 : Int) (r : Int) (h : M_strings_IndexG gm0 x0 x1 = some r) :
    FC Tryz.prog 60 [.string (bs x0), .string (bs x1)] [⟨(.int .i64), ⟨(some ⟨0, 0, none⟩), 1, 1⟩, [gm0]⟩] (fun _ : Unit => True) (fun _ => .int .i64 r) (fun _ => []) :=
  by
    refine FC.of (T := TTx) Tryz.call60 Tryz.func60 rfl rfl fun w0 => ?_
    unfold M_strings_IndexG at h
    refine JS.rg0 ttOk 1 [] ⟨trivial, rfl⟩ rfl rfl (JS.seq (JS.region (JO.reg ttOk 2 [] [] [(5, .v (.string (bs x0))), (6, .v (.string (bs x1)))] _ rfl ⟨(Es rfl), rfl⟩ ?_)))
    obtain ⟨y3, hy4, h⟩ := bindO_some h
    refine JO.call rfl rfl rfl rfl (ok_internal_stringslite_Index x0 x1 gm0 _ hy4) rfl [0] rfl rfl fun _ _ => JO.reg ttOk 1 [] [] [(4, .v (.int .i64 y3))] _ rfl ⟨⟨rfl, trivial⟩, rfl⟩ (JO.done rfl ?_)
    cases h
    exact JS.ret ttOk () trivial rfl rfl [] rfl

theorem bindO_eq {α β : Type} {m : Option α} {k : α → Option β} {y : α} (h : m = some y) : bindO m k = k y := by rw [h]; rfl
theorem u32W (x : Int) : IntKind.u32.wrap x = x % 4294967296 := by
  simp [IntKind.wrap, IntKind.bits, IntKind.signed]
theorem atN (l : List UInt8) (k : Nat) (h : k < l.length) : at' l (k : Int) = l[k] := by
  simp [at', List.getD, List.getElem?_eq_getElem h]
theorem takeS (l : List UInt8) (k : Nat) (h : k < l.length) : l.take (k + 1) = l.take k ++ [at' l (k : Int)] := by
  rw [atN l k h, List.take_add_one, List.getElem?_eq_getElem h]; rfl
theorem Wn {x : Int} (h1 : -9000000000000000000 ≤ x) (h2 : x ≤ 9000000000000000000) : W x = x := W_eq (by omega) (by omega)

theorem hash_loop (x0 : List UInt8) (hl : x0.length < 4294967281) (j : Int → Option (Int × Int)) : ∀ (m k : Nat), k ≤ x0.length → x0.length - k < m →
    fixF (M_internal_bytealg_hashStrstring_L1 x0 j) m (Lib.RK.H (x0.take k) % 4294967296, (k : Int)) = j (Lib.RK.H x0 % 4294967296) := by
  intro m
  induction m with
  | zero => intro k _ h; omega
  | succ m ih =>
    intro k h1 hm
    simp only [fixF, M_internal_bytealg_hashStrstring_L1, guardO, Bool.cond_decide]
    by_cases hk : k < x0.length
    · rw [if_pos (by omega), if_pos (by omega), Wn (by omega) (by omega)]
      simp only [u32W]
      rw [Lib.RK.step_mod (at' x0 (k : Int)) rfl, ← Lib.RK.H_snoc, ← takeS x0 k hk]
      exact ih (k + 1) (by omega) (by omega)
    · rw [if_neg (by omega)]
      obtain rfl : k = x0.length := by omega
      rw [List.take_length]

theorem and1 (i : Nat) (h : i < 4294967296) : W (((BitVec.ofInt (IntKind.bits .i64) (i : Int) &&& BitVec.ofInt (IntKind.bits .i64) 1).toNat : Nat) : Int) = ((i % 2 : Nat) : Int) := by
  have e : (BitVec.ofInt (IntKind.bits .i64) (i : Int) &&& BitVec.ofInt (IntKind.bits .i64) 1).toNat = i % 2 := by
    rw [BitVec.toNat_and]
    have e1 : (BitVec.ofInt (IntKind.bits .i64) (i : Int)).toNat = i := by
      rw [BitVec.toNat_ofInt]
      simp only [IntKind.bits]
      omega
    have e2 : (BitVec.ofInt (IntKind.bits .i64) 1).toNat = 1 := by decide
    rw [e1, e2, Nat.and_one_is_mod]
  rw [e, Wn (by omega) (by omega)]

theorem pow_loop (n : Nat) (hn : n < 4294967281) (j : Int → Option (Int × Int)) : ∀ (m i : Nat) (pw sq : Int), i ≤ n → i < m → Lib.RK.PowInv n i pw sq → 0 ≤ pw → pw < 4294967296 →
    fixF (M_internal_bytealg_hashStrstring_L2 j) m (pw, sq, (i : Int)) = j (16777619 ^ n % 4294967296) := by
  intro m
  induction m with
  | zero => intro i _ _ _ h; omega
  | succ m ih =>
    intro i pw sq hi hm hp p0 p1
    simp only [fixF, M_internal_bytealg_hashStrstring_L2, joinO, Bool.cond_decide]
    by_cases hk : 0 < i
    · have ed : Int.fdiv (i : Int) (2 ^ (min (Int.toNat 1) (IntKind.bits .i64))) = ((i / 2 : Nat) : Int) := by
        rw [show (2 : Int) ^ (min (Int.toNat 1) (IntKind.bits .i64)) = 2 from by decide, Int.fdiv_eq_ediv_of_nonneg _ (by omega)]
        omega
      rw [if_pos (by omega), and1 i (by omega), ed]
      simp only [u32W]
      rcases Nat.mod_two_eq_zero_or_one i with h2 | h2
      · rw [h2, decide_eq_true (show ((0 : Nat) : Int) = 0 from rfl)]
        exact ih (i / 2) pw _ (by omega) (by omega) (Lib.RK.pow_even hp h2) p0 p1
      · rw [h2, decide_eq_false (show ¬ ((1 : Nat) : Int) = 0 by decide)]
        exact ih (i / 2) _ _ (by omega) (by omega) (Lib.RK.pow_odd hp h2) (Int.emod_nonneg _ (by decide)) (Int.emod_lt_of_pos _ (by decide))
    · rw [if_neg (by omega)]
      obtain rfl : i = 0 := by omega
      rw [Lib.RK.pow_end hp p0 p1]

theorem hashStr_eq (x0 : List UInt8) (hl : x0.length < 4294967281) : M_internal_bytealg_hashStrstring x0 = some (Lib.RK.H x0 % 4294967296, 16777619 ^ x0.length % 4294967296) := by
  unfold M_internal_bytealg_hashStrstring
  simp only [joinO]
  refine (hash_loop x0 hl _ FUEL 0 (by omega) (by have := fuel_eq; omega)).trans ?_
  exact pow_loop x0.length hl _ FUEL x0.length 1 16777619 (by omega) (by have := fuel_eq; omega) (Lib.RK.pow_start _) (by decide) (by decide)

theorem occ_sub (s sub : List UInt8) (i : Nat) (h : i + sub.length ≤ s.length) : Lib.occAt s sub i = decide (sub' s (i : Int) ((i : Int) + (sub.length : Int)) = sub) := by
  rw [Lib.RK.occAt_win s sub i h]
  have : sub' s (i : Int) ((i : Int) + (sub.length : Int)) = Lib.RK.win s i sub.length := by
    unfold sub' Lib.RK.win
    rw [show ((i : Int) + (sub.length : Int)).toNat - (i : Int).toNat = sub.length by omega, Int.toNat_natCast]
  rw [this]
  by_cases h : Lib.RK.win s i sub.length = sub <;> simp [h]

theorem rk_loop1 (x0 x1 : List UInt8) (hl : x0.length < 4294967281) (h2 : x1.length ≤ x0.length) (j : Int → Option Int) : ∀ (m k : Nat), k ≤ x1.length → x1.length - k < m →
    fixF (M_internal_bytealg_IndexRabinKarpstring_L1 x0 x1 j) m (Lib.RK.H (x0.take k) % 4294967296, (k : Int)) = j (Lib.RK.H (x0.take x1.length) % 4294967296) := by
  intro m
  induction m with
  | zero => intro k _ h; omega
  | succ m ih =>
    intro k h1 hm
    simp only [fixF, M_internal_bytealg_IndexRabinKarpstring_L1, guardO, Bool.cond_decide]
    by_cases hk : k < x1.length
    · rw [if_pos (by omega), if_pos (by omega), Wn (by omega) (by omega)]
      simp only [u32W]
      rw [Lib.RK.step_mod (at' x0 (k : Int)) rfl, ← Lib.RK.H_snoc, ← takeS x0 k (by omega)]
      exact ih (k + 1) (by omega) (by omega)
    · rw [if_neg (by omega)]
      obtain rfl : k = x1.length := by omega
      rfl

theorem rk_loop2 (x0 x1 : List UInt8) (hl : x0.length < 4294967281) (h1 : 1 ≤ x1.length) : ∀ (m q : Nat), q + x1.length ≤ x0.length → Lib.NoOcc x0 x1 (q + 1) → x0.length - q < m →
    fixF (M_internal_bytealg_IndexRabinKarpstring_L2 x0 x1 (Lib.RK.H x1 % 4294967296) (16777619 ^ x1.length % 4294967296) fun _ => some (-1)) m (Lib.RK.H (Lib.RK.win x0 q x1.length) % 4294967296, ((q + x1.length : Nat) : Int)) = some (Lib.index x0 x1) := by
  intro m
  induction m with
  | zero => intro q _ _ h; omega
  | succ m ih =>
    intro q hq hno hm
    simp only [fixF, M_internal_bytealg_IndexRabinKarpstring_L2, guardO, Bool.cond_decide]
    by_cases hk : q + x1.length < x0.length
    · rw [if_pos (by omega), if_pos (by omega), Wn (x := ((q + x1.length : Nat) : Int) - (x1.length : Int)) (by omega) (by omega), Wn (x := ((q + x1.length : Nat) : Int) + 1) (by omega) (by omega), Wn (by omega) (by omega)]
      rw [if_pos (by omega)]
      have ei : ((q + x1.length : Nat) : Int) - (x1.length : Int) = (q : Int) := by omega
      have ej : ((q + x1.length : Nat) : Int) + 1 - (x1.length : Int) = ((q + 1 : Nat) : Int) := by omega
      rw [ei, ej]
      simp only [u32W]
      obtain ⟨n, hn⟩ : ∃ n, x1.length = n + 1 := ⟨x1.length - 1, by omega⟩
      have hw := Lib.RK.win_cons x0 q n (by omega)
      have hs := Lib.RK.win_snoc x0 (q + 1) n (by omega)
      have hr := Lib.RK.roll_mod (h := Lib.RK.H (Lib.RK.win x0 q x1.length) % 4294967296) (pw := 16777619 ^ x1.length % 4294967296) (x0[q]'(by omega)) (x0[q + 1 + n]'(by omega)) (Lib.RK.win x0 (q + 1) n) (by rw [hn, hw]) (by rw [hn, Lib.RK.win_length _ _ _ (by omega)])
      rw [← hs, ← hn] at hr
      have ea : at' x0 ((q + x1.length : Nat) : Int) = x0[q + 1 + n]'(by omega) := by rw [atN x0 _ (by omega)]; congr 1; omega
      have eb : at' x0 (q : Int) = x0[q]'(by omega) := atN x0 _ (by omega)
      rw [ea, eb]
      have eh : ((Lib.RK.H (Lib.RK.win x0 q x1.length) % 4294967296 * 16777619 % 4294967296 + ((x0[q + 1 + n]'(by omega)).toNat : Int) % 4294967296) % 4294967296 - 16777619 ^ x1.length % 4294967296 * (((x0[q]'(by omega)).toNat : Int) % 4294967296) % 4294967296) % 4294967296 = Lib.RK.H (Lib.RK.win x0 (q + 1) x1.length) % 4294967296 := by
        rw [← hr]
        generalize 16777619 ^ x1.length % 4294967296 * (((x0[q]'(by omega)).toNat : Int) % 4294967296) = T
        generalize Lib.RK.H (Lib.RK.win x0 q x1.length) % 4294967296 = A
        omega
      rw [eh]
      have hocc := occ_sub x0 x1 (q + 1) (by omega)
      have ew : sub' x0 ((q + 1 : Nat) : Int) (((q + x1.length : Nat) : Int) + 1) = sub' x0 ((q + 1 : Nat) : Int) (((q + 1 : Nat) : Int) + (x1.length : Int)) := by congr 1; omega
      rw [ew]
      have hnext : Lib.occAt x0 x1 (q + 1) = false → fixF (M_internal_bytealg_IndexRabinKarpstring_L2 x0 x1 (Lib.RK.H x1 % 4294967296) (16777619 ^ x1.length % 4294967296) fun _ => some (-1)) m (Lib.RK.H (Lib.RK.win x0 (q + 1) x1.length) % 4294967296, ((q + x1.length : Nat) : Int) + 1) = some (Lib.index x0 x1) := by
        intro ho
        have := ih (q + 1) (by omega) (hno.succ ho) (by omega)
        rw [show ((q + x1.length : Nat) : Int) + 1 = ((q + 1 + x1.length : Nat) : Int) by omega]
        exact this
      rw [if_pos (fun _ => by omega)]
      by_cases hh : Lib.RK.H (Lib.RK.win x0 (q + 1) x1.length) % 4294967296 = Lib.RK.H x1 % 4294967296
      · rw [if_pos hh]
        by_cases hx : sub' x0 ((q + 1 : Nat) : Int) (((q + 1 : Nat) : Int) + (x1.length : Int)) = x1
        · rw [decide_eq_true hx, cond_true]
          rw [decide_eq_true hx] at hocc
          rw [Lib.index_hit hno (by omega) hocc]
        · rw [decide_eq_false hx, cond_false]
          rw [decide_eq_false hx] at hocc
          exact hnext hocc
      · rw [if_neg hh, cond_false]
        refine hnext ?_
        rw [Lib.RK.occAt_win x0 x1 (q + 1) (by omega)]
        exact beq_eq_false_iff_ne.2 (Lib.RK.hash_ne rfl rfl hh)
    · rw [if_neg (by omega)]
      rw [Lib.index_past (by intro h; rw [h] at h1; simp at h1) hno (by omega)]

theorem rk_eq (x0 x1 : List UInt8) (hl : x0.length < 4294967281) (h1 : 1 ≤ x1.length) (h2 : x1.length ≤ x0.length) : M_internal_bytealg_IndexRabinKarpstring x0 x1 = some (Lib.index x0 x1) := by
  unfold M_internal_bytealg_IndexRabinKarpstring
  rw [bindO_eq (hashStr_eq x1 (by omega))]
  simp only [joinO]
  refine (rk_loop1 x0 x1 hl h2 _ FUEL 0 (by omega) (by have := fuel_eq; omega)).trans ?_
  simp only [guardO]
  rw [if_pos (fun _ => by omega)]
  have hocc := occ_sub x0 x1 0 (by omega)
  have ew : sub' x0 0 (x1.length : Int) = sub' x0 ((0 : Nat) : Int) (((0 : Nat) : Int) + (x1.length : Int)) := by congr 1; omega
  rw [ew]
  have hnext : Lib.occAt x0 x1 0 = false → fixF (M_internal_bytealg_IndexRabinKarpstring_L2 x0 x1 (Lib.RK.H x1 % 4294967296) (16777619 ^ x1.length % 4294967296) fun _ => some (-1)) FUEL (Lib.RK.H (x0.take x1.length) % 4294967296, (x1.length : Int)) = some (Lib.index x0 x1) := by
    intro ho
    have := rk_loop2 x0 x1 hl h1 FUEL 0 (by omega) ((Lib.NoOcc.zero x0 x1).succ ho) (by have := fuel_eq; omega)
    rw [show ((0 + x1.length : Nat) : Int) = (x1.length : Int) by omega] at this
    exact this
  by_cases hh : Lib.RK.H (x0.take x1.length) % 4294967296 = Lib.RK.H x1 % 4294967296
  · rw [decide_eq_true hh, cond_true]
    by_cases hx : sub' x0 ((0 : Nat) : Int) (((0 : Nat) : Int) + (x1.length : Int)) = x1
    · rw [decide_eq_true hx, cond_true]
      rw [decide_eq_true hx] at hocc
      rw [Lib.index_hit (Lib.NoOcc.zero _ _) (by omega) hocc]
      rfl
    · rw [decide_eq_false hx, cond_false]
      rw [decide_eq_false hx] at hocc
      exact hnext hocc
  · rw [decide_eq_false hh, cond_false, cond_false]
    refine hnext ?_
    rw [Lib.RK.occAt_win x0 x1 0 (by omega)]
    exact beq_eq_false_iff_ne.2 (Lib.RK.hash_ne rfl rfl hh)

theorem index1 : ∀ (s : List UInt8) (c : UInt8), Lib.index s [c] = Lib.indexByte s c
  | [], c => by simp [Lib.index, Lib.indexByte]
  | b :: l, c => by
    rw [Lib.index, Lib.indexByte, index1 l c]
    by_cases h : b = c
    · subst h; simp [List.isPrefixOf]
    · have h1 : (b == c) = false := beq_eq_false_iff_ne.2 h
      have h2 : (c == b) = false := beq_eq_false_iff_ne.2 fun e => h e.symm
      simp [List.isPrefixOf, h1, h2]

theorem ixSubDrop (s : List UInt8) (i : Nat) (h : i ≤ s.length) : sub' s (i : Int) (s.length : Int) = s.drop i := by
  unfold sub'
  rw [List.take_of_length_le (by rw [List.length_drop]; omega), Int.toNat_natCast]

theorem ixByteEq (a b : UInt8) : ((a.toNat : Int) = (b.toNat : Int)) ↔ a = b := by
  constructor
  · intro h
    exact UInt8.toNat_inj.1 (by omega)
  · intro h; rw [h]

theorem index_loop (x0 x1 : List UInt8) (gm : Int) (hl : x0.length < 4294967281) (h2 : 2 ≤ x1.length) (hn : x1.length < x0.length) : ∀ (m i : Nat) (f : Int), i + x1.length ≤ x0.length + 1 → 0 ≤ f → f ≤ (i : Int) → Lib.NoOcc x0 x1 i → x0.length + 1 - i < m →
    fixF (M_internal_stringslite_Index_L1 x0 x1 gm fun _ => some (-1)) m ((i : Int), f) = some (Lib.index x0 x1) := by
  obtain ⟨c0, c1, tl, hx⟩ : ∃ c0 c1 tl, x1 = c0 :: c1 :: tl := by
    match x1, h2 with
    | a :: b :: t, _ => exact ⟨a, b, t, rfl⟩
  have e0 : at' x1 0 = c0 := by rw [hx]; rfl
  have e1 : at' x1 1 = c1 := by rw [hx]; rfl
  intro m
  induction m with
  | zero => intro i _ _ _ _ _ h; omega
  | succ m ih =>
    intro i f hi f0 f1 hno hm
    simp only [fixF, M_internal_stringslite_Index_L1, joinO, guardO]
    rw [Wn (x := (x0.length : Int) - (x1.length : Int)) (by omega) (by omega), Wn (x := (x0.length : Int) - (x1.length : Int) + 1) (by omega) (by omega), Wn (x := (i : Int) + 1) (by omega) (by omega), Wn (x := f + 1) (by omega) (by omega), e0, e1]
    have J : ∀ q : Nat, i ≤ q → q + x1.length ≤ x0.length → Lib.NoOcc x0 x1 q →
        (if 0 ≤ W ((q : Int) + 1) ∧ W ((q : Int) + 1) < (x0.length : Int) then
          if decide (((at' x0 (W ((q : Int) + 1))).toNat : Int) = (c1.toNat : Int)) = true → 0 ≤ (q : Int) ∧ (q : Int) ≤ W ((q : Int) + (x1.length : Int)) ∧ W ((q : Int) + (x1.length : Int)) ≤ (x0.length : Int) then
            bif bif decide (((at' x0 (W ((q : Int) + 1))).toNat : Int) = (c1.toNat : Int)) then decide (sub' x0 (q : Int) (W ((q : Int) + (x1.length : Int))) = x1) else false then some (q : Int)
            else
              callO (decide ((x1.length : Int) ≤ gm) = true) (M_internal_bytealg_Cutover (W ((q : Int) + 1))) (0 : Int) fun (y26 : Int) =>
                bif bif decide ((x1.length : Int) ≤ gm) then decide (y26 < f + 1) else false then
                  if 0 ≤ W ((q : Int) + 1) ∧ W ((q : Int) + 1) ≤ (x0.length : Int) ∧ (x0.length : Int) ≤ (x0.length : Int) then
                    bindO (M_internal_bytealg_IndexString gm (sub' x0 (W ((q : Int) + 1)) (x0.length : Int)) x1) fun (y30 : Int) =>
                      bif decide (0 ≤ y30) then some (W (y30 + W ((q : Int) + 1))) else some (-1)
                  else none
                else
                  bif bif bif decide (gm < (x1.length : Int)) then decide (W (4 + Int.fdiv (W ((q : Int) + 1)) (2 ^ (min (Int.toNat 4) (IntKind.bits .i64)))) ≤ f + 1) else false then decide (W ((q : Int) + 1) < (x0.length : Int) - (x1.length : Int) + 1) else false then
                    if 0 ≤ W ((q : Int) + 1) ∧ W ((q : Int) + 1) ≤ (x0.length : Int) ∧ (x0.length : Int) ≤ (x0.length : Int) then
                      bindO (M_internal_bytealg_IndexRabinKarpstring (sub' x0 (W ((q : Int) + 1)) (x0.length : Int)) x1) fun (y37 : Int) =>
                        bif decide (y37 < 0) then some (-1) else some (W (W ((q : Int) + 1) + y37))
                    else none
                  else fixF (M_internal_stringslite_Index_L1 x0 x1 gm fun _ => some (-1)) m (W ((q : Int) + 1), f + 1)
          else none
        else none) = some (Lib.index x0 x1) := by
      intro q hq1 hq2 hnq
      rw [Wn (x := (q : Int) + 1) (by omega) (by omega), Wn (x := (q : Int) + (x1.length : Int)) (by omega) (by omega), if_pos (by omega), if_pos (fun _ => by omega)]
      have hocc := occ_sub x0 x1 q hq2
      have ec : ((q : Int) + 1) = ((q + 1 : Nat) : Int) := by omega
      have next : Lib.occAt x0 x1 q = false →
          (callO (decide ((x1.length : Int) ≤ gm) = true) (M_internal_bytealg_Cutover ((q : Int) + 1)) (0 : Int) fun (y26 : Int) =>
                bif bif decide ((x1.length : Int) ≤ gm) then decide (y26 < f + 1) else false then
                  if 0 ≤ (q : Int) + 1 ∧ (q : Int) + 1 ≤ (x0.length : Int) ∧ (x0.length : Int) ≤ (x0.length : Int) then
                    bindO (M_internal_bytealg_IndexString gm (sub' x0 ((q : Int) + 1) (x0.length : Int)) x1) fun (y30 : Int) =>
                      bif decide (0 ≤ y30) then some (W (y30 + ((q : Int) + 1))) else some (-1)
                  else none
                else
                  bif bif bif decide (gm < (x1.length : Int)) then decide (W (4 + Int.fdiv ((q : Int) + 1) (2 ^ (min (Int.toNat 4) (IntKind.bits .i64)))) ≤ f + 1) else false then decide ((q : Int) + 1 < (x0.length : Int) - (x1.length : Int) + 1) else false then
                    if 0 ≤ (q : Int) + 1 ∧ (q : Int) + 1 ≤ (x0.length : Int) ∧ (x0.length : Int) ≤ (x0.length : Int) then
                      bindO (M_internal_bytealg_IndexRabinKarpstring (sub' x0 ((q : Int) + 1) (x0.length : Int)) x1) fun (y37 : Int) =>
                        bif decide (y37 < 0) then some (-1) else some (W ((q : Int) + 1 + y37))
                    else none
                  else fixF (M_internal_stringslite_Index_L1 x0 x1 gm fun _ => some (-1)) m ((q : Int) + 1, f + 1)) = some (Lib.index x0 x1) := by
        intro ho
        have hn1 := hnq.succ ho
        have hdr := Lib.index_drop hn1 (by omega)
        have hge := Lib.index_ge (x0.drop (q + 1)) x1
        have hroom := Lib.index_room (x0.drop (q + 1)) x1
        rw [List.length_drop] at hroom
        have hcont := ih (q + 1) (f + 1) (by omega) (by omega) (by omega) hn1 (by omega)
        have hs1 : sub' x0 ((q : Int) + 1) (x0.length : Int) = x0.drop (q + 1) := by rw [ec]; exact ixSubDrop x0 (q + 1) (by omega)
        have hfin : ∀ r : Int, r = Lib.index (x0.drop (q + 1)) x1 → (if 0 ≤ r then r + ((q : Int) + 1) else -1) = Lib.index x0 x1 := by
          intro r hr
          rw [hdr, ← hr]
          rw [← hr] at hge
          by_cases h : r = -1
          · subst h; rfl
          · rw [show (r == -1) = false from beq_eq_false_iff_ne.2 h, if_pos (by omega), ec]; rfl
        rw [← ec] at hcont
        rw [show M_internal_bytealg_Cutover ((q : Int) + 1) = some (W (Int.tdiv (W ((q : Int) + 1 + 16)) 8)) from rfl]
        rw [hs1]
        have key : ∀ y26 : Int, (bif bif decide ((x1.length : Int) ≤ gm) then decide (y26 < f + 1) else false then
                  if 0 ≤ (q : Int) + 1 ∧ (q : Int) + 1 ≤ (x0.length : Int) ∧ (x0.length : Int) ≤ (x0.length : Int) then
                    bindO (M_internal_bytealg_IndexString gm (x0.drop (q + 1)) x1) fun (y30 : Int) =>
                      bif decide (0 ≤ y30) then some (W (y30 + ((q : Int) + 1))) else some (-1)
                  else none
                else
                  bif bif bif decide (gm < (x1.length : Int)) then decide (W (4 + Int.fdiv ((q : Int) + 1) (2 ^ (min (Int.toNat 4) (IntKind.bits .i64)))) ≤ f + 1) else false then decide ((q : Int) + 1 < (x0.length : Int) - (x1.length : Int) + 1) else false then
                    if 0 ≤ (q : Int) + 1 ∧ (q : Int) + 1 ≤ (x0.length : Int) ∧ (x0.length : Int) ≤ (x0.length : Int) then
                      bindO (M_internal_bytealg_IndexRabinKarpstring (x0.drop (q + 1)) x1) fun (y37 : Int) =>
                        bif decide (y37 < 0) then some (-1) else some (W ((q : Int) + 1 + y37))
                    else none
                  else fixF (M_internal_stringslite_Index_L1 x0 x1 gm fun _ => some (-1)) m ((q : Int) + 1, f + 1)) = some (Lib.index x0 x1) := by
          intro y26
          have hp : 0 ≤ (q : Int) + 1 ∧ (q : Int) + 1 ≤ (x0.length : Int) ∧ (x0.length : Int) ≤ (x0.length : Int) := by omega
          cases hb : (bif decide ((x1.length : Int) ≤ gm) then decide (y26 < f + 1) else false) with
          | true =>
            have hgm : (x1.length : Int) ≤ gm := by
              by_cases h : (x1.length : Int) ≤ gm
              · exact h
              · rw [decide_eq_false h] at hb; cases hb
            rw [cond_true, if_pos hp]
            have hi : M_internal_bytealg_IndexString gm (x0.drop (q + 1)) x1 = some (Lib.index (x0.drop (q + 1)) x1) := by
              unfold M_internal_bytealg_IndexString guardO
              rw [if_pos ⟨h2, hgm, by rw [List.length_drop]; omega⟩]
            rw [bindO_eq hi]
            have := hfin _ rfl
            generalize Lib.index (x0.drop (q + 1)) x1 = r at *
            by_cases h : 0 ≤ r
            · rw [decide_eq_true h, cond_true, Wn (by omega) (by omega)]
              rw [if_pos h] at this
              rw [this]
            · rw [decide_eq_false h, cond_false]
              rw [if_neg h] at this
              rw [this]
          | false =>
            rw [cond_false]
            cases hb2 : (bif bif decide (gm < (x1.length : Int)) then decide (W (4 + Int.fdiv ((q : Int) + 1) (2 ^ (min (Int.toNat 4) (IntKind.bits .i64)))) ≤ f + 1) else false then decide ((q : Int) + 1 < (x0.length : Int) - (x1.length : Int) + 1) else false) with
            | true =>
              have ht : (q : Int) + 1 < (x0.length : Int) - (x1.length : Int) + 1 := by
                by_cases h : (q : Int) + 1 < (x0.length : Int) - (x1.length : Int) + 1
                · exact h
                · rw [decide_eq_false h] at hb2
                  revert hb2
                  cases (bif decide (gm < (x1.length : Int)) then decide (W (4 + Int.fdiv ((q : Int) + 1) (2 ^ (min (Int.toNat 4) (IntKind.bits .i64)))) ≤ f + 1) else false) <;> intro h' <;> cases h'
              rw [cond_true, if_pos hp, bindO_eq (rk_eq (x0.drop (q + 1)) x1 (by rw [List.length_drop]; omega) (by omega) (by rw [List.length_drop]; omega))]
              have := hfin _ rfl
              generalize Lib.index (x0.drop (q + 1)) x1 = r at *
              by_cases h : r < 0
              · rw [decide_eq_true h, cond_true]
                rw [if_neg (by omega)] at this
                rw [this]
              · rw [decide_eq_false h, cond_false, Wn (by omega) (by omega)]
                rw [if_pos (by omega)] at this
                rw [← this]
                congr 1; omega
            | false =>
              rw [cond_false]
              exact hcont
        unfold callO
        split
        · exact key _
        · exact key _
      by_cases h1 : ((at' x0 ((q : Int) + 1)).toNat : Int) = (c1.toNat : Int)
      · rw [decide_eq_true h1, cond_true]
        by_cases hs : sub' x0 (q : Int) ((q : Int) + (x1.length : Int)) = x1
        · rw [decide_eq_true hs, cond_true]
          rw [decide_eq_true hs] at hocc
          rw [Lib.index_hit hnq (by omega) hocc]
        · rw [decide_eq_false hs, cond_false]
          rw [decide_eq_false hs] at hocc
          exact next hocc
      · rw [decide_eq_false h1, cond_false, cond_false]
        refine next ?_
        cases ho : Lib.occAt x0 x1 q with
        | false => rfl
        | true =>
          have := Lib.occAt_second hx ho
          rw [ec, atN x0 (q + 1) (by omega)] at h1
          rw [List.getElem?_eq_getElem (by omega)] at this
          exact absurd ((ixByteEq _ _).2 (Option.some.inj this)) h1
    by_cases hk : (i : Int) < (x0.length : Int) - (x1.length : Int) + 1
    · rw [decide_eq_true hk, cond_true, if_pos (by omega)]
      have hat := atN x0 i (by omega)
      by_cases hc : ((at' x0 (i : Int)).toNat : Int) = (c0.toNat : Int)
      · rw [decide_eq_true hc, Bool.not_true, cond_false]
        have := J i (Nat.le_refl _) (by omega) hno
        rw [Wn (x := (i : Int) + 1) (by omega) (by omega)] at this
        exact this
      · rw [decide_eq_false hc, Bool.not_false, cond_true, if_pos (by omega)]
        have h0 : x0[i]? ≠ some c0 := by
          rw [List.getElem?_eq_getElem (by omega), ← hat]
          intro h
          exact hc ((ixByteEq _ _).2 (Option.some.inj h))
        have hib : M_internal_stringslite_IndexByte (sub' x0 ((i : Int) + 1) ((x0.length : Int) - (x1.length : Int) + 1)) c0 = some (Lib.indexByte ((x0.drop (i + 1)).take ((x0.length - x1.length + 1) - (i + 1))) c0) := by
          have : sub' x0 ((i : Int) + 1) ((x0.length : Int) - (x1.length : Int) + 1) = (x0.drop (i + 1)).take ((x0.length - x1.length + 1) - (i + 1)) := by
            unfold sub'
            congr 1
            omega
          rw [this]; rfl
        rw [bindO_eq hib]
        have hge := Lib.indexByte_ge ((x0.drop (i + 1)).take ((x0.length - x1.length + 1) - (i + 1))) c0
        generalize ho : Lib.indexByte ((x0.drop (i + 1)).take ((x0.length - x1.length + 1) - (i + 1))) c0 = o at hge
        by_cases hneg : o < 0
        · rw [decide_eq_true hneg, cond_true]
          rw [Lib.index_skip_none (t := x0.length - x1.length + 1) hx hno h0 (by omega) (by rw [ho]; omega)]
        · rw [decide_eq_false hneg, cond_false]
          obtain ⟨on, rfl⟩ : ∃ on : Nat, o = (on : Int) := ⟨o.toNat, by omega⟩
          obtain ⟨s1, s2, s3⟩ := Lib.noOcc_skip (t := x0.length - x1.length + 1) hx hno h0 ho
          have hw : W ((i : Int) + W ((on : Int) + 1)) = ((i + on + 1 : Nat) : Int) := by
            rw [Wn (x := (on : Int) + 1) (by omega) (by omega), Wn (by omega) (by omega)]; omega
          have := J (i + on + 1) (by omega) (by omega) s1
          rw [hw]
          exact this
    · rw [decide_eq_false hk, cond_false]
      rw [Lib.index_past (by rw [hx]; simp) hno (by omega)]

theorem index_eq (gm : Int) (x0 x1 : List UInt8) (hl : x0.length < 4294967281) : M_strings_IndexG gm x0 x1 = some (Lib.index x0 x1) := by
  have main : M_internal_stringslite_Index gm x0 x1 = some (Lib.index x0 x1) := by
    unfold M_internal_stringslite_Index
    by_cases h0 : (x1.length : Int) = 0
    · obtain rfl : x1 = [] := List.length_eq_zero_iff.1 (by omega)
      rw [Lib.index_empty]; rfl
    rw [decide_eq_false h0, cond_false]
    by_cases hx : x1 = x0
    · subst hx
      rw [Lib.index_self, decide_eq_true rfl]; rfl
    rw [decide_eq_false hx, cond_false]
    by_cases h1 : (x1.length : Int) = 1
    · rw [decide_eq_true h1, cond_true]
      obtain ⟨c, rfl⟩ : ∃ c, x1 = [c] := List.length_eq_one_iff.1 (by omega)
      simp only [guardO]
      rw [if_pos (by simp), index1]
      rfl
    rw [decide_eq_false h1, cond_false]
    by_cases h2 : (x0.length : Int) ≤ (x1.length : Int)
    · rw [decide_eq_true h2, cond_true, Lib.index_long (by omega) hx]
    rw [decide_eq_false h2, cond_false]
    simp only [guardO, joinO]
    rw [if_pos (by omega), if_pos (by omega)]
    have hlp := index_loop x0 x1 gm hl (by omega) (by omega) FUEL 0 0 (by omega) (by omega) (by omega) (Lib.NoOcc.zero _ _) (by have := fuel_eq; omega)
    cases hb : (bif decide ((x1.length : Int) ≤ gm) then decide ((x0.length : Int) ≤ 64) else false) with
    | false => rw [cond_false]; exact hlp
    | true =>
      have hgm : (x1.length : Int) ≤ gm := by
        by_cases h : (x1.length : Int) ≤ gm
        · exact h
        · rw [decide_eq_false h] at hb; cases hb
      rw [cond_true]
      have hi : M_internal_bytealg_IndexString gm x0 x1 = some (Lib.index x0 x1) := by
        unfold M_internal_bytealg_IndexString guardO
        rw [if_pos ⟨by omega, hgm, hl⟩]
      rw [bindO_eq hi]
  unfold M_strings_IndexG
  rw [bindO_eq main]

def M_strings_Index (x0 : List UInt8) (x1 : List UInt8) : Option Int := guardO (x0.length < 4294967281) <| some (Lib.index x0 x1)

theorem ok_strings_Index (x0 : List UInt8) (x1 : List UInt8) (gm0 : Int) (r : Int) (h : M_strings_Index x0 x1 = some r) :
    FC Tryz.prog 60 [.string (bs x0), .string (bs x1)] [⟨(.int .i64), ⟨(some ⟨0, 0, none⟩), 1, 1⟩, [gm0]⟩] (fun _ : Unit => True) (fun _ => .int .i64 r) (fun _ => []) := by
  obtain ⟨h1, h⟩ := guardO_some h
  cases h
  exact ok_strings_IndexG x0 x1 gm0 _ (index_eq gm0 x0 x1 h1)

def M_i_copyInts (x0 : List Int) : Option (List Int) :=
  (guardO (([] : List Int).length + x0.length ≤ 536870912) <|
  some (([] : List Int) ++ x0))

theorem ok_i_copyInts (x0 : List Int) (a2 : Option Addr) (c3 : Nat) (l4 : Nat) (hl5 : x0.length = l4) (r : List Int) (h : M_i_copyInts x0 = some r) :
    FC Tryz.prog 65 [.slice a2 l4 c3] [⟨(.int .i64), ⟨a2, l4, c3⟩, x0⟩] (fun _ : Option Addr × Nat => True) (fun q => .slice q.1 r.length q.2) (fun q => [⟨(.int .i64), ⟨q.1, r.length, q.2⟩, r⟩]) :=
  by
    subst hl5
    refine FC.of (T := TTx) Tryz.call65 Tryz.func65 rfl rfl fun w0 => ?_
    unfold M_i_copyInts at h
    refine JS.rg0 ttOk 1 [] ⟨trivial, rfl⟩ rfl rfl (JS.seq (JS.region (JO.reg ttOk 1 [] [] [(3, .v (.slice a2 x0.length c3))] _ rfl ⟨⟨rfl, trivial⟩, rfl⟩ ?_)))
    obtain ⟨g6, h⟩ := guardO_some h
    refine JO.nilO (.int .i64) Sl.nil rfl rfl (JO.appendR' ttOk rfl rfl rfl rfl ⟨rfl, rfl, rfl, rfl, trivial, rfl, rfl, rfl, rfl⟩ rfl rfl rfl [0] rfl 0 rfl g6 rfl fun a7 c8 => JO.reg ttOk 1 [] [] [(2, .v (.slice a7 (([] : List Int) ++ x0).length c8))] _ rfl ⟨⟨rfl, trivial⟩, rfl⟩ (JO.done rfl ?_))
    cases h
    exact JS.ret ttOk (a7, c8) trivial rfl rfl [0] rfl

def M_i_copyLine (x0 : List Int × Int) : Option (List Int × Int) :=
  (bindO (M_i_copyInts x0.1) fun (y6 : List Int) =>
  some (y6, x0.2))

theorem ok_i_copyLine (x0 : List Int × Int) (a2 : Option Addr) (c3 : Nat) (l4 : Nat) (hl5 : x0.1.length = l4) (r : List Int × Int) (h : M_i_copyLine x0 = some r) :
    FC Tryz.prog 64 [.agg #[.slice a2 l4 c3, .int .i64 x0.2]] [⟨(.int .i64), ⟨a2, l4, c3⟩, x0.1⟩] (fun _ : Option Addr × Nat => True) (fun q => .agg #[.slice q.1 r.1.length q.2, .int .i64 r.2]) (fun q => [⟨(.int .i64), ⟨q.1, r.1.length, q.2⟩, r.1⟩]) :=
  by
    subst hl5
    refine FC.of (T := TTx) Tryz.call64 Tryz.func64 rfl rfl fun w0 => ?_
    unfold M_i_copyLine at h
    refine JS.rgB ttOk 2 [] [2, 3] [(1, .bp 2 0), (2, .bp 3 0)] (.new 2 38 [.slice a2 x0.1.length c3, .int .i64 x0.2] (.new 3 38 [.slice none 0 0, .int .i64 0] .nil)) ⟨(Es rfl), (Bs rfl rfl)⟩ rfl rfl (JS.seq ?_)
    obtain ⟨y6, hy7, h⟩ := bindO_some h
    refine JS.regionA rfl (.new 2 38 [.slice a2 x0.1.length c3, .int .i64 x0.2] .nil) [] [5, 6] ⟨rfl, rfl, rfl, rfl, trivial⟩ rfl (fun be10 => ?_)
    refine JA.reg ttOk panic_cx true 3 [0, 1, 3, 4] rfl (by kernel_rfl) [] [(4, .v (.slice a2 x0.1.length c3)), (7, .v (.int .i64 x0.2))] ⟨rfl, rfl, rfl, rfl, trivial⟩ [] rfl rfl (Es rfl) (JA.one 2 (by kernel_rfl) (JK.call rfl rfl rfl rfl (ok_i_copyInts x0.1 a2 c3 x0.1.length rfl _ hy7) rfl [0] rfl rfl ?_))
    rintro ⟨a8, c9⟩ -
    refine JA.next ⟨rfl, rfl, rfl, rfl, trivial⟩ [] rfl (JA.regL ttOk panic_cx 1 [5] rfl (by kernel_rfl) [] [(8, .v (.agg #[.slice a8 y6.length c9, .int .i64 x0.2]))] rfl ⟨rfl, trivial⟩ (JA.one 6 (by kernel_rfl) (JK.stBox ttOk rfl rfl rfl rfl rfl rfl rfl rfl (JA.nextL rfl (JA.done (by kernel_rfl) (JS.boxes (B' := (.new 3 38 [.slice a8 y6.length c9, .int .i64 x0.2] .nil)) (Bs rfl rfl) ?_))))))
    cases h
    exact JS.ret ttOk (a8, c9) trivial rfl rfl [0] rfl

def M_i_copyRing_L1 (x0 : List (List Int)) (j39 : (List (List Int)) → Option (List (List Int))) (k32 : (Int × List (List Int)) → Option (List (List Int))) : (Int × List (List Int)) → Option (List (List Int)) := fun (x6, x10) =>
  (bif (decide (x6 < (x0.length : Int))) then
  (guardO (0 ≤ x6 ∧ x6 < (x0.length : Int)) <|
  (bindO (M_i_copyInts (at' x0 x6)) fun (y20 : List Int) =>
  (guardO (x10.length + ([y20] : List (List Int)).length ≤ 536870912) <|
  k32 ((W (x6 + 1)), (x10 ++ ([y20] : List (List Int)))))))
  else
  j39 x10)

def M_i_copyRing (x0 : List (List Int)) : Option (List (List Int)) :=
  (joinO (fun (x36 : List (List Int)) =>
  some x36) fun j39 =>
  (fixF (M_i_copyRing_L1 x0 j39) FUEL (0, ([] : List (List Int)))))

theorem ok_i_copyRing (x0 : List (List Int)) (a2 : Option Addr) (c3 : Nat) (l4 : Nat) (hl5 : x0.length = l4) (r : List (List Int)) (h : M_i_copyRing x0 = some r) :
    FC Tryz.prog 145 [.agg #[.slice a2 l4 c3]] [⟨(.sl (.int .i64)), ⟨a2, l4, c3⟩, x0⟩] (fun _ : Option Addr × Nat => True) (fun q => .agg #[.slice q.1 r.length q.2]) (fun q => [⟨(.sl (.int .i64)), ⟨q.1, r.length, q.2⟩, r⟩]) :=
  by
    subst hl5
    refine FC.of (T := TTx) Tryz.call145 Tryz.func145 rfl rfl fun w0 => ?_
    unfold M_i_copyRing at h
    refine JS.rgB ttOk 2 [] [2, 3] [(1, .bp 2 0), (2, .bp 3 0)] (.new 2 41 [.slice a2 x0.length c3] (.new 3 41 [.slice none 0 0] .nil)) ⟨(Es rfl), (Bs rfl rfl)⟩ rfl rfl (JS.rgB ttOk 1 [] [4] [(3, .bp 4 0)] (.new 2 41 [.slice a2 x0.length c3] (.new 3 41 [.slice none 0 0] (.new 4 41 [.slice none 0 0] .nil))) ⟨⟨rfl, trivial⟩, (Bs rfl rfl)⟩ rfl rfl (JS.seq (JS.rg0 ttOk 4 [(7, .v (.slice a2 x0.length c3)), (8, .v (.int .i64 (x0.length : Int))), (9, .v (.int .i64 0))] ⟨(Es rfl), rfl⟩ rfl rfl ?_)))
    obtain ⟨j39, hj45, h⟩ := joinO_some h
    refine JS.blockJ (ι := List (List Int) × Option Addr × Nat) ⟨fun z => j39 z.1 = some r, fun z => [(2, .bp 3 0), (3, .bp 4 0)], fun z => (.new 3 41 [.slice none 0 0] (.new 4 41 [.slice z.2.1 z.1.length z.2.2] .nil)), fun z => [], fun z => [⟨(.sl (.int .i64)), ⟨z.2.1, z.1.length, z.2.2⟩, z.1⟩], fun z => 0⟩ ?_ ?_
    · refine JS.nilO (.sl (.int .i64)) Sl.nil rfl rfl (JS.loop (ι := Nat × Int × List (List Int) × Option Addr × Nat) ⟨fun z => fixF (M_i_copyRing_L1 x0 j39) z.1 (z.2.1, z.2.2.1) = some r, fun z => [(2, .bp 3 0), (3, .bp 4 0), (7, .v (.slice a2 x0.length c3)), (8, .v (.int .i64 (x0.length : Int))), (9, .v (.int .i64 z.2.1))], fun z => (.new 3 41 [.slice none 0 0] (.new 4 41 [.slice z.2.2.2.1 z.2.2.1.length z.2.2.2.2] .nil)), fun z => [⟨(.sl (.int .i64)), ⟨a2, x0.length, c3⟩, x0⟩], fun z => [⟨(.sl (.int .i64)), ⟨z.2.2.2.1, z.2.2.1.length, z.2.2.2.2⟩, z.2.2.1⟩], fun z => z.1⟩ (FUEL, 0, ([] : List (List Int)), none, 0) h (Es rfl) (Bs rfl rfl) [0] rfl [0] rfl ?_)
      rintro ⟨n33, x6, x10, a11, c12⟩ h
      obtain ⟨n33, rfl, h⟩ := fixF_some h
      rw [M_i_copyRing_L1] at h
      refine JS.rg0 ttOk 1 [(10, .v (.bool (decide (x6 < (x0.length : Int)))))] ⟨⟨rfl, trivial⟩, rfl⟩ rfl rfl (JS.seq ?_)
      refine JS.cond rfl (fun ht44 => ?_) (fun ht44 => ?_)
      · have h := condT h ht44
        refine JS.skip (JS.seq (JS.block (JS.seq (JS.region (JO.know 0 rfl fun hs43 => ?_)))))
        obtain ⟨g14, h⟩ := guardO_some h
        refine JO.reg ttOk 1 [] [] [(11, .ep ⟨a2, x0.length, c3⟩ (Int.toNat x6 * 1))] _ rfl ⟨hs43.ix g14, ⟨rfl, trivial⟩, rfl⟩ (JO.openR 0 rfl (Int.toNat x6) (at' x0 x6) rfl fun a15 c16 ys17 hl18 hy19 => JO.loadV ttOk rfl rfl rfl rfl rfl rfl 0 rfl rfl (Int.toNat x6) 0 (Sl.v ⟨a15, (at' x0 x6).length, c16⟩) ⟨hy19 (ltNat g14), rfl⟩ rfl rfl rfl (JO.regB ttOk 2 [] [22] [(5, .bp 22 0)] (.new 3 41 [.slice none 0 0] (.new 4 41 [.slice a11 x10.length c12] (.new 22 174 [.slice a15 (at' x0 x6).length c16] .nil))) rfl ⟨⟨rfl, trivial⟩, (Bs rfl rfl)⟩ (JO.done rfl ?_)))
        obtain ⟨y20, hy21, h⟩ := bindO_some h
        obtain ⟨g25, h⟩ := guardO_some h
        refine JS.regionA rfl (.new 4 41 [.slice a11 x10.length c12] (.new 22 174 [.slice a15 (at' x0 x6).length c16] .nil)) [] [7, 8, 9] ⟨rfl, rfl, rfl, rfl, rfl, rfl, rfl, rfl, trivial⟩ rfl (fun be28 => ?_)
        refine JA.reg ttOk panic_cx true 6 [0, 1, 2, 3] rfl (by kernel_rfl) [] [(14, .v (.slice a11 x10.length c12)), (16, .v (.slice a15 (at' x0 x6).length c16))] ⟨rfl, rfl, rfl, rfl, rfl, rfl, rfl, rfl, trivial⟩ [] rfl rfl (Es rfl) (JA.one 4 (by kernel_rfl) (JK.call rfl rfl rfl rfl (ok_i_copyInts (at' x0 x6) a15 c16 ((at' x0 x6).length) rfl _ hy21) rfl [1] rfl rfl ?_))
        rintro ⟨a22, c23⟩ -
        refine JA.next ⟨rfl, rfl, rfl, rfl, rfl, rfl, rfl, rfl, trivial⟩ [] rfl (JA.reg ttOk panic_cx true 4 [5] rfl (by kernel_rfl) [] [(18, .v (.agg #[.slice a22 y20.length c23]))] ⟨rfl, rfl, rfl, rfl, rfl, rfl, rfl, rfl, trivial⟩ [] rfl rfl ⟨rfl, trivial⟩ (JA.one 6 (by kernel_rfl) (JK.buildSlice ttOk rfl rfl rfl rfl rfl rfl rfl rfl rfl rfl rfl [0] rfl (.sl (.int .i64)) [y20] ⟨rfl, rfl, rfl⟩ rfl rfl fun a24 => JA.next ⟨rfl, rfl, rfl, rfl, rfl, rfl, rfl, rfl, trivial⟩ [] rfl (JA.one 7 (by kernel_rfl) (JK.appendO' ttOk rfl rfl rfl rfl ⟨rfl, rfl, rfl, rfl, trivial, rfl, rfl, rfl, rfl⟩ rfl rfl [1, 0] rfl g25 rfl fun a26 c27 => JA.nextL rfl (JA.regL ttOk panic_cx 1 [8] rfl (by kernel_rfl) [] [(21, .bp 4 0)] rfl ⟨rfl, trivial⟩ (JA.one 9 (by kernel_rfl) (JK.stBox ttOk rfl rfl rfl rfl rfl rfl rfl rfl (JA.nextL rfl (JA.done (by kernel_rfl) (JS.boxes (B' := (.new 3 41 [.slice none 0 0] (.new 4 41 [.slice a26 (x10 ++ ([y20] : List (List Int))).length c27] .nil))) (Bs rfl rfl) (JS.endB (JS.re ttOk 2 [(W (x6 + 1))] [] [(9, .v (.int .i64 (W (x6 + 1))))] _ ⟨⟨trivial, rfl⟩, ⟨rfl, trivial⟩, rfl⟩ rfl rfl (JS.endL (n33, (W (x6 + 1)), (x10 ++ ([y20] : List (List Int))), a26, c27) h (Nat.lt_succ_self _) (Es rfl) (Bs rfl rfl) [2] rfl [0] rfl))))))))))))))
      have h := condF h ht44
      refine JS.exit rfl (JS.endJ (x10, a11, c12) h (Es rfl) (Bs rfl rfl) [] rfl [0] rfl)
    rintro ⟨x36, a37, c38⟩ h
    subst hj45
    refine JS.rgB ttOk 2 [] [] [] (.new 3 41 [.slice a37 x36.length c38] .nil) ⟨trivial, (Bs rfl rfl)⟩ rfl rfl ?_
    cases h
    exact JS.ret ttOk (a37, c38) trivial rfl rfl [0] rfl

def M_i_copyUndo_L1 (x0 : List (List Int × Int)) (j39 : (List (List Int × Int)) → Option (List (List Int × Int))) (k32 : (Int × (List (List Int × Int))) → Option (List (List Int × Int))) : (Int × (List (List Int × Int))) → Option (List (List Int × Int)) := fun (x6, x10) =>
  (bif (decide (x6 < (x0.length : Int))) then
  (guardO (0 ≤ x6 ∧ x6 < (x0.length : Int)) <|
  (bindO (M_i_copyLine ((at' x0 x6).1, (at' x0 x6).2)) fun (y20 : List Int × Int) =>
  (guardO (x10.length + ([y20] : List (List Int × Int)).length ≤ 536870912) <|
  k32 ((W (x6 + 1)), (x10 ++ ([y20] : List (List Int × Int)))))))
  else
  j39 x10)

def M_i_copyUndo (x0 : List (List Int × Int)) : Option (List (List Int × Int)) :=
  (joinO (fun (x36 : List (List Int × Int)) =>
  some x36) fun j39 =>
  (fixF (M_i_copyUndo_L1 x0 j39) FUEL (0, ([] : List (List Int × Int)))))

theorem ok_i_copyUndo (x0 : List (List Int × Int)) (a2 : Option Addr) (c3 : Nat) (l4 : Nat) (hl5 : x0.length = l4) (r : List (List Int × Int)) (h : M_i_copyUndo x0 = some r) :
    FC Tryz.prog 146 [.agg #[.slice a2 l4 c3]] [⟨(.pair (.sl (.int .i64)) (.int .i64)), ⟨a2, l4, c3⟩, x0⟩] (fun _ : Option Addr × Nat => True) (fun q => .agg #[.slice q.1 r.length q.2]) (fun q => [⟨(.pair (.sl (.int .i64)) (.int .i64)), ⟨q.1, r.length, q.2⟩, r⟩]) :=
  by
    subst hl5
    refine FC.of (T := TTx) Tryz.call146 Tryz.func146 rfl rfl fun w0 => ?_
    unfold M_i_copyUndo at h
    refine JS.rgB ttOk 2 [] [2, 3] [(1, .bp 2 0), (2, .bp 3 0)] (.new 2 44 [.slice a2 x0.length c3] (.new 3 44 [.slice none 0 0] .nil)) ⟨(Es rfl), (Bs rfl rfl)⟩ rfl rfl (JS.rgB ttOk 1 [] [4] [(3, .bp 4 0)] (.new 2 44 [.slice a2 x0.length c3] (.new 3 44 [.slice none 0 0] (.new 4 44 [.slice none 0 0] .nil))) ⟨⟨rfl, trivial⟩, (Bs rfl rfl)⟩ rfl rfl (JS.seq (JS.rg0 ttOk 4 [(7, .v (.slice a2 x0.length c3)), (8, .v (.int .i64 (x0.length : Int))), (9, .v (.int .i64 0))] ⟨(Es rfl), rfl⟩ rfl rfl ?_)))
    obtain ⟨j39, hj45, h⟩ := joinO_some h
    refine JS.blockJ (ι := (List (List Int × Int)) × Option Addr × Nat) ⟨fun z => j39 z.1 = some r, fun z => [(2, .bp 3 0), (3, .bp 4 0)], fun z => (.new 3 44 [.slice none 0 0] (.new 4 44 [.slice z.2.1 z.1.length z.2.2] .nil)), fun z => [], fun z => [⟨(.pair (.sl (.int .i64)) (.int .i64)), ⟨z.2.1, z.1.length, z.2.2⟩, z.1⟩], fun z => 0⟩ ?_ ?_
    · refine JS.nilO (.pair (.sl (.int .i64)) (.int .i64)) Sl.nil rfl rfl (JS.loop (ι := Nat × Int × (List (List Int × Int)) × Option Addr × Nat) ⟨fun z => fixF (M_i_copyUndo_L1 x0 j39) z.1 (z.2.1, z.2.2.1) = some r, fun z => [(2, .bp 3 0), (3, .bp 4 0), (7, .v (.slice a2 x0.length c3)), (8, .v (.int .i64 (x0.length : Int))), (9, .v (.int .i64 z.2.1))], fun z => (.new 3 44 [.slice none 0 0] (.new 4 44 [.slice z.2.2.2.1 z.2.2.1.length z.2.2.2.2] .nil)), fun z => [⟨(.pair (.sl (.int .i64)) (.int .i64)), ⟨a2, x0.length, c3⟩, x0⟩], fun z => [⟨(.pair (.sl (.int .i64)) (.int .i64)), ⟨z.2.2.2.1, z.2.2.1.length, z.2.2.2.2⟩, z.2.2.1⟩], fun z => z.1⟩ (FUEL, 0, ([] : List (List Int × Int)), none, 0) h (Es rfl) (Bs rfl rfl) [0] rfl [0] rfl ?_)
      rintro ⟨n33, x6, x10, a11, c12⟩ h
      obtain ⟨n33, rfl, h⟩ := fixF_some h
      rw [M_i_copyUndo_L1] at h
      refine JS.rg0 ttOk 1 [(10, .v (.bool (decide (x6 < (x0.length : Int)))))] ⟨⟨rfl, trivial⟩, rfl⟩ rfl rfl (JS.seq ?_)
      refine JS.cond rfl (fun ht44 => ?_) (fun ht44 => ?_)
      · have h := condT h ht44
        refine JS.skip (JS.seq (JS.block (JS.seq (JS.region (JO.know 0 rfl fun hs43 => ?_)))))
        obtain ⟨g14, h⟩ := guardO_some h
        refine JO.reg ttOk 1 [] [] [(11, .ep ⟨a2, x0.length, c3⟩ (Int.toNat x6 * 2))] _ rfl ⟨hs43.ix g14, ⟨rfl, trivial⟩, rfl⟩ (JO.openR 0 rfl (Int.toNat x6) (at' x0 x6) rfl fun a15 c16 ys17 hl18 hy19 => JO.loadV ttOk rfl rfl rfl rfl rfl rfl 0 rfl rfl (Int.toNat x6) 0 ((Sl.v ⟨a15, ((at' x0 x6).1).length, c16⟩), (at' x0 x6).2) ⟨hy19 (ltNat g14), rfl⟩ rfl rfl rfl (JO.regB ttOk 2 [] [22] [(5, .bp 22 0)] (.new 3 44 [.slice none 0 0] (.new 4 44 [.slice a11 x10.length c12] (.new 22 38 [.slice a15 ((at' x0 x6).1).length c16, .int .i64 (at' x0 x6).2] .nil))) rfl ⟨⟨rfl, trivial⟩, (Bs rfl rfl)⟩ (JO.done rfl ?_)))
        obtain ⟨y20, hy21, h⟩ := bindO_some h
        obtain ⟨g25, h⟩ := guardO_some h
        refine JS.regionA rfl (.new 4 44 [.slice a11 x10.length c12] (.new 22 38 [.slice a15 ((at' x0 x6).1).length c16, .int .i64 (at' x0 x6).2] .nil)) [] [5, 6, 7] ⟨rfl, rfl, rfl, rfl, rfl, rfl, rfl, rfl, trivial⟩ rfl (fun be28 => ?_)
        refine JA.reg ttOk panic_cx true 5 [0, 1, 2] rfl (by kernel_rfl) [] [(14, .v (.slice a11 x10.length c12)), (15, .v (.agg #[.slice a15 ((at' x0 x6).1).length c16, .int .i64 (at' x0 x6).2]))] ⟨rfl, rfl, rfl, rfl, rfl, rfl, rfl, rfl, trivial⟩ [] rfl rfl (Es rfl) (JA.one 3 (by kernel_rfl) (JK.call rfl rfl rfl rfl (ok_i_copyLine ((at' x0 x6).1, (at' x0 x6).2) a15 c16 (((at' x0 x6).1).length) rfl _ hy21) rfl [1] rfl rfl ?_))
        rintro ⟨a22, c23⟩ -
        refine JA.next ⟨rfl, rfl, rfl, rfl, rfl, rfl, rfl, rfl, trivial⟩ [] rfl (JA.one 4 (by kernel_rfl) (JK.buildSlice ttOk rfl rfl rfl rfl rfl rfl rfl rfl rfl rfl rfl [0] rfl (.pair (.sl (.int .i64)) (.int .i64)) [y20] ⟨rfl, rfl, rfl⟩ rfl rfl fun a24 => JA.next ⟨rfl, rfl, rfl, rfl, rfl, rfl, rfl, rfl, trivial⟩ [] rfl (JA.one 5 (by kernel_rfl) (JK.appendO' ttOk rfl rfl rfl rfl ⟨rfl, rfl, rfl, rfl, trivial, rfl, rfl, rfl, rfl⟩ rfl rfl [1, 0] rfl g25 rfl fun a26 c27 => JA.nextL rfl (JA.regL ttOk panic_cx 1 [6] rfl (by kernel_rfl) [] [(19, .bp 4 0)] rfl ⟨rfl, trivial⟩ (JA.one 7 (by kernel_rfl) (JK.stBox ttOk rfl rfl rfl rfl rfl rfl rfl rfl (JA.nextL rfl (JA.done (by kernel_rfl) (JS.boxes (B' := (.new 3 44 [.slice none 0 0] (.new 4 44 [.slice a26 (x10 ++ ([y20] : List (List Int × Int))).length c27] .nil))) (Bs rfl rfl) (JS.endB (JS.re ttOk 2 [(W (x6 + 1))] [] [(9, .v (.int .i64 (W (x6 + 1))))] _ ⟨⟨trivial, rfl⟩, ⟨rfl, trivial⟩, rfl⟩ rfl rfl (JS.endL (n33, (W (x6 + 1)), (x10 ++ ([y20] : List (List Int × Int))), a26, c27) h (Nat.lt_succ_self _) (Es rfl) (Bs rfl rfl) [2] rfl [0] rfl)))))))))))))
      have h := condF h ht44
      refine JS.exit rfl (JS.endJ (x10, a11, c12) h (Es rfl) (Bs rfl rfl) [] rfl [0] rfl)
    rintro ⟨x36, a37, c38⟩ h
    subst hj45
    refine JS.rgB ttOk 2 [] [] [] (.new 3 44 [.slice a37 x36.length c38] .nil) ⟨trivial, (Bs rfl rfl)⟩ rfl rfl ?_
    cases h
    exact JS.ret ttOk (a37, c38) trivial rfl rfl [0] rfl

def M_i_copyEd (x0 : Bool × Int × (List Int × Int) × Int × Int × Int × Int × Int × Int × Int × List (List Int) × (List (List Int × Int)) × Int × (List Int × Int) × List Int × Int × List Int × Int) : Option (Bool × Int × (List Int × Int) × Int × Int × Int × Int × Int × Int × Int × List (List Int) × (List (List Int × Int)) × Int × (List Int × Int) × List Int × Int × List Int × Int) :=
  (bindO (M_i_copyLine x0.2.2.1) fun (y26 : List Int × Int) =>
  (bindO (M_i_copyLine x0.2.2.2.2.2.2.2.2.2.2.2.2.2.1) fun (y30 : List Int × Int) =>
  (bindO (M_i_copyLine x0.2.2.2.2.2.2.2.2.2.2.2.2.2.2.2.2) fun (y34 : List Int × Int) =>
  (bindO (M_i_copyRing x0.2.2.2.2.2.2.2.2.2.2.1) fun (y39 : List (List Int)) =>
  (bindO (M_i_copyUndo x0.2.2.2.2.2.2.2.2.2.2.2.1) fun (y43 : List (List Int × Int)) =>
  (bindO (M_i_copyInts x0.2.2.2.2.2.2.2.2.2.2.2.2.2.2.1) fun (y48 : List Int) =>
  some (x0.1, x0.2.1, y26, x0.2.2.2.1, x0.2.2.2.2.1, x0.2.2.2.2.2.1, x0.2.2.2.2.2.2.1, x0.2.2.2.2.2.2.2.1, x0.2.2.2.2.2.2.2.2.1, x0.2.2.2.2.2.2.2.2.2.1, y39, y43, x0.2.2.2.2.2.2.2.2.2.2.2.2.1, y30, y48, x0.2.2.2.2.2.2.2.2.2.2.2.2.2.2.2.1, y34)))))))

theorem ok_i_copyEd (x0 : Bool × Int × (List Int × Int) × Int × Int × Int × Int × Int × Int × Int × List (List Int) × (List (List Int × Int)) × Int × (List Int × Int) × List Int × Int × List Int × Int) (a2 : Option Addr) (c3 : Nat) (l4 : Nat) (hl5 : x0.2.2.1.1.length = l4) (a6 : Option Addr) (c7 : Nat) (l8 : Nat) (hl9 : x0.2.2.2.2.2.2.2.2.2.2.1.length = l8) (a10 : Option Addr) (c11 : Nat) (l12 : Nat) (hl13 : x0.2.2.2.2.2.2.2.2.2.2.2.1.length = l12) (a14 : Option Addr) (c15 : Nat) (l16 : Nat) (hl17 : x0.2.2.2.2.2.2.2.2.2.2.2.2.2.1.1.length = l16) (a18 : Option Addr) (c19 : Nat) (l20 : Nat) (hl21 : x0.2.2.2.2.2.2.2.2.2.2.2.2.2.2.1.length = l20) (a22 : Option Addr) (c23 : Nat) (l24 : Nat) (hl25 : x0.2.2.2.2.2.2.2.2.2.2.2.2.2.2.2.2.1.length = l24) (r : Bool × Int × (List Int × Int) × Int × Int × Int × Int × Int × Int × Int × List (List Int) × (List (List Int × Int)) × Int × (List Int × Int) × List Int × Int × List Int × Int) (h : M_i_copyEd x0 = some r) :
    FC Tryz.prog 63 [.agg #[.bool x0.1, .int .i64 x0.2.1, .slice a2 l4 c3, .int .i64 x0.2.2.1.2, .int .i64 x0.2.2.2.1, .int .i64 x0.2.2.2.2.1, .int .i64 x0.2.2.2.2.2.1, .int .i64 x0.2.2.2.2.2.2.1, .int .i64 x0.2.2.2.2.2.2.2.1, .int .i64 x0.2.2.2.2.2.2.2.2.1, .int .i64 x0.2.2.2.2.2.2.2.2.2.1, .slice a6 l8 c7, .slice a10 l12 c11, .int .i64 x0.2.2.2.2.2.2.2.2.2.2.2.2.1, .slice a14 l16 c15, .int .i64 x0.2.2.2.2.2.2.2.2.2.2.2.2.2.1.2, .slice a18 l20 c19, .int .i64 x0.2.2.2.2.2.2.2.2.2.2.2.2.2.2.2.1, .slice a22 l24 c23, .int .i64 x0.2.2.2.2.2.2.2.2.2.2.2.2.2.2.2.2.2]] [⟨(.int .i64), ⟨a2, l4, c3⟩, x0.2.2.1.1⟩, ⟨(.sl (.int .i64)), ⟨a6, l8, c7⟩, x0.2.2.2.2.2.2.2.2.2.2.1⟩, ⟨(.pair (.sl (.int .i64)) (.int .i64)), ⟨a10, l12, c11⟩, x0.2.2.2.2.2.2.2.2.2.2.2.1⟩, ⟨(.int .i64), ⟨a14, l16, c15⟩, x0.2.2.2.2.2.2.2.2.2.2.2.2.2.1.1⟩, ⟨(.int .i64), ⟨a18, l20, c19⟩, x0.2.2.2.2.2.2.2.2.2.2.2.2.2.2.1⟩, ⟨(.int .i64), ⟨a22, l24, c23⟩, x0.2.2.2.2.2.2.2.2.2.2.2.2.2.2.2.2.1⟩] (fun _ : Option Addr × Nat × Option Addr × Nat × Option Addr × Nat × Option Addr × Nat × Option Addr × Nat × Option Addr × Nat => True) (fun q => .agg (cl46 r q.1 q.2.1 q.2.2.1 q.2.2.2.1 q.2.2.2.2.1 q.2.2.2.2.2.1 q.2.2.2.2.2.2.1 q.2.2.2.2.2.2.2.1 q.2.2.2.2.2.2.2.2.1 q.2.2.2.2.2.2.2.2.2.1 q.2.2.2.2.2.2.2.2.2.2.1 q.2.2.2.2.2.2.2.2.2.2.2).toArray) (fun q => [⟨(.int .i64), ⟨q.1, r.2.2.1.1.length, q.2.1⟩, r.2.2.1.1⟩, ⟨(.sl (.int .i64)), ⟨q.2.2.1, r.2.2.2.2.2.2.2.2.2.2.1.length, q.2.2.2.1⟩, r.2.2.2.2.2.2.2.2.2.2.1⟩, ⟨(.pair (.sl (.int .i64)) (.int .i64)), ⟨q.2.2.2.2.1, r.2.2.2.2.2.2.2.2.2.2.2.1.length, q.2.2.2.2.2.1⟩, r.2.2.2.2.2.2.2.2.2.2.2.1⟩, ⟨(.int .i64), ⟨q.2.2.2.2.2.2.1, r.2.2.2.2.2.2.2.2.2.2.2.2.2.1.1.length, q.2.2.2.2.2.2.2.1⟩, r.2.2.2.2.2.2.2.2.2.2.2.2.2.1.1⟩, ⟨(.int .i64), ⟨q.2.2.2.2.2.2.2.2.1, r.2.2.2.2.2.2.2.2.2.2.2.2.2.2.1.length, q.2.2.2.2.2.2.2.2.2.1⟩, r.2.2.2.2.2.2.2.2.2.2.2.2.2.2.1⟩, ⟨(.int .i64), ⟨q.2.2.2.2.2.2.2.2.2.2.1, r.2.2.2.2.2.2.2.2.2.2.2.2.2.2.2.2.1.length, q.2.2.2.2.2.2.2.2.2.2.2⟩, r.2.2.2.2.2.2.2.2.2.2.2.2.2.2.2.2.1⟩]) :=
  by
    subst hl5
    subst hl9
    subst hl13
    subst hl17
    subst hl21
    subst hl25
    refine FC.of (T := TTx) Tryz.call63 Tryz.func63 rfl rfl fun w0 => ?_
    unfold M_i_copyEd at h
    refine JS.rgB ttOk 2 [] [7, 8] [(1, .bp 7 0), (2, .bp 8 0)] (.new 7 46 (cl46 x0 a2 c3 a6 c7 a10 c11 a14 c15 a18 c19 a22 c23) (.new 8 46 (cl46 (false, 0, ([], 0), 0, 0, 0, 0, 0, 0, 0, [], [], 0, ([], 0), [], 0, ([], 0)) none 0 none 0 none 0 none 0 none 0 none 0) .nil)) ⟨(Es rfl), (Bs rfl rfl)⟩ rfl rfl (JS.seq ?_)
    obtain ⟨y26, hy27, h⟩ := bindO_some h
    obtain ⟨y30, hy31, h⟩ := bindO_some h
    obtain ⟨y34, hy35, h⟩ := bindO_some h
    refine JS.regionA rfl (.new 7 46 (cl46 x0 a2 c3 a6 c7 a10 c11 a14 c15 a18 c19 a22 c23) .nil) [] [8, 9, 10, 11, 12, 13, 14] ⟨rfl, rfl, rfl, rfl, trivial⟩ rfl (fun be38 => ?_)
    refine JA.reg ttOk panic_cx true 9 [0, 1, 3, 4, 6, 7] rfl (by kernel_rfl) [] [(4, .v (.agg #[.slice a2 x0.2.2.1.1.length c3, .int .i64 x0.2.2.1.2])), (7, .v (.agg #[.slice a14 x0.2.2.2.2.2.2.2.2.2.2.2.2.2.1.1.length c15, .int .i64 x0.2.2.2.2.2.2.2.2.2.2.2.2.2.1.2])), (10, .v (.agg #[.slice a22 x0.2.2.2.2.2.2.2.2.2.2.2.2.2.2.2.2.1.length c23, .int .i64 x0.2.2.2.2.2.2.2.2.2.2.2.2.2.2.2.2.2]))] ⟨rfl, rfl, rfl, rfl, trivial⟩ [] rfl rfl (Es rfl) (JA.one 2 (by kernel_rfl) (JK.call rfl rfl rfl rfl (ok_i_copyLine x0.2.2.1 a2 c3 x0.2.2.1.1.length rfl _ hy27) rfl [0] rfl rfl ?_))
    rintro ⟨a28, c29⟩ -
    refine JA.next ⟨rfl, rfl, rfl, rfl, trivial⟩ [] rfl (JA.regL ttOk panic_cx 7 [9] rfl (by kernel_rfl) [] [(12, .bp 7 2)] rfl ⟨rfl, trivial⟩ (JA.one 5 (by kernel_rfl) (JK.call rfl rfl rfl rfl (ok_i_copyLine x0.2.2.2.2.2.2.2.2.2.2.2.2.2.1 a14 c15 x0.2.2.2.2.2.2.2.2.2.2.2.2.2.1.1.length rfl _ hy31) rfl [3] rfl rfl ?_)))
    rintro ⟨a32, c33⟩ -
    refine JA.next ⟨rfl, rfl, rfl, rfl, trivial⟩ [] rfl (JA.one 8 (by kernel_rfl) (JK.call rfl rfl rfl rfl (ok_i_copyLine x0.2.2.2.2.2.2.2.2.2.2.2.2.2.2.2.2 a22 c23 x0.2.2.2.2.2.2.2.2.2.2.2.2.2.2.2.2.1.length rfl _ hy35) rfl [5] rfl rfl ?_))
    rintro ⟨a36, c37⟩ -
    refine JA.nextL rfl (JA.one 10 (by kernel_rfl) (JK.stBox ttOk rfl rfl rfl rfl rfl rfl rfl rfl (JA.nextL rfl (JA.regL ttOk panic_cx 3 [11] rfl (by kernel_rfl) [] [(13, .bp 7 14)] rfl ⟨rfl, trivial⟩ (JA.one 12 (by kernel_rfl) (JK.stBox ttOk rfl rfl rfl rfl rfl rfl rfl rfl (JA.nextL rfl (JA.regL ttOk panic_cx 1 [13] rfl (by kernel_rfl) [] [(14, .bp 7 18)] rfl ⟨rfl, trivial⟩ (JA.one 14 (by kernel_rfl) (JK.stBox ttOk rfl rfl rfl rfl rfl rfl rfl rfl (JA.nextL rfl (JA.done (by kernel_rfl) (JS.boxes (B' := (.new 7 46 (cl46 (x0.1, x0.2.1, y26, x0.2.2.2.1, x0.2.2.2.2.1, x0.2.2.2.2.2.1, x0.2.2.2.2.2.2.1, x0.2.2.2.2.2.2.2.1, x0.2.2.2.2.2.2.2.2.1, x0.2.2.2.2.2.2.2.2.2.1, x0.2.2.2.2.2.2.2.2.2.2.1, x0.2.2.2.2.2.2.2.2.2.2.2.1, x0.2.2.2.2.2.2.2.2.2.2.2.2.1, y30, x0.2.2.2.2.2.2.2.2.2.2.2.2.2.2.1, x0.2.2.2.2.2.2.2.2.2.2.2.2.2.2.2.1, y34) a28 c29 a6 c7 a10 c11 a32 c33 a18 c19 a36 c37) (.new 8 46 (cl46 (false, 0, ([], 0), 0, 0, 0, 0, 0, 0, 0, [], [], 0, ([], 0), [], 0, ([], 0)) none 0 none 0 none 0 none 0 none 0 none 0) .nil))) (Bs rfl rfl) (JS.seq ?_))))))))))))))
    obtain ⟨y39, hy40, h⟩ := bindO_some h
    obtain ⟨y43, hy44, h⟩ := bindO_some h
    refine JS.regionA rfl (.new 7 46 (cl46 (x0.1, x0.2.1, y26, x0.2.2.2.1, x0.2.2.2.2.1, x0.2.2.2.2.2.1, x0.2.2.2.2.2.2.1, x0.2.2.2.2.2.2.2.1, x0.2.2.2.2.2.2.2.2.1, x0.2.2.2.2.2.2.2.2.2.1, x0.2.2.2.2.2.2.2.2.2.2.1, x0.2.2.2.2.2.2.2.2.2.2.2.1, x0.2.2.2.2.2.2.2.2.2.2.2.2.1, y30, x0.2.2.2.2.2.2.2.2.2.2.2.2.2.2.1, x0.2.2.2.2.2.2.2.2.2.2.2.2.2.2.2.1, y34) a28 c29 a6 c7 a10 c11 a32 c33 a18 c19 a36 c37) .nil) [] [5, 6, 7, 8, 9] ⟨rfl, rfl, rfl, rfl, trivial⟩ rfl (fun be47 => ?_)
    refine JA.reg ttOk panic_cx true 6 [0, 1, 3, 4] rfl (by kernel_rfl) [] [(16, .v (.agg #[.slice a6 x0.2.2.2.2.2.2.2.2.2.2.1.length c7])), (19, .v (.agg #[.slice a10 x0.2.2.2.2.2.2.2.2.2.2.2.1.length c11]))] ⟨rfl, rfl, rfl, rfl, trivial⟩ [] rfl rfl (Es rfl) (JA.one 2 (by kernel_rfl) (JK.call rfl rfl rfl rfl (ok_i_copyRing x0.2.2.2.2.2.2.2.2.2.2.1 a6 c7 x0.2.2.2.2.2.2.2.2.2.2.1.length rfl _ hy40) rfl [1] rfl rfl ?_))
    rintro ⟨a41, c42⟩ -
    refine JA.next ⟨rfl, rfl, rfl, rfl, trivial⟩ [] rfl (JA.regL ttOk panic_cx 4 [6] rfl (by kernel_rfl) [] [(21, .bp 7 11)] rfl ⟨rfl, trivial⟩ (JA.one 5 (by kernel_rfl) (JK.call rfl rfl rfl rfl (ok_i_copyUndo x0.2.2.2.2.2.2.2.2.2.2.2.1 a10 c11 x0.2.2.2.2.2.2.2.2.2.2.2.1.length rfl _ hy44) rfl [2] rfl rfl ?_)))
    rintro ⟨a45, c46⟩ -
    refine JA.nextL rfl (JA.one 7 (by kernel_rfl) (JK.stBox ttOk rfl rfl rfl rfl rfl rfl rfl rfl (JA.nextL rfl (JA.regL ttOk panic_cx 1 [8] rfl (by kernel_rfl) [] [(22, .bp 7 12)] rfl ⟨rfl, trivial⟩ (JA.one 9 (by kernel_rfl) (JK.stBox ttOk rfl rfl rfl rfl rfl rfl rfl rfl (JA.nextL rfl (JA.done (by kernel_rfl) (JS.boxes (B' := (.new 7 46 (cl46 (x0.1, x0.2.1, y26, x0.2.2.2.1, x0.2.2.2.2.1, x0.2.2.2.2.2.1, x0.2.2.2.2.2.2.1, x0.2.2.2.2.2.2.2.1, x0.2.2.2.2.2.2.2.2.1, x0.2.2.2.2.2.2.2.2.2.1, y39, y43, x0.2.2.2.2.2.2.2.2.2.2.2.2.1, y30, x0.2.2.2.2.2.2.2.2.2.2.2.2.2.2.1, x0.2.2.2.2.2.2.2.2.2.2.2.2.2.2.2.1, y34) a28 c29 a41 c42 a45 c46 a32 c33 a18 c19 a36 c37) (.new 8 46 (cl46 (false, 0, ([], 0), 0, 0, 0, 0, 0, 0, 0, [], [], 0, ([], 0), [], 0, ([], 0)) none 0 none 0 none 0 none 0 none 0 none 0) .nil))) (Bs rfl rfl) (JS.seq (JS.region (JO.reg ttOk 2 [] [] [(24, .v (.slice a18 x0.2.2.2.2.2.2.2.2.2.2.2.2.2.2.1.length c19))] _ rfl ⟨⟨rfl, trivial⟩, rfl⟩ ?_))))))))))))
    obtain ⟨y48, hy49, h⟩ := bindO_some h
    refine JO.call rfl rfl rfl rfl (ok_i_copyInts x0.2.2.2.2.2.2.2.2.2.2.2.2.2.2.1 a18 c19 x0.2.2.2.2.2.2.2.2.2.2.2.2.2.2.1.length rfl _ hy49) rfl [4] rfl rfl ?_
    rintro ⟨a50, c51⟩ -
    refine JO.regB ttOk 2 [] [] [] (.new 7 46 (cl46 (x0.1, x0.2.1, y26, x0.2.2.2.1, x0.2.2.2.2.1, x0.2.2.2.2.2.1, x0.2.2.2.2.2.2.1, x0.2.2.2.2.2.2.2.1, x0.2.2.2.2.2.2.2.2.1, x0.2.2.2.2.2.2.2.2.2.1, y39, y43, x0.2.2.2.2.2.2.2.2.2.2.2.2.1, y30, y48, x0.2.2.2.2.2.2.2.2.2.2.2.2.2.2.2.1, y34) a28 c29 a41 c42 a45 c46 a32 c33 a50 c51 a36 c37) (.new 8 46 (cl46 (false, 0, ([], 0), 0, 0, 0, 0, 0, 0, 0, [], [], 0, ([], 0), [], 0, ([], 0)) none 0 none 0 none 0 none 0 none 0 none 0) .nil)) rfl ⟨trivial, (Bs rfl rfl)⟩ (JO.done rfl (JS.rgB ttOk 2 [] [] [] (.new 8 46 (cl46 (x0.1, x0.2.1, y26, x0.2.2.2.1, x0.2.2.2.2.1, x0.2.2.2.2.2.1, x0.2.2.2.2.2.2.1, x0.2.2.2.2.2.2.2.1, x0.2.2.2.2.2.2.2.2.1, x0.2.2.2.2.2.2.2.2.2.1, y39, y43, x0.2.2.2.2.2.2.2.2.2.2.2.2.1, y30, y48, x0.2.2.2.2.2.2.2.2.2.2.2.2.2.2.2.1, y34) a28 c29 a41 c42 a45 c46 a32 c33 a50 c51 a36 c37) .nil) ⟨trivial, (Bs rfl rfl)⟩ rfl rfl ?_))
    cases h
    exact JS.ret ttOk (a28, c29, a41, c42, a45, c46, a32, c33, a50, c51, a36, c37) trivial rfl rfl [5, 2, 1, 2, 0, 0] rfl

def M_i_ShowHit_L1 (x3 : List Int) (j122 : Unit → Option ((Bool × Int × (List Int × Int) × Int × Int × Int × Int × Int × Int × Int × List (List Int) × (List (List Int × Int)) × Int × (List Int × Int) × List Int × Int × List Int × Int) × Bool)) (k117 : Int → Option ((Bool × Int × (List Int × Int) × Int × Int × Int × Int × Int × Int × Int × List (List Int) × (List (List Int × Int)) × Int × (List Int × Int) × List Int × Int × List Int × Int) × Bool)) : Int → Option ((Bool × Int × (List Int × Int) × Int × Int × Int × Int × Int × Int × Int × List (List Int) × (List (List Int × Int)) × Int × (List Int × Int) × List Int × Int × List Int × Int) × Bool) := fun x39 =>
  (bif (decide (x39 < (x3.length : Int))) then
  (guardO (0 ≤ x39 ∧ x39 < (x3.length : Int)) <|
  (bindO (M_i_Printable (at' x3 x39)) fun (y110 : Bool) =>
  (bif (!y110) then
  some ((false, 0, ([], 0), 0, 0, 0, 0, 0, 0, 0, [], [], 0, ([], 0), [], 0, ([], 0)), false)
  else
  k117 (W (x39 + 1)))))
  else
  j122 ())

def M_i_ShowHit (x0 : Bool × Int × (List Int × Int) × Int × Int × Int × Int × Int × Int × Int × List (List Int) × (List (List Int × Int)) × Int × (List Int × Int) × List Int × Int × List Int × Int) (x1 : Int × List (List UInt8)) (x2 : Int) (x3 : List Int) : Option ((Bool × Int × (List Int × Int) × Int × Int × Int × Int × Int × Int × Int × List (List Int) × (List (List Int × Int)) × Int × (List Int × Int) × List Int × Int × List Int × Int) × Bool) :=
  (bindO (M_i_EdOk x0) fun (y37 : Bool) =>
  (bif (bif (bif (!y37) then true else (!(decide (x0.2.1 = 3)))) then true else (decide (40 < (x3.length : Int)))) then
  some ((false, 0, ([], 0), 0, 0, 0, 0, 0, 0, 0, [], [], 0, ([], 0), [], 0, ([], 0)), false)
  else
  (joinO (fun (_ : Unit) =>
  (bindO (M_i_HistGet x1 x2) fun (y126, y127) =>
  (bindO (M_i_LineOf y126) fun (y129, y130) =>
  (bindO (M_i_TextOf x3) fun (y134 : List UInt8) =>
  (bindO (M_strings_Index y126 y134) fun (y136 : Int) =>
  (bif (bif (bif (!y127) then true else (!y130)) then true else (decide (y136 < 0))) then
  some ((false, 0, ([], 0), 0, 0, 0, 0, 0, 0, 0, [], [], 0, ([], 0), [], 0, ([], 0)), false)
  else
  (guardO (0 ≤ (0 : Int) ∧ (0 : Int) ≤ y136 ∧ y136 ≤ (y126.length : Int)) <|
  (bindO (M_i_RunesOf (sub' y126 0 y136)) fun (y139, y140) =>
  (bindO (M_i_copyEd x0) fun (y144 : Bool × Int × (List Int × Int) × Int × Int × Int × Int × Int × Int × Int × List (List Int) × (List (List Int × Int)) × Int × (List Int × Int) × List Int × Int × List Int × Int) =>
  (joinO (fun ((x163, x166) : List Int × Int) =>
  (bindO (M_i_copyInts x3) fun (y169 : List Int) =>
  some ((y144.1, y144.2.1, (y129.1, (y139.length : Int)), y144.2.2.2.1, y144.2.2.2.2.1, y144.2.2.2.2.2.1, y144.2.2.2.2.2.2.1, y144.2.2.2.2.2.2.2.1, y144.2.2.2.2.2.2.2.2.1, y144.2.2.2.2.2.2.2.2.2.1, y144.2.2.2.2.2.2.2.2.2.2.1, [], x2, (x163, x166), y169, x2, y144.2.2.2.2.2.2.2.2.2.2.2.2.2.2.2.2), true))) fun j167 =>
  (bif (decide (x0.2.2.2.2.2.2.2.2.2.2.2.2.1 = 0)) then
  (bindO (M_i_copyLine x0.2.2.2.2.2.2.2.2.2.2.2.2.2.2.2.2) fun (y158 : List Int × Int) =>
  j167 (y158.1, y158.2))
  else
  j167 (y144.2.2.2.2.2.2.2.2.2.2.2.2.2.1.1, y144.2.2.2.2.2.2.2.2.2.2.2.2.2.1.2)))))))))))) fun j122 =>
  (fixF (M_i_ShowHit_L1 x3 j122) FUEL 0))))

theorem ok_i_ShowHit (x0 : Bool × Int × (List Int × Int) × Int × Int × Int × Int × Int × Int × Int × List (List Int) × (List (List Int × Int)) × Int × (List Int × Int) × List Int × Int × List Int × Int) (x1 : Int × List (List UInt8)) (x2 : Int) (x3 : List Int) (a5 : Option Addr) (c6 : Nat) (l7 : Nat) (hl8 : x0.2.2.1.1.length = l7) (a9 : Option Addr) (c10 : Nat) (l11 : Nat) (hl12 : x0.2.2.2.2.2.2.2.2.2.2.1.length = l11) (a13 : Option Addr) (c14 : Nat) (l15 : Nat) (hl16 : x0.2.2.2.2.2.2.2.2.2.2.2.1.length = l15) (a17 : Option Addr) (c18 : Nat) (l19 : Nat) (hl20 : x0.2.2.2.2.2.2.2.2.2.2.2.2.2.1.1.length = l19) (a21 : Option Addr) (c22 : Nat) (l23 : Nat) (hl24 : x0.2.2.2.2.2.2.2.2.2.2.2.2.2.2.1.length = l23) (a25 : Option Addr) (c26 : Nat) (l27 : Nat) (hl28 : x0.2.2.2.2.2.2.2.2.2.2.2.2.2.2.2.2.1.length = l27) (a29 : Option Addr) (c30 : Nat) (l31 : Nat) (hl32 : x1.2.length = l31) (a33 : Option Addr) (c34 : Nat) (l35 : Nat) (hl36 : x3.length = l35) (gm0 : Int) (r : (Bool × Int × (List Int × Int) × Int × Int × Int × Int × Int × Int × Int × List (List Int) × (List (List Int × Int)) × Int × (List Int × Int) × List Int × Int × List Int × Int) × Bool) (h : M_i_ShowHit x0 x1 x2 x3 = some r) :
    FC Tryz.prog 16 [.agg #[.bool x0.1, .int .i64 x0.2.1, .slice a5 l7 c6, .int .i64 x0.2.2.1.2, .int .i64 x0.2.2.2.1, .int .i64 x0.2.2.2.2.1, .int .i64 x0.2.2.2.2.2.1, .int .i64 x0.2.2.2.2.2.2.1, .int .i64 x0.2.2.2.2.2.2.2.1, .int .i64 x0.2.2.2.2.2.2.2.2.1, .int .i64 x0.2.2.2.2.2.2.2.2.2.1, .slice a9 l11 c10, .slice a13 l15 c14, .int .i64 x0.2.2.2.2.2.2.2.2.2.2.2.2.1, .slice a17 l19 c18, .int .i64 x0.2.2.2.2.2.2.2.2.2.2.2.2.2.1.2, .slice a21 l23 c22, .int .i64 x0.2.2.2.2.2.2.2.2.2.2.2.2.2.2.2.1, .slice a25 l27 c26, .int .i64 x0.2.2.2.2.2.2.2.2.2.2.2.2.2.2.2.2.2], .agg #[.int .i64 x1.1, .slice a29 l31 c30], .int .i64 x2, .slice a33 l35 c34] [⟨(.int .i64), ⟨a5, l7, c6⟩, x0.2.2.1.1⟩, ⟨(.sl (.int .i64)), ⟨a9, l11, c10⟩, x0.2.2.2.2.2.2.2.2.2.2.1⟩, ⟨(.pair (.sl (.int .i64)) (.int .i64)), ⟨a13, l15, c14⟩, x0.2.2.2.2.2.2.2.2.2.2.2.1⟩, ⟨(.int .i64), ⟨a17, l19, c18⟩, x0.2.2.2.2.2.2.2.2.2.2.2.2.2.1.1⟩, ⟨(.int .i64), ⟨a21, l23, c22⟩, x0.2.2.2.2.2.2.2.2.2.2.2.2.2.2.1⟩, ⟨(.int .i64), ⟨a25, l27, c26⟩, x0.2.2.2.2.2.2.2.2.2.2.2.2.2.2.2.2.1⟩, ⟨.str, ⟨a29, l31, c30⟩, x1.2⟩, ⟨(.int .i64), ⟨a33, l35, c34⟩, x3⟩, ⟨(.int .i64), ⟨(some ⟨0, 0, none⟩), 1, 1⟩, [gm0]⟩] (fun _ : Option Addr × Nat × Option Addr × Nat × Option Addr × Nat × Option Addr × Nat × Option Addr × Nat => True) (fun q => .tuple #[.agg (cl46 (r.1.1, r.1.2.1, r.1.2.2.1, r.1.2.2.2.1, r.1.2.2.2.2.1, r.1.2.2.2.2.2.1, r.1.2.2.2.2.2.2.1, r.1.2.2.2.2.2.2.2.1, r.1.2.2.2.2.2.2.2.2.1, r.1.2.2.2.2.2.2.2.2.2.1, r.1.2.2.2.2.2.2.2.2.2.2.1, [], r.1.2.2.2.2.2.2.2.2.2.2.2.2.1, r.1.2.2.2.2.2.2.2.2.2.2.2.2.2.1, r.1.2.2.2.2.2.2.2.2.2.2.2.2.2.2.1, r.1.2.2.2.2.2.2.2.2.2.2.2.2.2.2.2.1, r.1.2.2.2.2.2.2.2.2.2.2.2.2.2.2.2.2) q.1 q.2.1 q.2.2.1 q.2.2.2.1 none 0 q.2.2.2.2.1 q.2.2.2.2.2.1 q.2.2.2.2.2.2.1 q.2.2.2.2.2.2.2.1 q.2.2.2.2.2.2.2.2.1 q.2.2.2.2.2.2.2.2.2).toArray, .bool r.2]) (fun q => [⟨(.int .i64), ⟨q.1, r.1.2.2.1.1.length, q.2.1⟩, r.1.2.2.1.1⟩, ⟨(.sl (.int .i64)), ⟨q.2.2.1, r.1.2.2.2.2.2.2.2.2.2.2.1.length, q.2.2.2.1⟩, r.1.2.2.2.2.2.2.2.2.2.2.1⟩, ⟨(.int .i64), ⟨q.2.2.2.2.1, r.1.2.2.2.2.2.2.2.2.2.2.2.2.2.1.1.length, q.2.2.2.2.2.1⟩, r.1.2.2.2.2.2.2.2.2.2.2.2.2.2.1.1⟩, ⟨(.int .i64), ⟨q.2.2.2.2.2.2.1, r.1.2.2.2.2.2.2.2.2.2.2.2.2.2.2.1.length, q.2.2.2.2.2.2.2.1⟩, r.1.2.2.2.2.2.2.2.2.2.2.2.2.2.2.1⟩, ⟨(.int .i64), ⟨q.2.2.2.2.2.2.2.2.1, r.1.2.2.2.2.2.2.2.2.2.2.2.2.2.2.2.2.1.length, q.2.2.2.2.2.2.2.2.2⟩, r.1.2.2.2.2.2.2.2.2.2.2.2.2.2.2.2.2.1⟩]) :=
  by
    subst hl8
    subst hl12
    subst hl16
    subst hl20
    subst hl24
    subst hl28
    subst hl32
    subst hl36
    refine FC.of (T := TTx) Tryz.call16 Tryz.func16 rfl rfl fun w0 => ?_
    unfold M_i_ShowHit at h
    refine JS.rgB ttOk 4 [] [10, 11, 12] [(4, .bp 10 0), (5, .bp 11 0), (8, .bp 12 0)] (.new 10 46 (cl46 x0 a5 c6 a9 c10 a13 c14 a17 c18 a21 c22 a25 c26) (.new 11 50 [.int .i64 x1.1, .slice a29 x1.2.length c30] (.new 12 46 (cl46 (false, 0, ([], 0), 0, 0, 0, 0, 0, 0, 0, [], [], 0, ([], 0), [], 0, ([], 0)) none 0 none 0 none 0 none 0 none 0 none 0) .nil))) ⟨(Es rfl), (Bs rfl rfl)⟩ rfl rfl (JS.seq (JS.seq (JS.region (JO.reg ttOk 1 [] [] [(20, .v (.agg (cl46 x0 a5 c6 a9 c10 a13 c14 a17 c18 a21 c22 a25 c26).toArray))] _ rfl ⟨⟨rfl, trivial⟩, rfl⟩ ?_))))
    obtain ⟨y37, hy38, h⟩ := bindO_some h
    refine JO.call rfl rfl rfl rfl (ok_i_EdOk x0 a5 c6 x0.2.2.1.1.length rfl a9 c10 x0.2.2.2.2.2.2.2.2.2.2.1.length rfl a13 c14 x0.2.2.2.2.2.2.2.2.2.2.2.1.length rfl a17 c18 x0.2.2.2.2.2.2.2.2.2.2.2.2.2.1.1.length rfl a21 c22 x0.2.2.2.2.2.2.2.2.2.2.2.2.2.2.1.length rfl a25 c26 x0.2.2.2.2.2.2.2.2.2.2.2.2.2.2.2.2.1.length rfl _ hy38) rfl [0, 1, 2, 3, 4, 5] rfl rfl fun _ _ => JO.reg ttOk 11 [] [] [(32, .v (.bool (bif (bif (!y37) then true else (!(decide (x0.2.1 = 3)))) then true else (decide (40 < (x3.length : Int))))))] _ rfl ⟨⟨rfl, trivial⟩, rfl⟩ (JO.done rfl ?_)
    refine JS.cond rfl (fun ht185 => ?_) (fun ht185 => ?_)
    · have h := condT h ht185
      refine JS.rgB ttOk 3 [] [] [(9, .v (.bool false))] (.new 12 46 (cl46 (false, 0, ([], 0), 0, 0, 0, 0, 0, 0, 0, [], [], 0, ([], 0), [], 0, ([], 0)) none 0 none 0 none 0 none 0 none 0 none 0) .nil) ⟨⟨rfl, trivial⟩, (Bs rfl rfl)⟩ rfl rfl ?_
      cases h
      refine JS.nilO (.int .i64) Sl.nil rfl rfl (JS.nilO (.sl (.int .i64)) Sl.nil rfl rfl (JS.nilO (.int .i64) Sl.nil rfl rfl (JS.nilO (.int .i64) Sl.nil rfl rfl (JS.nilO (.int .i64) Sl.nil rfl rfl (JS.ret ttOk (none, 0, none, 0, none, 0, none, 0, none, 0) trivial rfl rfl [4, 3, 2, 1, 0] rfl)))))
    have h := condF h ht185
    refine JS.skip (JS.seq (JS.rg0 ttOk 3 [(34, .v (.slice a33 x3.length c34)), (35, .v (.int .i64 (x3.length : Int))), (36, .v (.int .i64 0))] ⟨(Es rfl), rfl⟩ rfl rfl ?_))
    obtain ⟨j122, hj184, h⟩ := joinO_some h
    refine JS.blockJ (ι := Unit) ⟨fun _ => j122 () = some r, fun _ => [(2, .v (.int .i64 x2)), (3, .v (.slice a33 x3.length c34)), (4, .bp 10 0), (5, .bp 11 0), (8, .bp 12 0)], fun _ => (.new 10 46 (cl46 x0 a5 c6 a9 c10 a13 c14 a17 c18 a21 c22 a25 c26) (.new 11 50 [.int .i64 x1.1, .slice a29 x1.2.length c30] (.new 12 46 (cl46 (false, 0, ([], 0), 0, 0, 0, 0, 0, 0, 0, [], [], 0, ([], 0), [], 0, ([], 0)) none 0 none 0 none 0 none 0 none 0 none 0) .nil))), fun _ => [⟨(.int .i64), ⟨a33, x3.length, c34⟩, x3⟩, ⟨(.int .i64), ⟨a5, x0.2.2.1.1.length, c6⟩, x0.2.2.1.1⟩, ⟨(.sl (.int .i64)), ⟨a9, x0.2.2.2.2.2.2.2.2.2.2.1.length, c10⟩, x0.2.2.2.2.2.2.2.2.2.2.1⟩, ⟨(.pair (.sl (.int .i64)) (.int .i64)), ⟨a13, x0.2.2.2.2.2.2.2.2.2.2.2.1.length, c14⟩, x0.2.2.2.2.2.2.2.2.2.2.2.1⟩, ⟨(.int .i64), ⟨a17, x0.2.2.2.2.2.2.2.2.2.2.2.2.2.1.1.length, c18⟩, x0.2.2.2.2.2.2.2.2.2.2.2.2.2.1.1⟩, ⟨(.int .i64), ⟨a21, x0.2.2.2.2.2.2.2.2.2.2.2.2.2.2.1.length, c22⟩, x0.2.2.2.2.2.2.2.2.2.2.2.2.2.2.1⟩, ⟨(.int .i64), ⟨a25, x0.2.2.2.2.2.2.2.2.2.2.2.2.2.2.2.2.1.length, c26⟩, x0.2.2.2.2.2.2.2.2.2.2.2.2.2.2.2.2.1⟩, ⟨.str, ⟨a29, x1.2.length, c30⟩, x1.2⟩, ⟨(.int .i64), ⟨(some ⟨0, 0, none⟩), 1, 1⟩, [gm0]⟩], fun _ => [], fun _ => 0⟩ ?_ ?_
    · refine JS.loop (ι := Nat × Int) ⟨fun z => fixF (M_i_ShowHit_L1 x3 j122) z.1 z.2 = some r, fun z => [(2, .v (.int .i64 x2)), (3, .v (.slice a33 x3.length c34)), (4, .bp 10 0), (5, .bp 11 0), (8, .bp 12 0), (34, .v (.slice a33 x3.length c34)), (35, .v (.int .i64 (x3.length : Int))), (36, .v (.int .i64 z.2))], fun z => (.new 10 46 (cl46 x0 a5 c6 a9 c10 a13 c14 a17 c18 a21 c22 a25 c26) (.new 11 50 [.int .i64 x1.1, .slice a29 x1.2.length c30] (.new 12 46 (cl46 (false, 0, ([], 0), 0, 0, 0, 0, 0, 0, 0, [], [], 0, ([], 0), [], 0, ([], 0)) none 0 none 0 none 0 none 0 none 0 none 0) .nil))), fun z => [⟨(.int .i64), ⟨a33, x3.length, c34⟩, x3⟩, ⟨(.int .i64), ⟨a5, x0.2.2.1.1.length, c6⟩, x0.2.2.1.1⟩, ⟨(.sl (.int .i64)), ⟨a9, x0.2.2.2.2.2.2.2.2.2.2.1.length, c10⟩, x0.2.2.2.2.2.2.2.2.2.2.1⟩, ⟨(.pair (.sl (.int .i64)) (.int .i64)), ⟨a13, x0.2.2.2.2.2.2.2.2.2.2.2.1.length, c14⟩, x0.2.2.2.2.2.2.2.2.2.2.2.1⟩, ⟨(.int .i64), ⟨a17, x0.2.2.2.2.2.2.2.2.2.2.2.2.2.1.1.length, c18⟩, x0.2.2.2.2.2.2.2.2.2.2.2.2.2.1.1⟩, ⟨(.int .i64), ⟨a21, x0.2.2.2.2.2.2.2.2.2.2.2.2.2.2.1.length, c22⟩, x0.2.2.2.2.2.2.2.2.2.2.2.2.2.2.1⟩, ⟨(.int .i64), ⟨a25, x0.2.2.2.2.2.2.2.2.2.2.2.2.2.2.2.2.1.length, c26⟩, x0.2.2.2.2.2.2.2.2.2.2.2.2.2.2.2.2.1⟩, ⟨.str, ⟨a29, x1.2.length, c30⟩, x1.2⟩, ⟨(.int .i64), ⟨(some ⟨0, 0, none⟩), 1, 1⟩, [gm0]⟩], fun z => [], fun z => z.1⟩ (FUEL, 0) h (Es rfl) (Bs rfl rfl) [7, 0, 1, 2, 3, 4, 5, 6, 8] rfl [] rfl ?_
      rintro ⟨n118, x39⟩ h
      obtain ⟨n118, rfl, h⟩ := fixF_some h
      rw [M_i_ShowHit_L1] at h
      refine JS.rg0 ttOk 1 [(37, .v (.bool (decide (x39 < (x3.length : Int)))))] ⟨⟨rfl, trivial⟩, rfl⟩ rfl rfl (JS.seq ?_)
      refine JS.cond rfl (fun ht180 => ?_) (fun ht180 => ?_)
      · have h := condT h ht180
        refine JS.skip (JS.seq (JS.block (JS.seq (JS.region (JO.know 0 rfl fun hs178 => ?_)))))
        obtain ⟨g109, h⟩ := guardO_some h
        refine JO.reg ttOk 1 [] [] [(38, .ep ⟨a33, x3.length, c34⟩ (Int.toNat x39 * 1))] _ rfl ⟨hs178.ix g109, ⟨rfl, trivial⟩, rfl⟩ (JO.load ttOk rfl rfl rfl rfl rfl rfl rfl 0 rfl rfl (Int.toNat x39) 0 (at' x3 x39) ⟨at_some g109, rfl⟩ rfl rfl (JO.reg ttOk 1 [] [] [(11, .v (.int .i64 (at' x3 x39)))] _ rfl ⟨⟨rfl, trivial⟩, rfl⟩ (JO.done rfl (JS.seq (JS.region (JO.reg ttOk 1 [] [] [(40, .v (.int .i64 (at' x3 x39)))] _ rfl ⟨⟨rfl, trivial⟩, rfl⟩ ?_))))))
        obtain ⟨y110, hy111, h⟩ := bindO_some h
        refine JO.call rfl rfl rfl rfl (ok_i_Printable (at' x3 x39) _ hy111) rfl [] rfl rfl fun _ _ => JO.reg ttOk 1 [] [] [(42, .v (.bool (!y110)))] _ rfl ⟨⟨rfl, trivial⟩, rfl⟩ (JO.done rfl ?_)
        refine JS.cond rfl (fun ht179 => ?_) (fun ht179 => ?_)
        · have h := condT h ht179
          refine JS.rgB ttOk 3 [] [] [(9, .v (.bool false))] (.new 12 46 (cl46 (false, 0, ([], 0), 0, 0, 0, 0, 0, 0, 0, [], [], 0, ([], 0), [], 0, ([], 0)) none 0 none 0 none 0 none 0 none 0 none 0) .nil) ⟨⟨rfl, trivial⟩, (Bs rfl rfl)⟩ rfl rfl ?_
          cases h
          refine JS.nilO (.int .i64) Sl.nil rfl rfl (JS.nilO (.sl (.int .i64)) Sl.nil rfl rfl (JS.nilO (.int .i64) Sl.nil rfl rfl (JS.nilO (.int .i64) Sl.nil rfl rfl (JS.nilO (.int .i64) Sl.nil rfl rfl (JS.ret ttOk (none, 0, none, 0, none, 0, none, 0, none, 0) trivial rfl rfl [4, 3, 2, 1, 0] rfl)))))
        have h := condF h ht179
        refine JS.skip (JS.endB (JS.re ttOk 2 [(W (x39 + 1))] [] [(36, .v (.int .i64 (W (x39 + 1))))] _ ⟨⟨trivial, rfl⟩, ⟨rfl, trivial⟩, rfl⟩ rfl rfl (JS.endL (n118, (W (x39 + 1))) h (Nat.lt_succ_self _) (Es rfl) (Bs rfl rfl) [0, 1, 2, 3, 4, 5, 6, 7, 8] rfl [] rfl)))
      have h := condF h ht180
      refine JS.exit rfl (JS.endJ () h (Es rfl) (Bs rfl rfl) [0, 1, 2, 3, 4, 5, 6, 7, 8] rfl [] rfl)
    rintro _ h
    subst hj184
    refine JS.seq (JS.region (JO.reg ttOk 2 [] [] [(46, .v (.agg #[.int .i64 x1.1, .slice a29 x1.2.length c30])), (47, .v (.int .i64 x2))] _ rfl ⟨(Es rfl), rfl⟩ ?_))
    obtain ⟨⟨y126, y127⟩, hy128, h⟩ := bindO_some h
    refine JO.call rfl rfl rfl rfl (ok_i_HistGet x1 x2 a29 c30 x1.2.length rfl _ hy128) rfl [7] rfl rfl fun _ _ => JO.reg ttOk 5 [] [] [(12, .v (.string (bs y126))), (13, .v (.bool y127))] _ rfl ⟨(Es rfl), rfl⟩ (JO.done rfl (JS.seq (JS.region (JO.reg ttOk 1 [] [] [(52, .v (.string (bs y126)))] _ rfl ⟨⟨rfl, trivial⟩, rfl⟩ ?_))))
    obtain ⟨⟨y129, y130⟩, hy131, h⟩ := bindO_some h
    refine JO.call rfl rfl rfl rfl (ok_i_LineOf y126 _ hy131) rfl [] rfl rfl ?_
    rintro ⟨a132, c133⟩ -
    refine JO.regB ttOk 6 [] [112] [(14, .bp 112 0), (15, .v (.bool y130))] (.new 10 46 (cl46 x0 a5 c6 a9 c10 a13 c14 a17 c18 a21 c22 a25 c26) (.new 12 46 (cl46 (false, 0, ([], 0), 0, 0, 0, 0, 0, 0, 0, [], [], 0, ([], 0), [], 0, ([], 0)) none 0 none 0 none 0 none 0 none 0 none 0) (.new 112 38 [.slice a132 y129.1.length c133, .int .i64 y129.2] .nil))) rfl ⟨(Es rfl), (Bs rfl rfl)⟩ (JO.done rfl (JS.seq (JS.region (JO.reg ttOk 2 [] [] [(56, .v (.string (bs y126))), (57, .v (.slice a33 x3.length c34))] _ rfl ⟨(Es rfl), rfl⟩ ?_))))
    obtain ⟨y134, hy135, h⟩ := bindO_some h
    refine JO.call rfl rfl rfl rfl (ok_i_TextOf x3 a33 c34 x3.length rfl _ hy135) rfl [0] rfl rfl fun _ _ => ?_
    obtain ⟨y136, hy137, h⟩ := bindO_some h
    refine JO.call rfl rfl rfl rfl (ok_strings_Index y126 y134 gm0 _ hy137) rfl [8] rfl rfl fun _ _ => JO.reg ttOk 1 [] [] [(16, .v (.int .i64 y136))] _ rfl ⟨⟨rfl, trivial⟩, rfl⟩ (JO.done rfl (JS.seq (JS.rg0 ttOk 10 [(69, .v (.bool (bif (bif (!y127) then true else (!y130)) then true else (decide (y136 < 0)))))] ⟨⟨rfl, trivial⟩, rfl⟩ rfl rfl ?_)))
    refine JS.cond rfl (fun ht183 => ?_) (fun ht183 => ?_)
    · have h := condT h ht183
      refine JS.rgB ttOk 3 [] [] [(9, .v (.bool false))] (.new 12 46 (cl46 (false, 0, ([], 0), 0, 0, 0, 0, 0, 0, 0, [], [], 0, ([], 0), [], 0, ([], 0)) none 0 none 0 none 0 none 0 none 0 none 0) .nil) ⟨⟨rfl, trivial⟩, (Bs rfl rfl)⟩ rfl rfl ?_
      cases h
      refine JS.nilO (.int .i64) Sl.nil rfl rfl (JS.nilO (.sl (.int .i64)) Sl.nil rfl rfl (JS.nilO (.int .i64) Sl.nil rfl rfl (JS.nilO (.int .i64) Sl.nil rfl rfl (JS.nilO (.int .i64) Sl.nil rfl rfl (JS.ret ttOk (none, 0, none, 0, none, 0, none, 0, none, 0) trivial rfl rfl [4, 3, 2, 1, 0] rfl)))))
    have h := condF h ht183
    refine JS.skip (JS.seq (JS.region ?_))
    obtain ⟨g138, h⟩ := guardO_some h
    refine JO.reg ttOk 3 [] [] [(74, .v (.string (bs (sub' y126 0 y136))))] _ rfl ⟨g138, ⟨rfl, trivial⟩, rfl⟩ ?_
    obtain ⟨⟨y139, y140⟩, hy141, h⟩ := bindO_some h
    refine JO.call rfl rfl rfl rfl (ok_i_RunesOf (sub' y126 0 y136) _ hy141) rfl [] rfl rfl ?_
    rintro ⟨a142, c143⟩ -
    refine JO.reg ttOk 5 [] [] [(17, .v (.slice a142 y139.length c143))] _ rfl ⟨⟨rfl, trivial⟩, rfl⟩ (JO.done rfl (JS.rgB ttOk 4 [] [] [] (.new 10 46 (cl46 x0 a5 c6 a9 c10 a13 c14 a17 c18 a21 c22 a25 c26) (.new 12 46 (cl46 (false, 0, ([], 0), 0, 0, 0, 0, 0, 0, 0, [], [], 0, ([], 0), [], 0, ([], 0)) none 0 none 0 none 0 none 0 none 0 none 0) (.new 112 38 [.slice a132 y129.1.length c133, .int .i64 (y139.length : Int)] .nil))) ⟨trivial, (Bs rfl rfl)⟩ rfl rfl (JS.seq (JS.region (JO.reg ttOk 1 [] [] [(81, .v (.agg (cl46 x0 a5 c6 a9 c10 a13 c14 a17 c18 a21 c22 a25 c26).toArray))] _ rfl ⟨⟨rfl, trivial⟩, rfl⟩ ?_)))))
    obtain ⟨y144, hy145, h⟩ := bindO_some h
    refine JO.call rfl rfl rfl rfl (ok_i_copyEd x0 a5 c6 x0.2.2.1.1.length rfl a9 c10 x0.2.2.2.2.2.2.2.2.2.2.1.length rfl a13 c14 x0.2.2.2.2.2.2.2.2.2.2.2.1.length rfl a17 c18 x0.2.2.2.2.2.2.2.2.2.2.2.2.2.1.1.length rfl a21 c22 x0.2.2.2.2.2.2.2.2.2.2.2.2.2.2.1.length rfl a25 c26 x0.2.2.2.2.2.2.2.2.2.2.2.2.2.2.2.2.1.length rfl _ hy145) rfl [1, 2, 3, 4, 5, 6] rfl rfl ?_
    rintro ⟨a146, c147, a148, c149, a150, c151, a152, c153, a154, c155, a156, c157⟩ -
    refine JO.regB ttOk 2 [] [144] [(19, .bp 144 0)] (.new 10 46 (cl46 x0 a5 c6 a9 c10 a13 c14 a17 c18 a21 c22 a25 c26) (.new 12 46 (cl46 (false, 0, ([], 0), 0, 0, 0, 0, 0, 0, 0, [], [], 0, ([], 0), [], 0, ([], 0)) none 0 none 0 none 0 none 0 none 0 none 0) (.new 112 38 [.slice a132 y129.1.length c133, .int .i64 (y139.length : Int)] (.new 144 46 (cl46 y144 a146 c147 a148 c149 a150 c151 a152 c153 a154 c155 a156 c157) .nil)))) rfl ⟨⟨rfl, trivial⟩, (Bs rfl rfl)⟩ (JO.done rfl ?_)
    obtain ⟨j167, hj182, h⟩ := joinO_some h
    refine JS.seqJ (ι := List Int × Int × Option Addr × Nat) ⟨fun z => j167 (z.1, z.2.1) = some r, fun z => [(2, .v (.int .i64 x2)), (3, .v (.slice a33 x3.length c34)), (8, .bp 12 0), (14, .bp 112 0), (19, .bp 144 0)], fun z => (.new 12 46 (cl46 (false, 0, ([], 0), 0, 0, 0, 0, 0, 0, 0, [], [], 0, ([], 0), [], 0, ([], 0)) none 0 none 0 none 0 none 0 none 0 none 0) (.new 112 38 [.slice a132 y129.1.length c133, .int .i64 (y139.length : Int)] (.new 144 46 (cl46 (y144.1, y144.2.1, y144.2.2.1, y144.2.2.2.1, y144.2.2.2.2.1, y144.2.2.2.2.2.1, y144.2.2.2.2.2.2.1, y144.2.2.2.2.2.2.2.1, y144.2.2.2.2.2.2.2.2.1, y144.2.2.2.2.2.2.2.2.2.1, y144.2.2.2.2.2.2.2.2.2.2.1, y144.2.2.2.2.2.2.2.2.2.2.2.1, y144.2.2.2.2.2.2.2.2.2.2.2.2.1, (z.1, z.2.1), y144.2.2.2.2.2.2.2.2.2.2.2.2.2.2.1, y144.2.2.2.2.2.2.2.2.2.2.2.2.2.2.2.1, y144.2.2.2.2.2.2.2.2.2.2.2.2.2.2.2.2) a146 c147 a148 c149 a150 c151 z.2.2.1 z.2.2.2 a154 c155 a156 c157) .nil))), fun z => [⟨(.int .i64), ⟨a33, x3.length, c34⟩, x3⟩, ⟨(.int .i64), ⟨(some ⟨0, 0, none⟩), 1, 1⟩, [gm0]⟩], fun z => [⟨(.int .i64), ⟨z.2.2.1, z.1.length, z.2.2.2⟩, z.1⟩, ⟨(.int .i64), ⟨a132, y129.1.length, c133⟩, y129.1⟩, ⟨(.int .i64), ⟨a146, y144.2.2.1.1.length, c147⟩, y144.2.2.1.1⟩, ⟨(.sl (.int .i64)), ⟨a148, y144.2.2.2.2.2.2.2.2.2.2.1.length, c149⟩, y144.2.2.2.2.2.2.2.2.2.2.1⟩, ⟨(.pair (.sl (.int .i64)) (.int .i64)), ⟨a150, y144.2.2.2.2.2.2.2.2.2.2.2.1.length, c151⟩, y144.2.2.2.2.2.2.2.2.2.2.2.1⟩, ⟨(.int .i64), ⟨a154, y144.2.2.2.2.2.2.2.2.2.2.2.2.2.2.1.length, c155⟩, y144.2.2.2.2.2.2.2.2.2.2.2.2.2.2.1⟩, ⟨(.int .i64), ⟨a156, y144.2.2.2.2.2.2.2.2.2.2.2.2.2.2.2.2.1.length, c157⟩, y144.2.2.2.2.2.2.2.2.2.2.2.2.2.2.2.2.1⟩], fun z => 0⟩ ?_ ?_
    · refine JS.rg0 ttOk 3 [(85, .v (.bool (decide (x0.2.2.2.2.2.2.2.2.2.2.2.2.1 = 0))))] ⟨⟨rfl, trivial⟩, rfl⟩ rfl rfl ?_
      refine JS.cond rfl (fun ht181 => ?_) (fun ht181 => ?_)
      · have h := condT h ht181
        refine JS.region (JO.reg ttOk 2 [] [] [(87, .v (.agg #[.slice a25 x0.2.2.2.2.2.2.2.2.2.2.2.2.2.2.2.2.1.length c26, .int .i64 x0.2.2.2.2.2.2.2.2.2.2.2.2.2.2.2.2.2]))] _ rfl ⟨⟨rfl, trivial⟩, rfl⟩ ?_)
        obtain ⟨y158, hy159, h⟩ := bindO_some h
        refine JO.call rfl rfl rfl rfl (ok_i_copyLine x0.2.2.2.2.2.2.2.2.2.2.2.2.2.2.2.2 a25 c26 x0.2.2.2.2.2.2.2.2.2.2.2.2.2.2.2.2.1.length rfl _ hy159) rfl [6] rfl rfl ?_
        rintro ⟨a160, c161⟩ -
        refine JO.regB ttOk 2 [] [] [] (.new 12 46 (cl46 (false, 0, ([], 0), 0, 0, 0, 0, 0, 0, 0, [], [], 0, ([], 0), [], 0, ([], 0)) none 0 none 0 none 0 none 0 none 0 none 0) (.new 112 38 [.slice a132 y129.1.length c133, .int .i64 (y139.length : Int)] (.new 144 46 (cl46 (y144.1, y144.2.1, y144.2.2.1, y144.2.2.2.1, y144.2.2.2.2.1, y144.2.2.2.2.2.1, y144.2.2.2.2.2.2.1, y144.2.2.2.2.2.2.2.1, y144.2.2.2.2.2.2.2.2.1, y144.2.2.2.2.2.2.2.2.2.1, y144.2.2.2.2.2.2.2.2.2.2.1, y144.2.2.2.2.2.2.2.2.2.2.2.1, y144.2.2.2.2.2.2.2.2.2.2.2.2.1, y158, y144.2.2.2.2.2.2.2.2.2.2.2.2.2.2.1, y144.2.2.2.2.2.2.2.2.2.2.2.2.2.2.2.1, y144.2.2.2.2.2.2.2.2.2.2.2.2.2.2.2.2) a146 c147 a148 c149 a150 c151 a160 c161 a154 c155 a156 c157) .nil))) rfl ⟨trivial, (Bs rfl rfl)⟩ (JO.done rfl (JS.endJA (y158.1, y158.2, a160, c161) h (Es rfl) (Bs rfl rfl) [0, 8] rfl [0, 8, 1, 2, 3, 5, 6] rfl rfl))
      have h := condF h ht181
      refine JS.skip (JS.endJA (y144.2.2.2.2.2.2.2.2.2.2.2.2.2.1.1, y144.2.2.2.2.2.2.2.2.2.2.2.2.2.1.2, a152, c153) h (Es rfl) (Bs rfl rfl) [0, 8] rfl [3, 7, 0, 1, 2, 4, 5] rfl rfl)
    rintro ⟨x163, x166, a164, c165⟩ h
    subst hj182
    refine JS.seq ?_
    obtain ⟨y169, hy170, h⟩ := bindO_some h
    refine JS.regionA rfl (.new 112 38 [.slice a132 y129.1.length c133, .int .i64 (y139.length : Int)] .nil) [] [6, 7, 8, 9, 10, 11, 12, 13, 14, 15] ⟨rfl, rfl, rfl, rfl, trivial⟩ rfl (fun be173 => ?_)
    refine JA.reg ttOk panic_cx true 15 [0] rfl (by kernel_rfl) [] [(90, .v (.agg #[.slice a132 y129.1.length c133, .int .i64 (y139.length : Int)]))] ⟨rfl, rfl, rfl, rfl, trivial⟩ [] rfl rfl ⟨rfl, trivial⟩ (JA.regL ttOk panic_cx 10 [1, 3, 4, 5, 6] rfl (by kernel_rfl) [] [(91, .v (.slice a33 x3.length c34)), (93, .v (.int .i64 x2)), (94, .v (.int .i64 x2)), (95, .v (.agg #[.slice none 0 0])), (96, .bp 144 2)] rfl (Es rfl) (JA.one 2 (by kernel_rfl) (JK.call rfl rfl rfl rfl (ok_i_copyInts x3 a33 c34 x3.length rfl _ hy170) rfl [0] rfl rfl ?_)))
    rintro ⟨a171, c172⟩ -
    refine JA.next ⟨rfl, rfl, rfl, rfl, trivial⟩ [] rfl (JA.one 7 (by kernel_rfl) (JK.stBox ttOk rfl rfl rfl rfl rfl rfl rfl rfl (JA.nextL rfl (JA.regL ttOk panic_cx 7 [8] rfl (by kernel_rfl) [] [(97, .bp 144 16)] rfl ⟨rfl, trivial⟩ (JA.one 9 (by kernel_rfl) (JK.stBox ttOk rfl rfl rfl rfl rfl rfl rfl rfl (JA.nextL rfl (JA.regL ttOk panic_cx 5 [10] rfl (by kernel_rfl) [] [(98, .bp 144 17)] rfl ⟨rfl, trivial⟩ (JA.one 11 (by kernel_rfl) (JK.stBox ttOk rfl rfl rfl rfl rfl rfl rfl rfl (JA.nextL rfl (JA.regL ttOk panic_cx 3 [12] rfl (by kernel_rfl) [] [(99, .bp 144 13)] rfl ⟨rfl, trivial⟩ (JA.one 13 (by kernel_rfl) (JK.stBox ttOk rfl rfl rfl rfl rfl rfl rfl rfl (JA.nextL rfl (JA.regL ttOk panic_cx 1 [14] rfl (by kernel_rfl) [] [(100, .bp 144 12)] rfl ⟨rfl, trivial⟩ (JA.one 15 (by kernel_rfl) (JK.stBox ttOk rfl rfl rfl rfl rfl rfl rfl rfl (JA.nextL rfl (JA.done (by kernel_rfl) (JS.boxes (B' := (.new 12 46 (cl46 (false, 0, ([], 0), 0, 0, 0, 0, 0, 0, 0, [], [], 0, ([], 0), [], 0, ([], 0)) none 0 none 0 none 0 none 0 none 0 none 0) (.new 144 46 (cl46 (y144.1, y144.2.1, (y129.1, (y139.length : Int)), y144.2.2.2.1, y144.2.2.2.2.1, y144.2.2.2.2.2.1, y144.2.2.2.2.2.2.1, y144.2.2.2.2.2.2.2.1, y144.2.2.2.2.2.2.2.2.1, y144.2.2.2.2.2.2.2.2.2.1, y144.2.2.2.2.2.2.2.2.2.2.1, [], x2, (x163, x166), y169, x2, y144.2.2.2.2.2.2.2.2.2.2.2.2.2.2.2.2) a132 c133 a148 c149 none 0 a164 c165 a171 c172 a156 c157) .nil))) (Bs rfl rfl) (JS.rgB ttOk 3 [] [] [(9, .v (.bool true))] (.new 12 46 (cl46 (y144.1, y144.2.1, (y129.1, (y139.length : Int)), y144.2.2.2.1, y144.2.2.2.2.1, y144.2.2.2.2.2.1, y144.2.2.2.2.2.2.1, y144.2.2.2.2.2.2.2.1, y144.2.2.2.2.2.2.2.2.1, y144.2.2.2.2.2.2.2.2.2.1, y144.2.2.2.2.2.2.2.2.2.2.1, [], x2, (x163, x166), y169, x2, y144.2.2.2.2.2.2.2.2.2.2.2.2.2.2.2.2) a132 c133 a148 c149 none 0 a164 c165 a171 c172 a156 c157) .nil) ⟨⟨rfl, trivial⟩, (Bs rfl rfl)⟩ rfl rfl ?_))))))))))))))))))))))
    cases h
    exact JS.ret ttOk (a132, c133, a148, c149, a164, c165, a171, c172, a156, c157) trivial rfl rfl [2, 3, 1, 0, 3] rfl

def M_l_eqIntS_L1 (x0 : List Int) (x1 : List Int) (j28 : Unit → Option Bool) (k20 : Int → Option Bool) : Int → Option Bool := fun x11 =>
  (bif (decide (x11 < (x0.length : Int))) then
  (guardO (0 ≤ x11 ∧ x11 < (x0.length : Int)) <|
  (guardO (0 ≤ x11 ∧ x11 < (x1.length : Int)) <|
  (bif (!(decide ((at' x0 x11) = (at' x1 x11)))) then
  some false
  else
  k20 (W (x11 + 1)))))
  else
  j28 ())

def M_l_eqIntS (x0 : List Int) (x1 : List Int) : Option Bool :=
  (bif (!(decide ((x0.length : Int) = (x1.length : Int)))) then
  some false
  else
  (joinO (fun (_ : Unit) =>
  some true) fun j28 =>
  (fixF (M_l_eqIntS_L1 x0 x1 j28) FUEL 0)))

theorem ok_l_eqIntS (x0 : List Int) (x1 : List Int) (a3 : Option Addr) (c4 : Nat) (l5 : Nat) (hl6 : x0.length = l5) (a7 : Option Addr) (c8 : Nat) (l9 : Nat) (hl10 : x1.length = l9) (r : Bool) (h : M_l_eqIntS x0 x1 = some r) :
    FC Tryz.prog 19 [.slice a3 l5 c4, .slice a7 l9 c8] [⟨(.int .i64), ⟨a3, l5, c4⟩, x0⟩, ⟨(.int .i64), ⟨a7, l9, c8⟩, x1⟩] (fun _ : Unit => True) (fun _ => .bool r) (fun _ => []) :=
  by
    subst hl6
    subst hl10
    refine FC.of (T := TTx) Tryz.call19 Tryz.func19 rfl rfl fun w0 => ?_
    unfold M_l_eqIntS at h
    refine JS.rg0 ttOk 1 [] ⟨trivial, rfl⟩ rfl rfl (JS.seq (JS.rg0 ttOk 5 [(10, .v (.bool (!(decide ((x0.length : Int) = (x1.length : Int))))))] ⟨⟨rfl, trivial⟩, rfl⟩ rfl rfl ?_))
    refine JS.cond rfl (fun ht44 => ?_) (fun ht44 => ?_)
    · have h := condT h ht44
      refine JS.rg0 ttOk 1 [(4, .v (.bool false))] ⟨⟨rfl, trivial⟩, rfl⟩ rfl rfl ?_
      cases h
      exact JS.ret ttOk () trivial rfl rfl [] rfl
    have h := condF h ht44
    refine JS.skip (JS.seq (JS.rg0 ttOk 1 [(5, .v (.int .i64 0))] ⟨⟨rfl, trivial⟩, rfl⟩ rfl rfl ?_))
    obtain ⟨j28, hj43, h⟩ := joinO_some h
    refine JS.blockJ (ι := Unit) ⟨fun _ => j28 () = some r, fun _ => [], fun _ => .nil, fun _ => [], fun _ => [], fun _ => 0⟩ ?_ ?_
    · refine JS.loop (ι := Nat × Int) ⟨fun z => fixF (M_l_eqIntS_L1 x0 x1 j28) z.1 z.2 = some r, fun z => [(0, .v (.slice a3 x0.length c4)), (1, .v (.slice a7 x1.length c8)), (5, .v (.int .i64 z.2))], fun z => .nil, fun z => [⟨(.int .i64), ⟨a3, x0.length, c4⟩, x0⟩, ⟨(.int .i64), ⟨a7, x1.length, c8⟩, x1⟩], fun z => [], fun z => z.1⟩ (FUEL, 0) h (Es rfl) trivial [0, 1] rfl [] rfl ?_
      rintro ⟨n21, x11⟩ h
      obtain ⟨n21, rfl, h⟩ := fixF_some h
      rw [M_l_eqIntS_L1] at h
      refine JS.seq (JS.rg0 ttOk 4 [(14, .v (.bool (decide (x11 < (x0.length : Int)))))] ⟨⟨rfl, trivial⟩, rfl⟩ rfl rfl ?_)
      refine JS.cond rfl (fun ht42 => ?_) (fun ht42 => ?_)
      · have h := condT h ht42
        refine JS.skip (JS.seq (JS.block (JS.seq ?_)))
        obtain ⟨g13, h⟩ := guardO_some h
        obtain ⟨g15, h⟩ := guardO_some h
        refine JS.know 0 rfl fun hs39 => JS.know 1 rfl fun hs40 => JS.regionQ rfl (by kernel_rfl) (JQ.reg ttOk 3 [] [(19, .ep ⟨a3, x0.length, c4⟩ (Int.toNat x11 * 1))] rfl ⟨hs39.ix g13, ⟨rfl, trivial⟩⟩ (JQ.load ttOk rfl rfl rfl rfl rfl rfl rfl 0 rfl rfl (Int.toNat x11) 0 (at' x0 x11) ⟨at_some g13, rfl⟩ rfl rfl (JQ.reg ttOk 3 [] [(23, .ep ⟨a7, x1.length, c8⟩ (Int.toNat x11 * 1))] rfl ⟨hs40.ix g15, ⟨rfl, trivial⟩⟩ (JQ.load ttOk rfl rfl rfl rfl rfl rfl rfl 1 rfl rfl (Int.toNat x11) 0 (at' x1 x11) ⟨at_some g15, rfl⟩ rfl rfl (JQ.reg ttOk 1 [] [(25, .v (.bool (!(decide ((at' x0 x11) = (at' x1 x11))))))] rfl ⟨rfl, trivial⟩ (JQ.done rfl ?_))))))
        refine JS.cond rfl (fun ht41 => ?_) (fun ht41 => ?_)
        · have h := condT h ht41
          refine JS.rg0 ttOk 1 [(4, .v (.bool false))] ⟨⟨rfl, trivial⟩, rfl⟩ rfl rfl ?_
          cases h
          exact JS.ret ttOk () trivial rfl rfl [] rfl
        have h := condF h ht41
        refine JS.skip (JS.endB (JS.re ttOk 3 [(W (x11 + 1))] [] [(5, .v (.int .i64 (W (x11 + 1))))] _ ⟨⟨trivial, rfl⟩, ⟨rfl, trivial⟩, rfl⟩ rfl rfl (JS.endL (n21, (W (x11 + 1))) h (Nat.lt_succ_self _) (Es rfl) trivial [0, 1] rfl [] rfl)))
      have h := condF h ht42
      refine JS.exit rfl (JS.endJ () h trivial trivial [] rfl [] rfl)
    rintro _ h
    subst hj43
    refine JS.rg0 ttOk 1 [(4, .v (.bool true))] ⟨⟨rfl, trivial⟩, rfl⟩ rfl rfl ?_
    cases h
    exact JS.ret ttOk () trivial rfl rfl [] rfl

def M_l_eqLine (x0 : List Int × Int) (x1 : List Int × Int) : Option Bool :=
  (bindO (M_l_eqIntS x0.1 x1.1) fun (y11 : Bool) =>
  (bif (!y11) then
  some false
  else
  (bif (!(decide (x0.2 = x1.2))) then
  some false
  else
  some true)))

theorem ok_l_eqLine (x0 : List Int × Int) (x1 : List Int × Int) (a3 : Option Addr) (c4 : Nat) (l5 : Nat) (hl6 : x0.1.length = l5) (a7 : Option Addr) (c8 : Nat) (l9 : Nat) (hl10 : x1.1.length = l9) (r : Bool) (h : M_l_eqLine x0 x1 = some r) :
    FC Tryz.prog 66 [.agg #[.slice a3 l5 c4, .int .i64 x0.2], .agg #[.slice a7 l9 c8, .int .i64 x1.2]] [⟨(.int .i64), ⟨a3, l5, c4⟩, x0.1⟩, ⟨(.int .i64), ⟨a7, l9, c8⟩, x1.1⟩] (fun _ : Unit => True) (fun _ => .bool r) (fun _ => []) :=
  by
    subst hl6
    subst hl10
    refine FC.of (T := TTx) Tryz.call66 Tryz.func66 rfl rfl fun w0 => ?_
    unfold M_l_eqLine at h
    refine JS.rgB ttOk 3 [] [3, 4] [(2, .bp 3 0), (3, .bp 4 0)] (.new 3 38 [.slice a3 x0.1.length c4, .int .i64 x0.2] (.new 4 38 [.slice a7 x1.1.length c8, .int .i64 x1.2] .nil)) ⟨(Es rfl), (Bs rfl rfl)⟩ rfl rfl (JS.seq (JS.seq (JS.region (JO.reg ttOk 4 [] [] [(6, .v (.slice a3 x0.1.length c4)), (8, .v (.slice a7 x1.1.length c8))] _ rfl ⟨(Es rfl), rfl⟩ ?_))))
    obtain ⟨y11, hy12, h⟩ := bindO_some h
    refine JO.call rfl rfl rfl rfl (ok_l_eqIntS x0.1 x1.1 a3 c4 x0.1.length rfl a7 c8 x1.1.length rfl _ hy12) rfl [0, 1] rfl rfl fun _ _ => JO.reg ttOk 1 [] [] [(10, .v (.bool (!y11)))] _ rfl ⟨⟨rfl, trivial⟩, rfl⟩ (JO.done rfl ?_)
    refine JS.cond rfl (fun ht16 => ?_) (fun ht16 => ?_)
    · have h := condT h ht16
      refine JS.rg0 ttOk 1 [(4, .v (.bool false))] ⟨⟨rfl, trivial⟩, rfl⟩ rfl rfl ?_
      cases h
      exact JS.ret ttOk () trivial rfl rfl [] rfl
    have h := condF h ht16
    refine JS.skip (JS.seq (JS.rg0 ttOk 5 [(15, .v (.bool (!(decide (x0.2 = x1.2)))))] ⟨⟨rfl, trivial⟩, rfl⟩ rfl rfl ?_))
    refine JS.cond rfl (fun ht15 => ?_) (fun ht15 => ?_)
    · have h := condT h ht15
      refine JS.rg0 ttOk 1 [(4, .v (.bool false))] ⟨⟨rfl, trivial⟩, rfl⟩ rfl rfl ?_
      cases h
      exact JS.ret ttOk () trivial rfl rfl [] rfl
    have h := condF h ht15
    refine JS.skip (JS.rg0 ttOk 1 [(4, .v (.bool true))] ⟨⟨rfl, trivial⟩, rfl⟩ rfl rfl ?_)
    cases h
    exact JS.ret ttOk () trivial rfl rfl [] rfl

def M_l_eqPiece (x0 : List Int) (x1 : List Int) : Option Bool :=
  (bindO (M_l_eqIntS x0 x1) fun (y11 : Bool) =>
  (bif (!y11) then
  some false
  else
  some true))

theorem ok_l_eqPiece (x0 : List Int) (x1 : List Int) (a3 : Option Addr) (c4 : Nat) (l5 : Nat) (hl6 : x0.length = l5) (a7 : Option Addr) (c8 : Nat) (l9 : Nat) (hl10 : x1.length = l9) (r : Bool) (h : M_l_eqPiece x0 x1 = some r) :
    FC Tryz.prog 237 [.agg #[.slice a3 l5 c4], .agg #[.slice a7 l9 c8]] [⟨(.int .i64), ⟨a3, l5, c4⟩, x0⟩, ⟨(.int .i64), ⟨a7, l9, c8⟩, x1⟩] (fun _ : Unit => True) (fun _ => .bool r) (fun _ => []) :=
  by
    subst hl6
    subst hl10
    refine FC.of (T := TTx) Tryz.call237 Tryz.func237 rfl rfl fun w0 => ?_
    unfold M_l_eqPiece at h
    refine JS.rgB ttOk 3 [] [3, 4] [(2, .bp 3 0), (3, .bp 4 0)] (.new 3 174 [.slice a3 x0.length c4] (.new 4 174 [.slice a7 x1.length c8] .nil)) ⟨(Es rfl), (Bs rfl rfl)⟩ rfl rfl (JS.seq (JS.seq (JS.region (JO.reg ttOk 4 [] [] [(6, .v (.slice a3 x0.length c4)), (8, .v (.slice a7 x1.length c8))] _ rfl ⟨(Es rfl), rfl⟩ ?_))))
    obtain ⟨y11, hy12, h⟩ := bindO_some h
    refine JO.call rfl rfl rfl rfl (ok_l_eqIntS x0 x1 a3 c4 x0.length rfl a7 c8 x1.length rfl _ hy12) rfl [0, 1] rfl rfl fun _ _ => JO.reg ttOk 1 [] [] [(10, .v (.bool (!y11)))] _ rfl ⟨⟨rfl, trivial⟩, rfl⟩ (JO.done rfl ?_)
    refine JS.cond rfl (fun ht14 => ?_) (fun ht14 => ?_)
    · have h := condT h ht14
      refine JS.rg0 ttOk 1 [(4, .v (.bool false))] ⟨⟨rfl, trivial⟩, rfl⟩ rfl rfl ?_
      cases h
      exact JS.ret ttOk () trivial rfl rfl [] rfl
    have h := condF h ht14
    refine JS.skip (JS.rg0 ttOk 1 [(4, .v (.bool true))] ⟨⟨rfl, trivial⟩, rfl⟩ rfl rfl ?_)
    cases h
    exact JS.ret ttOk () trivial rfl rfl [] rfl

def M_l_eqPieceS_L1 (x0 : List (List Int)) (x1 : List (List Int)) (j44 : Unit → Option Bool) (k34 : Int → Option Bool) : Int → Option Bool := fun x11 =>
  (bif (decide (x11 < (x0.length : Int))) then
  (guardO (0 ≤ x11 ∧ x11 < (x0.length : Int)) <|
  (guardO (0 ≤ x11 ∧ x11 < (x1.length : Int)) <|
  (bindO (M_l_eqPiece (at' x0 x11) (at' x1 x11)) fun (y26 : Bool) =>
  (bif (!y26) then
  some false
  else
  k34 (W (x11 + 1))))))
  else
  j44 ())

def M_l_eqPieceS (x0 : List (List Int)) (x1 : List (List Int)) : Option Bool :=
  (bif (!(decide ((x0.length : Int) = (x1.length : Int)))) then
  some false
  else
  (joinO (fun (_ : Unit) =>
  some true) fun j44 =>
  (fixF (M_l_eqPieceS_L1 x0 x1 j44) FUEL 0)))

theorem ok_l_eqPieceS (x0 : List (List Int)) (x1 : List (List Int)) (a3 : Option Addr) (c4 : Nat) (l5 : Nat) (hl6 : x0.length = l5) (a7 : Option Addr) (c8 : Nat) (l9 : Nat) (hl10 : x1.length = l9) (r : Bool) (h : M_l_eqPieceS x0 x1 = some r) :
    FC Tryz.prog 147 [.slice a3 l5 c4, .slice a7 l9 c8] [⟨(.sl (.int .i64)), ⟨a3, l5, c4⟩, x0⟩, ⟨(.sl (.int .i64)), ⟨a7, l9, c8⟩, x1⟩] (fun _ : Unit => True) (fun _ => .bool r) (fun _ => []) :=
  by
    subst hl6
    subst hl10
    refine FC.of (T := TTx) Tryz.call147 Tryz.func147 rfl rfl fun w0 => ?_
    unfold M_l_eqPieceS at h
    refine JS.rg0 ttOk 1 [] ⟨trivial, rfl⟩ rfl rfl (JS.seq (JS.rg0 ttOk 5 [(10, .v (.bool (!(decide ((x0.length : Int) = (x1.length : Int))))))] ⟨⟨rfl, trivial⟩, rfl⟩ rfl rfl ?_))
    refine JS.cond rfl (fun ht64 => ?_) (fun ht64 => ?_)
    · have h := condT h ht64
      refine JS.rg0 ttOk 1 [(4, .v (.bool false))] ⟨⟨rfl, trivial⟩, rfl⟩ rfl rfl ?_
      cases h
      exact JS.ret ttOk () trivial rfl rfl [] rfl
    have h := condF h ht64
    refine JS.skip (JS.seq (JS.rg0 ttOk 1 [(5, .v (.int .i64 0))] ⟨⟨rfl, trivial⟩, rfl⟩ rfl rfl ?_))
    obtain ⟨j44, hj63, h⟩ := joinO_some h
    refine JS.blockJ (ι := Unit) ⟨fun _ => j44 () = some r, fun _ => [], fun _ => .nil, fun _ => [], fun _ => [], fun _ => 0⟩ ?_ ?_
    · refine JS.loop (ι := Nat × Int) ⟨fun z => fixF (M_l_eqPieceS_L1 x0 x1 j44) z.1 z.2 = some r, fun z => [(0, .v (.slice a3 x0.length c4)), (1, .v (.slice a7 x1.length c8)), (5, .v (.int .i64 z.2))], fun z => .nil, fun z => [⟨(.sl (.int .i64)), ⟨a3, x0.length, c4⟩, x0⟩, ⟨(.sl (.int .i64)), ⟨a7, x1.length, c8⟩, x1⟩], fun z => [], fun z => z.1⟩ (FUEL, 0) h (Es rfl) trivial [0, 1] rfl [] rfl ?_
      rintro ⟨n35, x11⟩ h
      obtain ⟨n35, rfl, h⟩ := fixF_some h
      rw [M_l_eqPieceS_L1] at h
      refine JS.seq (JS.rg0 ttOk 4 [(14, .v (.bool (decide (x11 < (x0.length : Int)))))] ⟨⟨rfl, trivial⟩, rfl⟩ rfl rfl ?_)
      refine JS.cond rfl (fun ht62 => ?_) (fun ht62 => ?_)
      · have h := condT h ht62
        refine JS.skip (JS.seq (JS.block (JS.seq ?_)))
        obtain ⟨g13, h⟩ := guardO_some h
        obtain ⟨g20, h⟩ := guardO_some h
        obtain ⟨y26, hy27, h⟩ := bindO_some h
        refine JS.openR 0 rfl (Int.toNat x11) (at' x0 x11) rfl fun a14 c15 ys16 hl17 hy18 => JS.openR 3 rfl (Int.toNat x11) (at' x1 x11) rfl fun a21 c22 ys23 hl24 hy25 => JS.know 4 rfl fun hs59 => JS.know 5 rfl fun hs60 => JS.regionQ rfl (by kernel_rfl) (JQ.reg ttOk 3 [] [(19, .ep ⟨a3, x0.length, c4⟩ (Int.toNat x11 * 1))] rfl ⟨hs59.ix g13, ⟨rfl, trivial⟩⟩ (JQ.loadV ttOk rfl rfl rfl rfl rfl rfl 2 rfl rfl (Int.toNat x11) 0 (Sl.v ⟨a14, (at' x0 x11).length, c15⟩) ⟨hy18 (ltNat g13), rfl⟩ rfl rfl rfl (JQ.reg ttOk 3 [] [(23, .ep ⟨a7, x1.length, c8⟩ (Int.toNat x11 * 1))] rfl ⟨hs60.ix g20, ⟨rfl, trivial⟩⟩ (JQ.loadV ttOk rfl rfl rfl rfl rfl rfl 0 rfl rfl (Int.toNat x11) 0 (Sl.v ⟨a21, (at' x1 x11).length, c22⟩) ⟨hy25 (ltNat g20), rfl⟩ rfl rfl rfl (JQ.call rfl rfl rfl rfl (ok_l_eqPiece (at' x0 x11) (at' x1 x11) a14 c15 ((at' x0 x11).length) rfl a21 c22 ((at' x1 x11).length) rfl _ hy27) rfl [3, 1] rfl rfl (JQ.reg ttOk 1 [] [(26, .v (.bool (!y26)))] rfl ⟨rfl, trivial⟩ (JQ.done rfl ?_)))))))
        refine JS.cond rfl (fun ht61 => ?_) (fun ht61 => ?_)
        · have h := condT h ht61
          refine JS.rg0 ttOk 1 [(4, .v (.bool false))] ⟨⟨rfl, trivial⟩, rfl⟩ rfl rfl ?_
          cases h
          exact JS.ret ttOk () trivial rfl rfl [] rfl
        have h := condF h ht61
        refine JS.skip (JS.endB (JS.re ttOk 3 [(W (x11 + 1))] [] [(5, .v (.int .i64 (W (x11 + 1))))] _ ⟨⟨trivial, rfl⟩, ⟨rfl, trivial⟩, rfl⟩ rfl rfl (JS.endL (n35, (W (x11 + 1))) h (Nat.lt_succ_self _) (Es rfl) trivial [4, 5] rfl [] rfl)))
      have h := condF h ht62
      refine JS.exit rfl (JS.endJ () h trivial trivial [] rfl [] rfl)
    rintro _ h
    subst hj63
    refine JS.rg0 ttOk 1 [(4, .v (.bool true))] ⟨⟨rfl, trivial⟩, rfl⟩ rfl rfl ?_
    cases h
    exact JS.ret ttOk () trivial rfl rfl [] rfl

def M_l_eqRing (x0 : List (List Int)) (x1 : List (List Int)) : Option Bool :=
  (bindO (M_l_eqPieceS x0 x1) fun (y11 : Bool) =>
  (bif (!y11) then
  some false
  else
  some true))

theorem ok_l_eqRing (x0 : List (List Int)) (x1 : List (List Int)) (a3 : Option Addr) (c4 : Nat) (l5 : Nat) (hl6 : x0.length = l5) (a7 : Option Addr) (c8 : Nat) (l9 : Nat) (hl10 : x1.length = l9) (r : Bool) (h : M_l_eqRing x0 x1 = some r) :
    FC Tryz.prog 67 [.agg #[.slice a3 l5 c4], .agg #[.slice a7 l9 c8]] [⟨(.sl (.int .i64)), ⟨a3, l5, c4⟩, x0⟩, ⟨(.sl (.int .i64)), ⟨a7, l9, c8⟩, x1⟩] (fun _ : Unit => True) (fun _ => .bool r) (fun _ => []) :=
  by
    subst hl6
    subst hl10
    refine FC.of (T := TTx) Tryz.call67 Tryz.func67 rfl rfl fun w0 => ?_
    unfold M_l_eqRing at h
    refine JS.rgB ttOk 3 [] [3, 4] [(2, .bp 3 0), (3, .bp 4 0)] (.new 3 41 [.slice a3 x0.length c4] (.new 4 41 [.slice a7 x1.length c8] .nil)) ⟨(Es rfl), (Bs rfl rfl)⟩ rfl rfl (JS.seq (JS.seq (JS.region (JO.reg ttOk 4 [] [] [(6, .v (.slice a3 x0.length c4)), (8, .v (.slice a7 x1.length c8))] _ rfl ⟨(Es rfl), rfl⟩ ?_))))
    obtain ⟨y11, hy12, h⟩ := bindO_some h
    refine JO.call rfl rfl rfl rfl (ok_l_eqPieceS x0 x1 a3 c4 x0.length rfl a7 c8 x1.length rfl _ hy12) rfl [0, 1] rfl rfl fun _ _ => JO.reg ttOk 1 [] [] [(10, .v (.bool (!y11)))] _ rfl ⟨⟨rfl, trivial⟩, rfl⟩ (JO.done rfl ?_)
    refine JS.cond rfl (fun ht14 => ?_) (fun ht14 => ?_)
    · have h := condT h ht14
      refine JS.rg0 ttOk 1 [(4, .v (.bool false))] ⟨⟨rfl, trivial⟩, rfl⟩ rfl rfl ?_
      cases h
      exact JS.ret ttOk () trivial rfl rfl [] rfl
    have h := condF h ht14
    refine JS.skip (JS.rg0 ttOk 1 [(4, .v (.bool true))] ⟨⟨rfl, trivial⟩, rfl⟩ rfl rfl ?_)
    cases h
    exact JS.ret ttOk () trivial rfl rfl [] rfl

def M_l_eqLineS_L1 (x0 : List (List Int × Int)) (x1 : List (List Int × Int)) (j44 : Unit → Option Bool) (k34 : Int → Option Bool) : Int → Option Bool := fun x11 =>
  (bif (decide (x11 < (x0.length : Int))) then
  (guardO (0 ≤ x11 ∧ x11 < (x0.length : Int)) <|
  (guardO (0 ≤ x11 ∧ x11 < (x1.length : Int)) <|
  (bindO (M_l_eqLine ((at' x0 x11).1, (at' x0 x11).2) ((at' x1 x11).1, (at' x1 x11).2)) fun (y26 : Bool) =>
  (bif (!y26) then
  some false
  else
  k34 (W (x11 + 1))))))
  else
  j44 ())

def M_l_eqLineS (x0 : List (List Int × Int)) (x1 : List (List Int × Int)) : Option Bool :=
  (bif (!(decide ((x0.length : Int) = (x1.length : Int)))) then
  some false
  else
  (joinO (fun (_ : Unit) =>
  some true) fun j44 =>
  (fixF (M_l_eqLineS_L1 x0 x1 j44) FUEL 0)))

theorem ok_l_eqLineS (x0 : List (List Int × Int)) (x1 : List (List Int × Int)) (a3 : Option Addr) (c4 : Nat) (l5 : Nat) (hl6 : x0.length = l5) (a7 : Option Addr) (c8 : Nat) (l9 : Nat) (hl10 : x1.length = l9) (r : Bool) (h : M_l_eqLineS x0 x1 = some r) :
    FC Tryz.prog 148 [.slice a3 l5 c4, .slice a7 l9 c8] [⟨(.pair (.sl (.int .i64)) (.int .i64)), ⟨a3, l5, c4⟩, x0⟩, ⟨(.pair (.sl (.int .i64)) (.int .i64)), ⟨a7, l9, c8⟩, x1⟩] (fun _ : Unit => True) (fun _ => .bool r) (fun _ => []) :=
  by
    subst hl6
    subst hl10
    refine FC.of (T := TTx) Tryz.call148 Tryz.func148 rfl rfl fun w0 => ?_
    unfold M_l_eqLineS at h
    refine JS.rg0 ttOk 1 [] ⟨trivial, rfl⟩ rfl rfl (JS.seq (JS.rg0 ttOk 5 [(10, .v (.bool (!(decide ((x0.length : Int) = (x1.length : Int))))))] ⟨⟨rfl, trivial⟩, rfl⟩ rfl rfl ?_))
    refine JS.cond rfl (fun ht64 => ?_) (fun ht64 => ?_)
    · have h := condT h ht64
      refine JS.rg0 ttOk 1 [(4, .v (.bool false))] ⟨⟨rfl, trivial⟩, rfl⟩ rfl rfl ?_
      cases h
      exact JS.ret ttOk () trivial rfl rfl [] rfl
    have h := condF h ht64
    refine JS.skip (JS.seq (JS.rg0 ttOk 1 [(5, .v (.int .i64 0))] ⟨⟨rfl, trivial⟩, rfl⟩ rfl rfl ?_))
    obtain ⟨j44, hj63, h⟩ := joinO_some h
    refine JS.blockJ (ι := Unit) ⟨fun _ => j44 () = some r, fun _ => [], fun _ => .nil, fun _ => [], fun _ => [], fun _ => 0⟩ ?_ ?_
    · refine JS.loop (ι := Nat × Int) ⟨fun z => fixF (M_l_eqLineS_L1 x0 x1 j44) z.1 z.2 = some r, fun z => [(0, .v (.slice a3 x0.length c4)), (1, .v (.slice a7 x1.length c8)), (5, .v (.int .i64 z.2))], fun z => .nil, fun z => [⟨(.pair (.sl (.int .i64)) (.int .i64)), ⟨a3, x0.length, c4⟩, x0⟩, ⟨(.pair (.sl (.int .i64)) (.int .i64)), ⟨a7, x1.length, c8⟩, x1⟩], fun z => [], fun z => z.1⟩ (FUEL, 0) h (Es rfl) trivial [0, 1] rfl [] rfl ?_
      rintro ⟨n35, x11⟩ h
      obtain ⟨n35, rfl, h⟩ := fixF_some h
      rw [M_l_eqLineS_L1] at h
      refine JS.seq (JS.rg0 ttOk 4 [(14, .v (.bool (decide (x11 < (x0.length : Int)))))] ⟨⟨rfl, trivial⟩, rfl⟩ rfl rfl ?_)
      refine JS.cond rfl (fun ht62 => ?_) (fun ht62 => ?_)
      · have h := condT h ht62
        refine JS.skip (JS.seq (JS.block (JS.seq ?_)))
        obtain ⟨g13, h⟩ := guardO_some h
        obtain ⟨g20, h⟩ := guardO_some h
        obtain ⟨y26, hy27, h⟩ := bindO_some h
        refine JS.openR 0 rfl (Int.toNat x11) (at' x0 x11) rfl fun a14 c15 ys16 hl17 hy18 => JS.openR 3 rfl (Int.toNat x11) (at' x1 x11) rfl fun a21 c22 ys23 hl24 hy25 => JS.know 4 rfl fun hs59 => JS.know 5 rfl fun hs60 => JS.regionQ rfl (by kernel_rfl) (JQ.reg ttOk 3 [] [(19, .ep ⟨a3, x0.length, c4⟩ (Int.toNat x11 * 2))] rfl ⟨hs59.ix g13, ⟨rfl, trivial⟩⟩ (JQ.loadV ttOk rfl rfl rfl rfl rfl rfl 2 rfl rfl (Int.toNat x11) 0 ((Sl.v ⟨a14, ((at' x0 x11).1).length, c15⟩), (at' x0 x11).2) ⟨hy18 (ltNat g13), rfl⟩ rfl rfl rfl (JQ.reg ttOk 3 [] [(23, .ep ⟨a7, x1.length, c8⟩ (Int.toNat x11 * 2))] rfl ⟨hs60.ix g20, ⟨rfl, trivial⟩⟩ (JQ.loadV ttOk rfl rfl rfl rfl rfl rfl 0 rfl rfl (Int.toNat x11) 0 ((Sl.v ⟨a21, ((at' x1 x11).1).length, c22⟩), (at' x1 x11).2) ⟨hy25 (ltNat g20), rfl⟩ rfl rfl rfl (JQ.call rfl rfl rfl rfl (ok_l_eqLine ((at' x0 x11).1, (at' x0 x11).2) ((at' x1 x11).1, (at' x1 x11).2) a14 c15 (((at' x0 x11).1).length) rfl a21 c22 (((at' x1 x11).1).length) rfl _ hy27) rfl [3, 1] rfl rfl (JQ.reg ttOk 1 [] [(26, .v (.bool (!y26)))] rfl ⟨rfl, trivial⟩ (JQ.done rfl ?_)))))))
        refine JS.cond rfl (fun ht61 => ?_) (fun ht61 => ?_)
        · have h := condT h ht61
          refine JS.rg0 ttOk 1 [(4, .v (.bool false))] ⟨⟨rfl, trivial⟩, rfl⟩ rfl rfl ?_
          cases h
          exact JS.ret ttOk () trivial rfl rfl [] rfl
        have h := condF h ht61
        refine JS.skip (JS.endB (JS.re ttOk 3 [(W (x11 + 1))] [] [(5, .v (.int .i64 (W (x11 + 1))))] _ ⟨⟨trivial, rfl⟩, ⟨rfl, trivial⟩, rfl⟩ rfl rfl (JS.endL (n35, (W (x11 + 1))) h (Nat.lt_succ_self _) (Es rfl) trivial [4, 5] rfl [] rfl)))
      have h := condF h ht62
      refine JS.exit rfl (JS.endJ () h trivial trivial [] rfl [] rfl)
    rintro _ h
    subst hj63
    refine JS.rg0 ttOk 1 [(4, .v (.bool true))] ⟨⟨rfl, trivial⟩, rfl⟩ rfl rfl ?_
    cases h
    exact JS.ret ttOk () trivial rfl rfl [] rfl

def M_l_eqUndo (x0 : List (List Int × Int)) (x1 : List (List Int × Int)) : Option Bool :=
  (bindO (M_l_eqLineS x0 x1) fun (y11 : Bool) =>
  (bif (!y11) then
  some false
  else
  some true))

theorem ok_l_eqUndo (x0 : List (List Int × Int)) (x1 : List (List Int × Int)) (a3 : Option Addr) (c4 : Nat) (l5 : Nat) (hl6 : x0.length = l5) (a7 : Option Addr) (c8 : Nat) (l9 : Nat) (hl10 : x1.length = l9) (r : Bool) (h : M_l_eqUndo x0 x1 = some r) :
    FC Tryz.prog 68 [.agg #[.slice a3 l5 c4], .agg #[.slice a7 l9 c8]] [⟨(.pair (.sl (.int .i64)) (.int .i64)), ⟨a3, l5, c4⟩, x0⟩, ⟨(.pair (.sl (.int .i64)) (.int .i64)), ⟨a7, l9, c8⟩, x1⟩] (fun _ : Unit => True) (fun _ => .bool r) (fun _ => []) :=
  by
    subst hl6
    subst hl10
    refine FC.of (T := TTx) Tryz.call68 Tryz.func68 rfl rfl fun w0 => ?_
    unfold M_l_eqUndo at h
    refine JS.rgB ttOk 3 [] [3, 4] [(2, .bp 3 0), (3, .bp 4 0)] (.new 3 44 [.slice a3 x0.length c4] (.new 4 44 [.slice a7 x1.length c8] .nil)) ⟨(Es rfl), (Bs rfl rfl)⟩ rfl rfl (JS.seq (JS.seq (JS.region (JO.reg ttOk 4 [] [] [(6, .v (.slice a3 x0.length c4)), (8, .v (.slice a7 x1.length c8))] _ rfl ⟨(Es rfl), rfl⟩ ?_))))
    obtain ⟨y11, hy12, h⟩ := bindO_some h
    refine JO.call rfl rfl rfl rfl (ok_l_eqLineS x0 x1 a3 c4 x0.length rfl a7 c8 x1.length rfl _ hy12) rfl [0, 1] rfl rfl fun _ _ => JO.reg ttOk 1 [] [] [(10, .v (.bool (!y11)))] _ rfl ⟨⟨rfl, trivial⟩, rfl⟩ (JO.done rfl ?_)
    refine JS.cond rfl (fun ht14 => ?_) (fun ht14 => ?_)
    · have h := condT h ht14
      refine JS.rg0 ttOk 1 [(4, .v (.bool false))] ⟨⟨rfl, trivial⟩, rfl⟩ rfl rfl ?_
      cases h
      exact JS.ret ttOk () trivial rfl rfl [] rfl
    have h := condF h ht14
    refine JS.skip (JS.rg0 ttOk 1 [(4, .v (.bool true))] ⟨⟨rfl, trivial⟩, rfl⟩ rfl rfl ?_)
    cases h
    exact JS.ret ttOk () trivial rfl rfl [] rfl

def M_l_eqEd (x0 : Bool × Int × (List Int × Int) × Int × Int × Int × Int × Int × Int × Int × List (List Int) × (List (List Int × Int)) × Int × (List Int × Int) × List Int × Int × List Int × Int) (x1 : Bool × Int × (List Int × Int) × Int × Int × Int × Int × Int × Int × Int × List (List Int) × (List (List Int × Int)) × Int × (List Int × Int) × List Int × Int × List Int × Int) : Option Bool :=
  (bif (!(x0.1 == x1.1)) then
  some false
  else
  (bif (!(decide (x0.2.1 = x1.2.1))) then
  some false
  else
  (bindO (M_l_eqLine x0.2.2.1 x1.2.2.1) fun (y51 : Bool) =>
  (bif (!y51) then
  some false
  else
  (bif (!(decide (x0.2.2.2.1 = x1.2.2.2.1))) then
  some false
  else
  (bif (!(decide (x0.2.2.2.2.1 = x1.2.2.2.2.1))) then
  some false
  else
  (bif (!(decide (x0.2.2.2.2.2.1 = x1.2.2.2.2.2.1))) then
  some false
  else
  (bif (!(decide (x0.2.2.2.2.2.2.1 = x1.2.2.2.2.2.2.1))) then
  some false
  else
  (bif (!(decide (x0.2.2.2.2.2.2.2.1 = x1.2.2.2.2.2.2.2.1))) then
  some false
  else
  (bif (!(decide (x0.2.2.2.2.2.2.2.2.1 = x1.2.2.2.2.2.2.2.2.1))) then
  some false
  else
  (bif (!(decide (x0.2.2.2.2.2.2.2.2.2.1 = x1.2.2.2.2.2.2.2.2.2.1))) then
  some false
  else
  (bindO (M_l_eqRing x0.2.2.2.2.2.2.2.2.2.2.1 x1.2.2.2.2.2.2.2.2.2.2.1) fun (y53 : Bool) =>
  (bif (!y53) then
  some false
  else
  (bindO (M_l_eqUndo x0.2.2.2.2.2.2.2.2.2.2.2.1 x1.2.2.2.2.2.2.2.2.2.2.2.1) fun (y55 : Bool) =>
  (bif (!y55) then
  some false
  else
  (bif (!(decide (x0.2.2.2.2.2.2.2.2.2.2.2.2.1 = x1.2.2.2.2.2.2.2.2.2.2.2.2.1))) then
  some false
  else
  (bindO (M_l_eqLine x0.2.2.2.2.2.2.2.2.2.2.2.2.2.1 x1.2.2.2.2.2.2.2.2.2.2.2.2.2.1) fun (y57 : Bool) =>
  (bif (!y57) then
  some false
  else
  (bindO (M_l_eqIntS x0.2.2.2.2.2.2.2.2.2.2.2.2.2.2.1 x1.2.2.2.2.2.2.2.2.2.2.2.2.2.2.1) fun (y59 : Bool) =>
  (bif (!y59) then
  some false
  else
  (bif (!(decide (x0.2.2.2.2.2.2.2.2.2.2.2.2.2.2.2.1 = x1.2.2.2.2.2.2.2.2.2.2.2.2.2.2.2.1))) then
  some false
  else
  (bindO (M_l_eqLine x0.2.2.2.2.2.2.2.2.2.2.2.2.2.2.2.2 x1.2.2.2.2.2.2.2.2.2.2.2.2.2.2.2.2) fun (y61 : Bool) =>
  (bif (!y61) then
  some false
  else
  some true)))))))))))))))))))))))

theorem ok_l_eqEd (x0 : Bool × Int × (List Int × Int) × Int × Int × Int × Int × Int × Int × Int × List (List Int) × (List (List Int × Int)) × Int × (List Int × Int) × List Int × Int × List Int × Int) (x1 : Bool × Int × (List Int × Int) × Int × Int × Int × Int × Int × Int × Int × List (List Int) × (List (List Int × Int)) × Int × (List Int × Int) × List Int × Int × List Int × Int) (a3 : Option Addr) (c4 : Nat) (l5 : Nat) (hl6 : x0.2.2.1.1.length = l5) (a7 : Option Addr) (c8 : Nat) (l9 : Nat) (hl10 : x0.2.2.2.2.2.2.2.2.2.2.1.length = l9) (a11 : Option Addr) (c12 : Nat) (l13 : Nat) (hl14 : x0.2.2.2.2.2.2.2.2.2.2.2.1.length = l13) (a15 : Option Addr) (c16 : Nat) (l17 : Nat) (hl18 : x0.2.2.2.2.2.2.2.2.2.2.2.2.2.1.1.length = l17) (a19 : Option Addr) (c20 : Nat) (l21 : Nat) (hl22 : x0.2.2.2.2.2.2.2.2.2.2.2.2.2.2.1.length = l21) (a23 : Option Addr) (c24 : Nat) (l25 : Nat) (hl26 : x0.2.2.2.2.2.2.2.2.2.2.2.2.2.2.2.2.1.length = l25) (a27 : Option Addr) (c28 : Nat) (l29 : Nat) (hl30 : x1.2.2.1.1.length = l29) (a31 : Option Addr) (c32 : Nat) (l33 : Nat) (hl34 : x1.2.2.2.2.2.2.2.2.2.2.1.length = l33) (a35 : Option Addr) (c36 : Nat) (l37 : Nat) (hl38 : x1.2.2.2.2.2.2.2.2.2.2.2.1.length = l37) (a39 : Option Addr) (c40 : Nat) (l41 : Nat) (hl42 : x1.2.2.2.2.2.2.2.2.2.2.2.2.2.1.1.length = l41) (a43 : Option Addr) (c44 : Nat) (l45 : Nat) (hl46 : x1.2.2.2.2.2.2.2.2.2.2.2.2.2.2.1.length = l45) (a47 : Option Addr) (c48 : Nat) (l49 : Nat) (hl50 : x1.2.2.2.2.2.2.2.2.2.2.2.2.2.2.2.2.1.length = l49) (r : Bool) (h : M_l_eqEd x0 x1 = some r) :
    FC Tryz.prog 17 [.agg #[.bool x0.1, .int .i64 x0.2.1, .slice a3 l5 c4, .int .i64 x0.2.2.1.2, .int .i64 x0.2.2.2.1, .int .i64 x0.2.2.2.2.1, .int .i64 x0.2.2.2.2.2.1, .int .i64 x0.2.2.2.2.2.2.1, .int .i64 x0.2.2.2.2.2.2.2.1, .int .i64 x0.2.2.2.2.2.2.2.2.1, .int .i64 x0.2.2.2.2.2.2.2.2.2.1, .slice a7 l9 c8, .slice a11 l13 c12, .int .i64 x0.2.2.2.2.2.2.2.2.2.2.2.2.1, .slice a15 l17 c16, .int .i64 x0.2.2.2.2.2.2.2.2.2.2.2.2.2.1.2, .slice a19 l21 c20, .int .i64 x0.2.2.2.2.2.2.2.2.2.2.2.2.2.2.2.1, .slice a23 l25 c24, .int .i64 x0.2.2.2.2.2.2.2.2.2.2.2.2.2.2.2.2.2], .agg #[.bool x1.1, .int .i64 x1.2.1, .slice a27 l29 c28, .int .i64 x1.2.2.1.2, .int .i64 x1.2.2.2.1, .int .i64 x1.2.2.2.2.1, .int .i64 x1.2.2.2.2.2.1, .int .i64 x1.2.2.2.2.2.2.1, .int .i64 x1.2.2.2.2.2.2.2.1, .int .i64 x1.2.2.2.2.2.2.2.2.1, .int .i64 x1.2.2.2.2.2.2.2.2.2.1, .slice a31 l33 c32, .slice a35 l37 c36, .int .i64 x1.2.2.2.2.2.2.2.2.2.2.2.2.1, .slice a39 l41 c40, .int .i64 x1.2.2.2.2.2.2.2.2.2.2.2.2.2.1.2, .slice a43 l45 c44, .int .i64 x1.2.2.2.2.2.2.2.2.2.2.2.2.2.2.2.1, .slice a47 l49 c48, .int .i64 x1.2.2.2.2.2.2.2.2.2.2.2.2.2.2.2.2.2]] [⟨(.int .i64), ⟨a3, l5, c4⟩, x0.2.2.1.1⟩, ⟨(.sl (.int .i64)), ⟨a7, l9, c8⟩, x0.2.2.2.2.2.2.2.2.2.2.1⟩, ⟨(.pair (.sl (.int .i64)) (.int .i64)), ⟨a11, l13, c12⟩, x0.2.2.2.2.2.2.2.2.2.2.2.1⟩, ⟨(.int .i64), ⟨a15, l17, c16⟩, x0.2.2.2.2.2.2.2.2.2.2.2.2.2.1.1⟩, ⟨(.int .i64), ⟨a19, l21, c20⟩, x0.2.2.2.2.2.2.2.2.2.2.2.2.2.2.1⟩, ⟨(.int .i64), ⟨a23, l25, c24⟩, x0.2.2.2.2.2.2.2.2.2.2.2.2.2.2.2.2.1⟩, ⟨(.int .i64), ⟨a27, l29, c28⟩, x1.2.2.1.1⟩, ⟨(.sl (.int .i64)), ⟨a31, l33, c32⟩, x1.2.2.2.2.2.2.2.2.2.2.1⟩, ⟨(.pair (.sl (.int .i64)) (.int .i64)), ⟨a35, l37, c36⟩, x1.2.2.2.2.2.2.2.2.2.2.2.1⟩, ⟨(.int .i64), ⟨a39, l41, c40⟩, x1.2.2.2.2.2.2.2.2.2.2.2.2.2.1.1⟩, ⟨(.int .i64), ⟨a43, l45, c44⟩, x1.2.2.2.2.2.2.2.2.2.2.2.2.2.2.1⟩, ⟨(.int .i64), ⟨a47, l49, c48⟩, x1.2.2.2.2.2.2.2.2.2.2.2.2.2.2.2.2.1⟩] (fun _ : Unit => True) (fun _ => .bool r) (fun _ => []) :=
  by
    subst hl6
    subst hl10
    subst hl14
    subst hl18
    subst hl22
    subst hl26
    subst hl30
    subst hl34
    subst hl38
    subst hl42
    subst hl46
    subst hl50
    refine FC.of (T := TTx) Tryz.call17 Tryz.func17 rfl rfl fun w0 => ?_
    unfold M_l_eqEd at h
    refine JS.rgB ttOk 3 [] [13, 14] [(2, .bp 13 0), (3, .bp 14 0)] (.new 13 46 (cl46 x0 a3 c4 a7 c8 a11 c12 a15 c16 a19 c20 a23 c24) (.new 14 46 (cl46 x1 a27 c28 a31 c32 a35 c36 a39 c40 a43 c44 a47 c48) .nil)) ⟨(Es rfl), (Bs rfl rfl)⟩ rfl rfl (JS.seq (JS.rg0 ttOk 5 [(9, .v (.bool (!(x0.1 == x1.1))))] ⟨⟨rfl, trivial⟩, rfl⟩ rfl rfl ?_))
    refine JS.cond rfl (fun ht96 => ?_) (fun ht96 => ?_)
    · have h := condT h ht96
      refine JS.rg0 ttOk 1 [(4, .v (.bool false))] ⟨⟨rfl, trivial⟩, rfl⟩ rfl rfl ?_
      cases h
      exact JS.ret ttOk () trivial rfl rfl [] rfl
    have h := condF h ht96
    refine JS.skip (JS.seq (JS.rg0 ttOk 5 [(14, .v (.bool (!(decide (x0.2.1 = x1.2.1)))))] ⟨⟨rfl, trivial⟩, rfl⟩ rfl rfl ?_))
    refine JS.cond rfl (fun ht95 => ?_) (fun ht95 => ?_)
    · have h := condT h ht95
      refine JS.rg0 ttOk 1 [(4, .v (.bool false))] ⟨⟨rfl, trivial⟩, rfl⟩ rfl rfl ?_
      cases h
      exact JS.ret ttOk () trivial rfl rfl [] rfl
    have h := condF h ht95
    refine JS.skip (JS.seq (JS.seq (JS.region (JO.reg ttOk 4 [] [] [(16, .v (.agg #[.slice a3 x0.2.2.1.1.length c4, .int .i64 x0.2.2.1.2])), (18, .v (.agg #[.slice a27 x1.2.2.1.1.length c28, .int .i64 x1.2.2.1.2]))] _ rfl ⟨(Es rfl), rfl⟩ ?_))))
    obtain ⟨y51, hy52, h⟩ := bindO_some h
    refine JO.call rfl rfl rfl rfl (ok_l_eqLine x0.2.2.1 x1.2.2.1 a3 c4 x0.2.2.1.1.length rfl a27 c28 x1.2.2.1.1.length rfl _ hy52) rfl [0, 6] rfl rfl fun _ _ => JO.reg ttOk 1 [] [] [(20, .v (.bool (!y51)))] _ rfl ⟨⟨rfl, trivial⟩, rfl⟩ (JO.done rfl ?_)
    refine JS.cond rfl (fun ht94 => ?_) (fun ht94 => ?_)
    · have h := condT h ht94
      refine JS.rg0 ttOk 1 [(4, .v (.bool false))] ⟨⟨rfl, trivial⟩, rfl⟩ rfl rfl ?_
      cases h
      exact JS.ret ttOk () trivial rfl rfl [] rfl
    have h := condF h ht94
    refine JS.skip (JS.seq (JS.rg0 ttOk 5 [(25, .v (.bool (!(decide (x0.2.2.2.1 = x1.2.2.2.1)))))] ⟨⟨rfl, trivial⟩, rfl⟩ rfl rfl ?_))
    refine JS.cond rfl (fun ht93 => ?_) (fun ht93 => ?_)
    · have h := condT h ht93
      refine JS.rg0 ttOk 1 [(4, .v (.bool false))] ⟨⟨rfl, trivial⟩, rfl⟩ rfl rfl ?_
      cases h
      exact JS.ret ttOk () trivial rfl rfl [] rfl
    have h := condF h ht93
    refine JS.skip (JS.seq (JS.rg0 ttOk 5 [(30, .v (.bool (!(decide (x0.2.2.2.2.1 = x1.2.2.2.2.1)))))] ⟨⟨rfl, trivial⟩, rfl⟩ rfl rfl ?_))
    refine JS.cond rfl (fun ht92 => ?_) (fun ht92 => ?_)
    · have h := condT h ht92
      refine JS.rg0 ttOk 1 [(4, .v (.bool false))] ⟨⟨rfl, trivial⟩, rfl⟩ rfl rfl ?_
      cases h
      exact JS.ret ttOk () trivial rfl rfl [] rfl
    have h := condF h ht92
    refine JS.skip (JS.seq (JS.rg0 ttOk 5 [(35, .v (.bool (!(decide (x0.2.2.2.2.2.1 = x1.2.2.2.2.2.1)))))] ⟨⟨rfl, trivial⟩, rfl⟩ rfl rfl ?_))
    refine JS.cond rfl (fun ht91 => ?_) (fun ht91 => ?_)
    · have h := condT h ht91
      refine JS.rg0 ttOk 1 [(4, .v (.bool false))] ⟨⟨rfl, trivial⟩, rfl⟩ rfl rfl ?_
      cases h
      exact JS.ret ttOk () trivial rfl rfl [] rfl
    have h := condF h ht91
    refine JS.skip (JS.seq (JS.rg0 ttOk 5 [(40, .v (.bool (!(decide (x0.2.2.2.2.2.2.1 = x1.2.2.2.2.2.2.1)))))] ⟨⟨rfl, trivial⟩, rfl⟩ rfl rfl ?_))
    refine JS.cond rfl (fun ht90 => ?_) (fun ht90 => ?_)
    · have h := condT h ht90
      refine JS.rg0 ttOk 1 [(4, .v (.bool false))] ⟨⟨rfl, trivial⟩, rfl⟩ rfl rfl ?_
      cases h
      exact JS.ret ttOk () trivial rfl rfl [] rfl
    have h := condF h ht90
    refine JS.skip (JS.seq (JS.rg0 ttOk 5 [(45, .v (.bool (!(decide (x0.2.2.2.2.2.2.2.1 = x1.2.2.2.2.2.2.2.1)))))] ⟨⟨rfl, trivial⟩, rfl⟩ rfl rfl ?_))
    refine JS.cond rfl (fun ht89 => ?_) (fun ht89 => ?_)
    · have h := condT h ht89
      refine JS.rg0 ttOk 1 [(4, .v (.bool false))] ⟨⟨rfl, trivial⟩, rfl⟩ rfl rfl ?_
      cases h
      exact JS.ret ttOk () trivial rfl rfl [] rfl
    have h := condF h ht89
    refine JS.skip (JS.seq (JS.rg0 ttOk 5 [(50, .v (.bool (!(decide (x0.2.2.2.2.2.2.2.2.1 = x1.2.2.2.2.2.2.2.2.1)))))] ⟨⟨rfl, trivial⟩, rfl⟩ rfl rfl ?_))
    refine JS.cond rfl (fun ht88 => ?_) (fun ht88 => ?_)
    · have h := condT h ht88
      refine JS.rg0 ttOk 1 [(4, .v (.bool false))] ⟨⟨rfl, trivial⟩, rfl⟩ rfl rfl ?_
      cases h
      exact JS.ret ttOk () trivial rfl rfl [] rfl
    have h := condF h ht88
    refine JS.skip (JS.seq (JS.rg0 ttOk 5 [(55, .v (.bool (!(decide (x0.2.2.2.2.2.2.2.2.2.1 = x1.2.2.2.2.2.2.2.2.2.1)))))] ⟨⟨rfl, trivial⟩, rfl⟩ rfl rfl ?_))
    refine JS.cond rfl (fun ht87 => ?_) (fun ht87 => ?_)
    · have h := condT h ht87
      refine JS.rg0 ttOk 1 [(4, .v (.bool false))] ⟨⟨rfl, trivial⟩, rfl⟩ rfl rfl ?_
      cases h
      exact JS.ret ttOk () trivial rfl rfl [] rfl
    have h := condF h ht87
    refine JS.skip (JS.seq (JS.seq (JS.region (JO.reg ttOk 4 [] [] [(57, .v (.agg #[.slice a7 x0.2.2.2.2.2.2.2.2.2.2.1.length c8])), (59, .v (.agg #[.slice a31 x1.2.2.2.2.2.2.2.2.2.2.1.length c32]))] _ rfl ⟨(Es rfl), rfl⟩ ?_))))
    obtain ⟨y53, hy54, h⟩ := bindO_some h
    refine JO.call rfl rfl rfl rfl (ok_l_eqRing x0.2.2.2.2.2.2.2.2.2.2.1 x1.2.2.2.2.2.2.2.2.2.2.1 a7 c8 x0.2.2.2.2.2.2.2.2.2.2.1.length rfl a31 c32 x1.2.2.2.2.2.2.2.2.2.2.1.length rfl _ hy54) rfl [1, 7] rfl rfl fun _ _ => JO.reg ttOk 1 [] [] [(61, .v (.bool (!y53)))] _ rfl ⟨⟨rfl, trivial⟩, rfl⟩ (JO.done rfl ?_)
    refine JS.cond rfl (fun ht86 => ?_) (fun ht86 => ?_)
    · have h := condT h ht86
      refine JS.rg0 ttOk 1 [(4, .v (.bool false))] ⟨⟨rfl, trivial⟩, rfl⟩ rfl rfl ?_
      cases h
      exact JS.ret ttOk () trivial rfl rfl [] rfl
    have h := condF h ht86
    refine JS.skip (JS.seq (JS.seq (JS.region (JO.reg ttOk 4 [] [] [(63, .v (.agg #[.slice a11 x0.2.2.2.2.2.2.2.2.2.2.2.1.length c12])), (65, .v (.agg #[.slice a35 x1.2.2.2.2.2.2.2.2.2.2.2.1.length c36]))] _ rfl ⟨(Es rfl), rfl⟩ ?_))))
    obtain ⟨y55, hy56, h⟩ := bindO_some h
    refine JO.call rfl rfl rfl rfl (ok_l_eqUndo x0.2.2.2.2.2.2.2.2.2.2.2.1 x1.2.2.2.2.2.2.2.2.2.2.2.1 a11 c12 x0.2.2.2.2.2.2.2.2.2.2.2.1.length rfl a35 c36 x1.2.2.2.2.2.2.2.2.2.2.2.1.length rfl _ hy56) rfl [2, 8] rfl rfl fun _ _ => JO.reg ttOk 1 [] [] [(67, .v (.bool (!y55)))] _ rfl ⟨⟨rfl, trivial⟩, rfl⟩ (JO.done rfl ?_)
    refine JS.cond rfl (fun ht85 => ?_) (fun ht85 => ?_)
    · have h := condT h ht85
      refine JS.rg0 ttOk 1 [(4, .v (.bool false))] ⟨⟨rfl, trivial⟩, rfl⟩ rfl rfl ?_
      cases h
      exact JS.ret ttOk () trivial rfl rfl [] rfl
    have h := condF h ht85
    refine JS.skip (JS.seq (JS.rg0 ttOk 5 [(72, .v (.bool (!(decide (x0.2.2.2.2.2.2.2.2.2.2.2.2.1 = x1.2.2.2.2.2.2.2.2.2.2.2.2.1)))))] ⟨⟨rfl, trivial⟩, rfl⟩ rfl rfl ?_))
    refine JS.cond rfl (fun ht84 => ?_) (fun ht84 => ?_)
    · have h := condT h ht84
      refine JS.rg0 ttOk 1 [(4, .v (.bool false))] ⟨⟨rfl, trivial⟩, rfl⟩ rfl rfl ?_
      cases h
      exact JS.ret ttOk () trivial rfl rfl [] rfl
    have h := condF h ht84
    refine JS.skip (JS.seq (JS.seq (JS.region (JO.reg ttOk 4 [] [] [(74, .v (.agg #[.slice a15 x0.2.2.2.2.2.2.2.2.2.2.2.2.2.1.1.length c16, .int .i64 x0.2.2.2.2.2.2.2.2.2.2.2.2.2.1.2])), (76, .v (.agg #[.slice a39 x1.2.2.2.2.2.2.2.2.2.2.2.2.2.1.1.length c40, .int .i64 x1.2.2.2.2.2.2.2.2.2.2.2.2.2.1.2]))] _ rfl ⟨(Es rfl), rfl⟩ ?_))))
    obtain ⟨y57, hy58, h⟩ := bindO_some h
    refine JO.call rfl rfl rfl rfl (ok_l_eqLine x0.2.2.2.2.2.2.2.2.2.2.2.2.2.1 x1.2.2.2.2.2.2.2.2.2.2.2.2.2.1 a15 c16 x0.2.2.2.2.2.2.2.2.2.2.2.2.2.1.1.length rfl a39 c40 x1.2.2.2.2.2.2.2.2.2.2.2.2.2.1.1.length rfl _ hy58) rfl [3, 9] rfl rfl fun _ _ => JO.reg ttOk 1 [] [] [(78, .v (.bool (!y57)))] _ rfl ⟨⟨rfl, trivial⟩, rfl⟩ (JO.done rfl ?_)
    refine JS.cond rfl (fun ht83 => ?_) (fun ht83 => ?_)
    · have h := condT h ht83
      refine JS.rg0 ttOk 1 [(4, .v (.bool false))] ⟨⟨rfl, trivial⟩, rfl⟩ rfl rfl ?_
      cases h
      exact JS.ret ttOk () trivial rfl rfl [] rfl
    have h := condF h ht83
    refine JS.skip (JS.seq (JS.seq (JS.region (JO.reg ttOk 4 [] [] [(80, .v (.slice a19 x0.2.2.2.2.2.2.2.2.2.2.2.2.2.2.1.length c20)), (82, .v (.slice a43 x1.2.2.2.2.2.2.2.2.2.2.2.2.2.2.1.length c44))] _ rfl ⟨(Es rfl), rfl⟩ ?_))))
    obtain ⟨y59, hy60, h⟩ := bindO_some h
    refine JO.call rfl rfl rfl rfl (ok_l_eqIntS x0.2.2.2.2.2.2.2.2.2.2.2.2.2.2.1 x1.2.2.2.2.2.2.2.2.2.2.2.2.2.2.1 a19 c20 x0.2.2.2.2.2.2.2.2.2.2.2.2.2.2.1.length rfl a43 c44 x1.2.2.2.2.2.2.2.2.2.2.2.2.2.2.1.length rfl _ hy60) rfl [4, 10] rfl rfl fun _ _ => JO.reg ttOk 1 [] [] [(84, .v (.bool (!y59)))] _ rfl ⟨⟨rfl, trivial⟩, rfl⟩ (JO.done rfl ?_)
    refine JS.cond rfl (fun ht82 => ?_) (fun ht82 => ?_)
    · have h := condT h ht82
      refine JS.rg0 ttOk 1 [(4, .v (.bool false))] ⟨⟨rfl, trivial⟩, rfl⟩ rfl rfl ?_
      cases h
      exact JS.ret ttOk () trivial rfl rfl [] rfl
    have h := condF h ht82
    refine JS.skip (JS.seq (JS.rg0 ttOk 5 [(89, .v (.bool (!(decide (x0.2.2.2.2.2.2.2.2.2.2.2.2.2.2.2.1 = x1.2.2.2.2.2.2.2.2.2.2.2.2.2.2.2.1)))))] ⟨⟨rfl, trivial⟩, rfl⟩ rfl rfl ?_))
    refine JS.cond rfl (fun ht81 => ?_) (fun ht81 => ?_)
    · have h := condT h ht81
      refine JS.rg0 ttOk 1 [(4, .v (.bool false))] ⟨⟨rfl, trivial⟩, rfl⟩ rfl rfl ?_
      cases h
      exact JS.ret ttOk () trivial rfl rfl [] rfl
    have h := condF h ht81
    refine JS.skip (JS.seq (JS.seq (JS.region (JO.reg ttOk 4 [] [] [(91, .v (.agg #[.slice a23 x0.2.2.2.2.2.2.2.2.2.2.2.2.2.2.2.2.1.length c24, .int .i64 x0.2.2.2.2.2.2.2.2.2.2.2.2.2.2.2.2.2])), (93, .v (.agg #[.slice a47 x1.2.2.2.2.2.2.2.2.2.2.2.2.2.2.2.2.1.length c48, .int .i64 x1.2.2.2.2.2.2.2.2.2.2.2.2.2.2.2.2.2]))] _ rfl ⟨(Es rfl), rfl⟩ ?_))))
    obtain ⟨y61, hy62, h⟩ := bindO_some h
    refine JO.call rfl rfl rfl rfl (ok_l_eqLine x0.2.2.2.2.2.2.2.2.2.2.2.2.2.2.2.2 x1.2.2.2.2.2.2.2.2.2.2.2.2.2.2.2.2 a23 c24 x0.2.2.2.2.2.2.2.2.2.2.2.2.2.2.2.2.1.length rfl a47 c48 x1.2.2.2.2.2.2.2.2.2.2.2.2.2.2.2.2.1.length rfl _ hy62) rfl [5, 11] rfl rfl fun _ _ => JO.reg ttOk 1 [] [] [(95, .v (.bool (!y61)))] _ rfl ⟨⟨rfl, trivial⟩, rfl⟩ (JO.done rfl ?_)
    refine JS.cond rfl (fun ht80 => ?_) (fun ht80 => ?_)
    · have h := condT h ht80
      refine JS.rg0 ttOk 1 [(4, .v (.bool false))] ⟨⟨rfl, trivial⟩, rfl⟩ rfl rfl ?_
      cases h
      exact JS.ret ttOk () trivial rfl rfl [] rfl
    have h := condF h ht80
    refine JS.skip (JS.rg0 ttOk 1 [(4, .v (.bool true))] ⟨⟨rfl, trivial⟩, rfl⟩ rfl rfl ?_)
    cases h
    exact JS.ret ttOk () trivial rfl rfl [] rfl

def M_l_eqStringS_L1 (x0 : List (List UInt8)) (x1 : List (List UInt8)) (j28 : Unit → Option Bool) (k20 : Int → Option Bool) : Int → Option Bool := fun x11 =>
  (bif (decide (x11 < (x0.length : Int))) then
  (guardO (0 ≤ x11 ∧ x11 < (x0.length : Int)) <|
  (guardO (0 ≤ x11 ∧ x11 < (x1.length : Int)) <|
  (bif (!(decide ((at' x0 x11) = (at' x1 x11)))) then
  some false
  else
  k20 (W (x11 + 1)))))
  else
  j28 ())

def M_l_eqStringS (x0 : List (List UInt8)) (x1 : List (List UInt8)) : Option Bool :=
  (bif (!(decide ((x0.length : Int) = (x1.length : Int)))) then
  some false
  else
  (joinO (fun (_ : Unit) =>
  some true) fun j28 =>
  (fixF (M_l_eqStringS_L1 x0 x1 j28) FUEL 0)))

theorem ok_l_eqStringS (x0 : List (List UInt8)) (x1 : List (List UInt8)) (a3 : Option Addr) (c4 : Nat) (l5 : Nat) (hl6 : x0.length = l5) (a7 : Option Addr) (c8 : Nat) (l9 : Nat) (hl10 : x1.length = l9) (r : Bool) (h : M_l_eqStringS x0 x1 = some r) :
    FC Tryz.prog 69 [.slice a3 l5 c4, .slice a7 l9 c8] [⟨.str, ⟨a3, l5, c4⟩, x0⟩, ⟨.str, ⟨a7, l9, c8⟩, x1⟩] (fun _ : Unit => True) (fun _ => .bool r) (fun _ => []) :=
  by
    subst hl6
    subst hl10
    refine FC.of (T := TTx) Tryz.call69 Tryz.func69 rfl rfl fun w0 => ?_
    unfold M_l_eqStringS at h
    refine JS.rg0 ttOk 1 [] ⟨trivial, rfl⟩ rfl rfl (JS.seq (JS.rg0 ttOk 5 [(10, .v (.bool (!(decide ((x0.length : Int) = (x1.length : Int))))))] ⟨⟨rfl, trivial⟩, rfl⟩ rfl rfl ?_))
    refine JS.cond rfl (fun ht44 => ?_) (fun ht44 => ?_)
    · have h := condT h ht44
      refine JS.rg0 ttOk 1 [(4, .v (.bool false))] ⟨⟨rfl, trivial⟩, rfl⟩ rfl rfl ?_
      cases h
      exact JS.ret ttOk () trivial rfl rfl [] rfl
    have h := condF h ht44
    refine JS.skip (JS.seq (JS.rg0 ttOk 1 [(5, .v (.int .i64 0))] ⟨⟨rfl, trivial⟩, rfl⟩ rfl rfl ?_))
    obtain ⟨j28, hj43, h⟩ := joinO_some h
    refine JS.blockJ (ι := Unit) ⟨fun _ => j28 () = some r, fun _ => [], fun _ => .nil, fun _ => [], fun _ => [], fun _ => 0⟩ ?_ ?_
    · refine JS.loop (ι := Nat × Int) ⟨fun z => fixF (M_l_eqStringS_L1 x0 x1 j28) z.1 z.2 = some r, fun z => [(0, .v (.slice a3 x0.length c4)), (1, .v (.slice a7 x1.length c8)), (5, .v (.int .i64 z.2))], fun z => .nil, fun z => [⟨.str, ⟨a3, x0.length, c4⟩, x0⟩, ⟨.str, ⟨a7, x1.length, c8⟩, x1⟩], fun z => [], fun z => z.1⟩ (FUEL, 0) h (Es rfl) trivial [0, 1] rfl [] rfl ?_
      rintro ⟨n21, x11⟩ h
      obtain ⟨n21, rfl, h⟩ := fixF_some h
      rw [M_l_eqStringS_L1] at h
      refine JS.seq (JS.rg0 ttOk 4 [(14, .v (.bool (decide (x11 < (x0.length : Int)))))] ⟨⟨rfl, trivial⟩, rfl⟩ rfl rfl ?_)
      refine JS.cond rfl (fun ht42 => ?_) (fun ht42 => ?_)
      · have h := condT h ht42
        refine JS.skip (JS.seq (JS.block (JS.seq ?_)))
        obtain ⟨g13, h⟩ := guardO_some h
        obtain ⟨g15, h⟩ := guardO_some h
        refine JS.know 0 rfl fun hs39 => JS.know 1 rfl fun hs40 => JS.regionQ rfl (by kernel_rfl) (JQ.reg ttOk 3 [] [(19, .ep ⟨a3, x0.length, c4⟩ (Int.toNat x11 * 1))] rfl ⟨hs39.ix g13, ⟨rfl, trivial⟩⟩ (JQ.load ttOk rfl rfl rfl rfl rfl rfl rfl 0 rfl rfl (Int.toNat x11) 0 (at' x0 x11) ⟨at_some g13, rfl⟩ rfl rfl (JQ.reg ttOk 3 [] [(23, .ep ⟨a7, x1.length, c8⟩ (Int.toNat x11 * 1))] rfl ⟨hs40.ix g15, ⟨rfl, trivial⟩⟩ (JQ.load ttOk rfl rfl rfl rfl rfl rfl rfl 1 rfl rfl (Int.toNat x11) 0 (at' x1 x11) ⟨at_some g15, rfl⟩ rfl rfl (JQ.reg ttOk 1 [] [(25, .v (.bool (!(decide ((at' x0 x11) = (at' x1 x11))))))] rfl ⟨rfl, trivial⟩ (JQ.done rfl ?_))))))
        refine JS.cond rfl (fun ht41 => ?_) (fun ht41 => ?_)
        · have h := condT h ht41
          refine JS.rg0 ttOk 1 [(4, .v (.bool false))] ⟨⟨rfl, trivial⟩, rfl⟩ rfl rfl ?_
          cases h
          exact JS.ret ttOk () trivial rfl rfl [] rfl
        have h := condF h ht41
        refine JS.skip (JS.endB (JS.re ttOk 3 [(W (x11 + 1))] [] [(5, .v (.int .i64 (W (x11 + 1))))] _ ⟨⟨trivial, rfl⟩, ⟨rfl, trivial⟩, rfl⟩ rfl rfl (JS.endL (n21, (W (x11 + 1))) h (Nat.lt_succ_self _) (Es rfl) trivial [0, 1] rfl [] rfl)))
      have h := condF h ht42
      refine JS.exit rfl (JS.endJ () h trivial trivial [] rfl [] rfl)
    rintro _ h
    subst hj43
    refine JS.rg0 ttOk 1 [(4, .v (.bool true))] ⟨⟨rfl, trivial⟩, rfl⟩ rfl rfl ?_
    cases h
    exact JS.ret ttOk () trivial rfl rfl [] rfl

def M_l_eqHist (x0 : Int × List (List UInt8)) (x1 : Int × List (List UInt8)) : Option Bool :=
  (bif (!(decide (x0.1 = x1.1))) then
  some false
  else
  (bindO (M_l_eqStringS x0.2 x1.2) fun (y11 : Bool) =>
  (bif (!y11) then
  some false
  else
  some true)))

theorem ok_l_eqHist (x0 : Int × List (List UInt8)) (x1 : Int × List (List UInt8)) (a3 : Option Addr) (c4 : Nat) (l5 : Nat) (hl6 : x0.2.length = l5) (a7 : Option Addr) (c8 : Nat) (l9 : Nat) (hl10 : x1.2.length = l9) (r : Bool) (h : M_l_eqHist x0 x1 = some r) :
    FC Tryz.prog 18 [.agg #[.int .i64 x0.1, .slice a3 l5 c4], .agg #[.int .i64 x1.1, .slice a7 l9 c8]] [⟨.str, ⟨a3, l5, c4⟩, x0.2⟩, ⟨.str, ⟨a7, l9, c8⟩, x1.2⟩] (fun _ : Unit => True) (fun _ => .bool r) (fun _ => []) :=
  by
    subst hl6
    subst hl10
    refine FC.of (T := TTx) Tryz.call18 Tryz.func18 rfl rfl fun w0 => ?_
    unfold M_l_eqHist at h
    refine JS.rgB ttOk 3 [] [3, 4] [(2, .bp 3 0), (3, .bp 4 0)] (.new 3 50 [.int .i64 x0.1, .slice a3 x0.2.length c4] (.new 4 50 [.int .i64 x1.1, .slice a7 x1.2.length c8] .nil)) ⟨(Es rfl), (Bs rfl rfl)⟩ rfl rfl (JS.seq (JS.rg0 ttOk 5 [(9, .v (.bool (!(decide (x0.1 = x1.1)))))] ⟨⟨rfl, trivial⟩, rfl⟩ rfl rfl ?_))
    refine JS.cond rfl (fun ht16 => ?_) (fun ht16 => ?_)
    · have h := condT h ht16
      refine JS.rg0 ttOk 1 [(4, .v (.bool false))] ⟨⟨rfl, trivial⟩, rfl⟩ rfl rfl ?_
      cases h
      exact JS.ret ttOk () trivial rfl rfl [] rfl
    have h := condF h ht16
    refine JS.skip (JS.seq (JS.seq (JS.region (JO.reg ttOk 4 [] [] [(11, .v (.slice a3 x0.2.length c4)), (13, .v (.slice a7 x1.2.length c8))] _ rfl ⟨(Es rfl), rfl⟩ ?_))))
    obtain ⟨y11, hy12, h⟩ := bindO_some h
    refine JO.call rfl rfl rfl rfl (ok_l_eqStringS x0.2 x1.2 a3 c4 x0.2.length rfl a7 c8 x1.2.length rfl _ hy12) rfl [0, 1] rfl rfl fun _ _ => JO.reg ttOk 1 [] [] [(15, .v (.bool (!y11)))] _ rfl ⟨⟨rfl, trivial⟩, rfl⟩ (JO.done rfl ?_)
    refine JS.cond rfl (fun ht15 => ?_) (fun ht15 => ?_)
    · have h := condT h ht15
      refine JS.rg0 ttOk 1 [(4, .v (.bool false))] ⟨⟨rfl, trivial⟩, rfl⟩ rfl rfl ?_
      cases h
      exact JS.ret ttOk () trivial rfl rfl [] rfl
    have h := condF h ht15
    refine JS.skip (JS.rg0 ttOk 1 [(4, .v (.bool true))] ⟨⟨rfl, trivial⟩, rfl⟩ rfl rfl ?_)
    cases h
    exact JS.ret ttOk () trivial rfl rfl [] rfl

def M_l_markIntS_L1 (x0 : List Int) (j19 : (List Int × Int) → Option (Int × List Int)) (k13 : (List Int × Int × Int) → Option (Int × List Int)) : (List Int × Int × Int) → Option (Int × List Int) := fun (x7, x8, x9) =>
  (bif (decide (x9 < (x0.length : Int))) then
  (guardO (0 ≤ x9 ∧ x9 < (x0.length : Int)) <|
  k13 ((List.set x7 (Int.toNat x9) x8), (W (x8 + 1)), (W (x9 + 1))))
  else
  j19 (x7, x8))

def M_l_markIntS (x0 : List Int) (x1 : Int) : Option (Int × List Int) :=
  (joinO (fun ((x17, x18) : List Int × Int) =>
  some (x18, x17)) fun j19 =>
  (fixF (M_l_markIntS_L1 x0 j19) FUEL (x0, x1, 0)))

theorem ok_l_markIntS (x0 : List Int) (x1 : Int) (a3 : Option Addr) (c4 : Nat) (l5 : Nat) (hl6 : x0.length = l5) (r : Int × List Int) (h : M_l_markIntS x0 x1 = some r) :
    FX Tryz.prog 22 [.slice a3 l5 c4, .int .i64 x1] [] [⟨(.int .i64), ⟨a3, l5, c4⟩, x0⟩] (fun _ : Unit => True) (fun _ => .int .i64 r.1) (fun _ => [⟨(.int .i64), ⟨a3, l5, c4⟩, r.2⟩]) :=
  by
    subst hl6
    refine FX.of (T := TTx) Tryz.call22 Tryz.func22 rfl rfl fun w0 L0 => ?_
    unfold M_l_markIntS at h
    refine JS.rg0 ttOk 1 [] ⟨trivial, rfl⟩ rfl rfl (JS.seq (JS.rg0 ttOk 1 [(5, .v (.int .i64 0))] ⟨⟨rfl, trivial⟩, rfl⟩ rfl rfl ?_))
    obtain ⟨j19, hj27, h⟩ := joinO_some h
    refine JS.blockJ (ι := List Int × Int) ⟨fun z => j19 (z.1, z.2) = some r, fun z => [(1, .v (.int .i64 z.2))], fun z => .nil, fun z => [], fun z => [⟨(.int .i64), ⟨a3, x0.length, c4⟩, z.1⟩], fun z => 0⟩ ?_ ?_
    · refine JS.loop (ι := Nat × List Int × Int × Int) ⟨fun z => fixF (M_l_markIntS_L1 x0 j19) z.1 (z.2.1, z.2.2.1, z.2.2.2) = some r, fun z => [(0, .v (.slice a3 x0.length c4)), (1, .v (.int .i64 z.2.2.1)), (5, .v (.int .i64 z.2.2.2))], fun z => .nil, fun z => [], fun z => [⟨(.int .i64), ⟨a3, x0.length, c4⟩, z.2.1⟩], fun z => z.1⟩ (FUEL, x0, x1, 0) h (Es rfl) trivial [] rfl [0] rfl ?_
      rintro ⟨n14, x7, x8, x9⟩ h
      obtain ⟨n14, rfl, h⟩ := fixF_some h
      rw [M_l_markIntS_L1] at h
      refine JS.know 0 rfl fun hs24 => JS.seq (JS.rg0 ttOk 4 [(9, .v (.bool (decide (x9 < (x0.length : Int)))))] ⟨⟨rfl, trivial⟩, rfl⟩ rfl rfl ?_)
      refine JS.cond rfl (fun ht25 => ?_) (fun ht25 => ?_)
      · have h := condT h ht25
        refine JS.skip (JS.seq (JS.block (JS.seq (JS.region ?_))))
        obtain ⟨g11, h⟩ := guardO_some h
        refine JO.reg ttOk 4 [] [] [(14, .v (.int .i64 x8)), (15, .ep ⟨a3, x0.length, c4⟩ (Int.toNat x9 * 1))] _ rfl ⟨(hs24.cast hs24.len.symm).ix g11, (Es rfl), rfl⟩ (JO.storeE ttOk rfl rfl rfl rfl rfl rfl rfl rfl rfl [0] (fs := []) rfl (Int.toNat x9) 0 (at' x7 x9) x8 ⟨at_someL hs24.len.symm g11, rfl⟩ ⟨rfl, rfl, rfl⟩ (JO.done rfl (JS.re ttOk 3 [(W (x8 + 1))] [] [(1, .v (.int .i64 (W (x8 + 1))))] _ ⟨⟨trivial, rfl⟩, ⟨rfl, trivial⟩, rfl⟩ rfl rfl (JS.endB (JS.re ttOk 3 [(W (x9 + 1))] [] [(5, .v (.int .i64 (W (x9 + 1))))] _ ⟨⟨trivial, rfl⟩, ⟨rfl, trivial⟩, rfl⟩ rfl rfl (JS.endL (n14, (List.set x7 (Int.toNat x9) x8), (W (x8 + 1)), (W (x9 + 1))) h (Nat.lt_succ_self _) (Es rfl) trivial [] rfl [0] rfl))))))
      have h := condF h ht25
      refine JS.exit rfl (JS.endJ (x7, x8) h ⟨rfl, trivial⟩ trivial [] rfl [0] rfl)
    rintro ⟨x17, x18⟩ h
    subst hj27
    refine JS.know 0 rfl fun hs26 => JS.rg0 ttOk 2 [(4, .v (.int .i64 x18))] ⟨⟨rfl, trivial⟩, rfl⟩ rfl rfl ?_
    cases h
    exact JS.retX ttOk () trivial rfl rfl [0] rfl

def M_l_markLine (x0 : List Int × Int) (x1 : Int) : Option (Int × List Int) :=
  (bindO (M_l_markIntS x0.1 x1) fun (y7, y8) =>
  some (y7, y8))

theorem ok_l_markLine (x0 : List Int × Int) (x1 : Int) (a3 : Option Addr) (c4 : Nat) (l5 : Nat) (hl6 : x0.1.length = l5) (r : Int × List Int) (h : M_l_markLine x0 x1 = some r) :
    FX Tryz.prog 70 [.agg #[.slice a3 l5 c4, .int .i64 x0.2], .int .i64 x1] [] [⟨(.int .i64), ⟨a3, l5, c4⟩, x0.1⟩] (fun _ : Unit => True) (fun _ => .int .i64 r.1) (fun _ => [⟨(.int .i64), ⟨a3, l5, c4⟩, r.2⟩]) :=
  by
    subst hl6
    refine FX.of (T := TTx) Tryz.call70 Tryz.func70 rfl rfl fun w0 L0 => ?_
    unfold M_l_markLine at h
    refine JS.rgB ttOk 2 [] [2] [(2, .bp 2 0)] (.new 2 38 [.slice a3 x0.1.length c4, .int .i64 x0.2] .nil) ⟨⟨rfl, trivial⟩, (Bs rfl rfl)⟩ rfl rfl (JS.seq (JS.region (JO.reg ttOk 3 [] [] [(6, .v (.slice a3 x0.1.length c4)), (7, .v (.int .i64 x1))] _ rfl ⟨(Es rfl), rfl⟩ ?_)))
    obtain ⟨⟨y7, y8⟩, hy9, h⟩ := bindO_some h
    refine JO.callX rfl rfl rfl rfl (ok_l_markIntS x0.1 x1 a3 c4 x0.1.length rfl _ hy9) rfl [0] rfl [] rfl rfl fun _ _ => JO.know 0 rfl fun hs10 => JO.reg ttOk 1 [] [] [(1, .v (.int .i64 y7))] _ rfl ⟨⟨rfl, trivial⟩, rfl⟩ (JO.done rfl (JS.rg0 ttOk 2 [(4, .v (.int .i64 y7))] ⟨⟨rfl, trivial⟩, rfl⟩ rfl rfl ?_))
    cases h
    exact JS.retX ttOk () trivial rfl rfl [0] rfl

def M_l_markPieceS_L1 (x0 : List (List Int)) (j27 : (List (List Int) × Int) → Option (Int × List (List Int))) (k21 : (List (List Int) × Int × Int) → Option (Int × List (List Int))) : (List (List Int) × Int × Int) → Option (Int × List (List Int)) := fun (x7, x8, x9) =>
  (bif (decide (x9 < (x0.length : Int))) then
  (guardO (0 ≤ x9 ∧ x9 < (x0.length : Int)) <|
  (bindO (M_l_markIntS (at' x7 x9) x8) fun (y16, y17) =>
  k21 ((List.set x7 (Int.toNat x9) y17), y16, (W (x9 + 1)))))
  else
  j27 (x7, x8))

def M_l_markPieceS (x0 : List (List Int)) (x1 : Int) : Option (Int × List (List Int)) :=
  (joinO (fun ((x25, x26) : List (List Int) × Int) =>
  some (x26, x25)) fun j27 =>
  (fixF (M_l_markPieceS_L1 x0 j27) FUEL (x0, x1, 0)))

theorem ok_l_markPieceS (x0 : List (List Int)) (x1 : Int) (a3 : Option Addr) (c4 : Nat) (l5 : Nat) (hl6 : x0.length = l5) (r : Int × List (List Int)) (h : M_l_markPieceS x0 x1 = some r) :
    FX Tryz.prog 149 [.slice a3 l5 c4, .int .i64 x1] [] [⟨(.sl (.int .i64)), ⟨a3, l5, c4⟩, x0⟩] (fun _ : Unit => True) (fun _ => .int .i64 r.1) (fun _ => [⟨(.sl (.int .i64)), ⟨a3, l5, c4⟩, r.2⟩]) :=
  by
    subst hl6
    refine FX.of (T := TTx) Tryz.call149 Tryz.func149 rfl rfl fun w0 L0 => ?_
    unfold M_l_markPieceS at h
    refine JS.rg0 ttOk 1 [] ⟨trivial, rfl⟩ rfl rfl (JS.seq (JS.rg0 ttOk 1 [(5, .v (.int .i64 0))] ⟨⟨rfl, trivial⟩, rfl⟩ rfl rfl ?_))
    obtain ⟨j27, hj35, h⟩ := joinO_some h
    refine JS.blockJ (ι := List (List Int) × Int) ⟨fun z => j27 (z.1, z.2) = some r, fun z => [(1, .v (.int .i64 z.2))], fun z => .nil, fun z => [], fun z => [⟨(.sl (.int .i64)), ⟨a3, x0.length, c4⟩, z.1⟩], fun z => 0⟩ ?_ ?_
    · refine JS.loop (ι := Nat × List (List Int) × Int × Int) ⟨fun z => fixF (M_l_markPieceS_L1 x0 j27) z.1 (z.2.1, z.2.2.1, z.2.2.2) = some r, fun z => [(0, .v (.slice a3 x0.length c4)), (1, .v (.int .i64 z.2.2.1)), (5, .v (.int .i64 z.2.2.2))], fun z => .nil, fun z => [], fun z => [⟨(.sl (.int .i64)), ⟨a3, x0.length, c4⟩, z.2.1⟩], fun z => z.1⟩ (FUEL, x0, x1, 0) h (Es rfl) trivial [] rfl [0] rfl ?_
      rintro ⟨n22, x7, x8, x9⟩ h
      obtain ⟨n22, rfl, h⟩ := fixF_some h
      rw [M_l_markPieceS_L1] at h
      refine JS.know 0 rfl fun hs32 => JS.seq (JS.rg0 ttOk 4 [(9, .v (.bool (decide (x9 < (x0.length : Int)))))] ⟨⟨rfl, trivial⟩, rfl⟩ rfl rfl ?_)
      refine JS.cond rfl (fun ht33 => ?_) (fun ht33 => ?_)
      · have h := condT h ht33
        refine JS.skip (JS.seq (JS.block (JS.region ?_)))
        obtain ⟨g11, h⟩ := guardO_some h
        refine JO.reg ttOk 4 [] [] [(15, .ep ⟨a3, x0.length, c4⟩ (Int.toNat x9 * 1))] _ rfl ⟨(hs32.cast hs32.len.symm).ix g11, (hs32.cast hs32.len.symm).fa g11, ⟨rfl, trivial⟩, rfl⟩ (JO.lend [0] rfl (Int.toNat x9) (at' x7 x9) rfl fun a12 c13 l14 hl15 => ?_)
        obtain rfl : ([.slice a12 (at' x7 x9).length c13] : List Value) = l14 := Option.some.inj hl15
        refine JO.loadV ttOk rfl rfl rfl rfl rfl rfl 0 rfl rfl (Int.toNat x9) 0 (Sum.inr [.slice a12 (at' x7 x9).length c13]) ⟨lentL_at (at_someL hs32.len.symm g11), rfl⟩ rfl rfl rfl (JO.reg ttOk 1 [] [] [(17, .v (.int .i64 x8))] _ rfl ⟨⟨rfl, trivial⟩, rfl⟩ ?_)
        obtain ⟨⟨y16, y17⟩, hy18, h⟩ := bindO_some h
        refine JO.callX rfl rfl rfl rfl (ok_l_markIntS (at' x7 x9) x8 a12 c13 ((at' x7 x9).length) rfl _ hy18) rfl [1] rfl [] rfl rfl fun _ _ => JO.know 0 rfl fun hs19 => JO.reg ttOk 1 [] [] [(1, .v (.int .i64 y16))] _ rfl ⟨⟨rfl, trivial⟩, rfl⟩ (JO.unlend [1, 0] rfl y17 ⟨rfl, rfl, rfl⟩ (JO.done rfl (JS.endB (JS.re ttOk 3 [(W (x9 + 1))] [] [(5, .v (.int .i64 (W (x9 + 1))))] _ ⟨⟨trivial, rfl⟩, ⟨rfl, trivial⟩, rfl⟩ rfl rfl (JS.endL (n22, (List.set x7 (Int.toNat x9) y17), y16, (W (x9 + 1))) h (Nat.lt_succ_self _) (Es rfl) trivial [] rfl [0] rfl)))))
      have h := condF h ht33
      refine JS.exit rfl (JS.endJ (x7, x8) h ⟨rfl, trivial⟩ trivial [] rfl [0] rfl)
    rintro ⟨x25, x26⟩ h
    subst hj35
    refine JS.know 0 rfl fun hs34 => JS.rg0 ttOk 2 [(4, .v (.int .i64 x26))] ⟨⟨rfl, trivial⟩, rfl⟩ rfl rfl ?_
    cases h
    exact JS.retX ttOk () trivial rfl rfl [0] rfl

def M_l_markRing (x0 : List (List Int)) (x1 : Int) : Option (Int × List (List Int)) :=
  (bindO (M_l_markPieceS x0 x1) fun (y7, y8) =>
  some (y7, y8))

theorem ok_l_markRing (x0 : List (List Int)) (x1 : Int) (a3 : Option Addr) (c4 : Nat) (l5 : Nat) (hl6 : x0.length = l5) (r : Int × List (List Int)) (h : M_l_markRing x0 x1 = some r) :
    FX Tryz.prog 71 [.agg #[.slice a3 l5 c4], .int .i64 x1] [] [⟨(.sl (.int .i64)), ⟨a3, l5, c4⟩, x0⟩] (fun _ : Unit => True) (fun _ => .int .i64 r.1) (fun _ => [⟨(.sl (.int .i64)), ⟨a3, l5, c4⟩, r.2⟩]) :=
  by
    subst hl6
    refine FX.of (T := TTx) Tryz.call71 Tryz.func71 rfl rfl fun w0 L0 => ?_
    unfold M_l_markRing at h
    refine JS.rgB ttOk 2 [] [2] [(2, .bp 2 0)] (.new 2 41 [.slice a3 x0.length c4] .nil) ⟨⟨rfl, trivial⟩, (Bs rfl rfl)⟩ rfl rfl (JS.seq (JS.region (JO.reg ttOk 3 [] [] [(6, .v (.slice a3 x0.length c4)), (7, .v (.int .i64 x1))] _ rfl ⟨(Es rfl), rfl⟩ ?_)))
    obtain ⟨⟨y7, y8⟩, hy9, h⟩ := bindO_some h
    refine JO.callX rfl rfl rfl rfl (ok_l_markPieceS x0 x1 a3 c4 x0.length rfl _ hy9) rfl [0] rfl [] rfl rfl fun _ _ => JO.know 0 rfl fun hs10 => JO.reg ttOk 1 [] [] [(1, .v (.int .i64 y7))] _ rfl ⟨⟨rfl, trivial⟩, rfl⟩ (JO.done rfl (JS.rg0 ttOk 2 [(4, .v (.int .i64 y7))] ⟨⟨rfl, trivial⟩, rfl⟩ rfl rfl ?_))
    cases h
    exact JS.retX ttOk () trivial rfl rfl [0] rfl

def M_l_markLineS_L1 (x0 : List (List Int × Int)) (j28 : ((List (List Int × Int)) × Int) → Option (Int × List (List Int × Int))) (k22 : ((List (List Int × Int)) × Int × Int) → Option (Int × List (List Int × Int))) : ((List (List Int × Int)) × Int × Int) → Option (Int × List (List Int × Int)) := fun (x7, x8, x9) =>
  (bif (decide (x9 < (x0.length : Int))) then
  (guardO (0 ≤ x9 ∧ x9 < (x0.length : Int)) <|
  (bindO (M_l_markIntS ((at' x7 x9).1) x8) fun (y16, y17) =>
  (guardO (0 ≤ x9 ∧ x9 < (x0.length : Int)) <|
  k22 ((List.set (List.set x7 (Int.toNat x9) (y17, (at' x7 x9).2)) (Int.toNat x9) ((at' (List.set x7 (Int.toNat x9) (y17, (at' x7 x9).2)) x9).1, y16)), (W (y16 + 1)), (W (x9 + 1))))))
  else
  j28 (x7, x8))

def M_l_markLineS (x0 : List (List Int × Int)) (x1 : Int) : Option (Int × List (List Int × Int)) :=
  (joinO (fun ((x26, x27) : (List (List Int × Int)) × Int) =>
  some (x27, x26)) fun j28 =>
  (fixF (M_l_markLineS_L1 x0 j28) FUEL (x0, x1, 0)))

theorem ok_l_markLineS (x0 : List (List Int × Int)) (x1 : Int) (a3 : Option Addr) (c4 : Nat) (l5 : Nat) (hl6 : x0.length = l5) (r : Int × List (List Int × Int)) (h : M_l_markLineS x0 x1 = some r) :
    FX Tryz.prog 150 [.slice a3 l5 c4, .int .i64 x1] [] [⟨(.pair (.sl (.int .i64)) (.int .i64)), ⟨a3, l5, c4⟩, x0⟩] (fun _ : Unit => True) (fun _ => .int .i64 r.1) (fun _ => [⟨(.pair (.sl (.int .i64)) (.int .i64)), ⟨a3, l5, c4⟩, r.2⟩]) :=
  by
    subst hl6
    refine FX.of (T := TTx) Tryz.call150 Tryz.func150 rfl rfl fun w0 L0 => ?_
    unfold M_l_markLineS at h
    refine JS.rg0 ttOk 1 [] ⟨trivial, rfl⟩ rfl rfl (JS.seq (JS.rg0 ttOk 1 [(5, .v (.int .i64 0))] ⟨⟨rfl, trivial⟩, rfl⟩ rfl rfl ?_))
    obtain ⟨j28, hj36, h⟩ := joinO_some h
    refine JS.blockJ (ι := (List (List Int × Int)) × Int) ⟨fun z => j28 (z.1, z.2) = some r, fun z => [(1, .v (.int .i64 z.2))], fun z => .nil, fun z => [], fun z => [⟨(.pair (.sl (.int .i64)) (.int .i64)), ⟨a3, x0.length, c4⟩, z.1⟩], fun z => 0⟩ ?_ ?_
    · refine JS.loop (ι := Nat × (List (List Int × Int)) × Int × Int) ⟨fun z => fixF (M_l_markLineS_L1 x0 j28) z.1 (z.2.1, z.2.2.1, z.2.2.2) = some r, fun z => [(0, .v (.slice a3 x0.length c4)), (1, .v (.int .i64 z.2.2.1)), (5, .v (.int .i64 z.2.2.2))], fun z => .nil, fun z => [], fun z => [⟨(.pair (.sl (.int .i64)) (.int .i64)), ⟨a3, x0.length, c4⟩, z.2.1⟩], fun z => z.1⟩ (FUEL, x0, x1, 0) h (Es rfl) trivial [] rfl [0] rfl ?_
      rintro ⟨n23, x7, x8, x9⟩ h
      obtain ⟨n23, rfl, h⟩ := fixF_some h
      rw [M_l_markLineS_L1] at h
      refine JS.know 0 rfl fun hs33 => JS.seq (JS.rg0 ttOk 4 [(9, .v (.bool (decide (x9 < (x0.length : Int)))))] ⟨⟨rfl, trivial⟩, rfl⟩ rfl rfl ?_)
      refine JS.cond rfl (fun ht34 => ?_) (fun ht34 => ?_)
      · have h := condT h ht34
        refine JS.skip (JS.seq (JS.block (JS.seq (JS.region ?_))))
        obtain ⟨g11, h⟩ := guardO_some h
        refine JO.reg ttOk 4 [] [] [(15, .ep ⟨a3, x0.length, c4⟩ (Int.toNat x9 * 2))] _ rfl ⟨(hs33.cast hs33.len.symm).ix g11, (hs33.cast hs33.len.symm).fa g11, ⟨rfl, trivial⟩, rfl⟩ (JO.lend [0] rfl (Int.toNat x9) (at' x7 x9) rfl fun a12 c13 l14 hl15 => ?_)
        obtain rfl : ([.slice a12 ((at' x7 x9).1).length c13, .int .i64 (at' x7 x9).2] : List Value) = l14 := Option.some.inj hl15
        refine JO.loadV ttOk rfl rfl rfl rfl rfl rfl 0 rfl rfl (Int.toNat x9) 0 (Sum.inr [.slice a12 ((at' x7 x9).1).length c13, .int .i64 (at' x7 x9).2]) ⟨lentL_at (at_someL hs33.len.symm g11), rfl⟩ rfl rfl rfl (JO.reg ttOk 1 [] [] [(17, .v (.int .i64 x8))] _ rfl ⟨⟨rfl, trivial⟩, rfl⟩ ?_)
        obtain ⟨⟨y16, y17⟩, hy18, h⟩ := bindO_some h
        refine JO.callX rfl rfl rfl rfl (ok_l_markIntS ((at' x7 x9).1) x8 a12 c13 (((at' x7 x9).1).length) rfl _ hy18) rfl [1] rfl [] rfl rfl fun _ _ => JO.know 0 rfl fun hs19 => JO.reg ttOk 1 [] [] [(1, .v (.int .i64 y16))] _ rfl ⟨⟨rfl, trivial⟩, rfl⟩ (JO.unlend [1, 0] rfl (y17, (at' x7 x9).2) ⟨rfl, rfl, rfl⟩ (JO.done rfl (JS.seq (JS.region ?_))))
        obtain ⟨g20, h⟩ := guardO_some h
        refine JO.reg ttOk 5 [] [] [(21, .v (.int .i64 y16)), (23, .ep ⟨a3, x0.length, c4⟩ (Int.toNat x9 * 2 + 1))] _ rfl ⟨(hs33.cast hs33.len.symm).ix g20, (hs33.cast hs33.len.symm).fa g20, (Es rfl), rfl⟩ (JO.storeE ttOk rfl rfl rfl rfl rfl rfl rfl rfl rfl [0] (fs := []) rfl (Int.toNat x9) 1 (at' (List.set x7 (Int.toNat x9) (y17, (at' x7 x9).2)) x9) ((at' (List.set x7 (Int.toNat x9) (y17, (at' x7 x9).2)) x9).1, y16) ⟨at_someL (List.length_set.trans hs33.len.symm) g20, rfl⟩ ⟨⟨rfl, rfl, rfl⟩, rfl⟩ (JO.done rfl (JS.re ttOk 3 [(W (y16 + 1))] [] [(1, .v (.int .i64 (W (y16 + 1))))] _ ⟨⟨trivial, rfl⟩, ⟨rfl, trivial⟩, rfl⟩ rfl rfl (JS.endB (JS.re ttOk 3 [(W (x9 + 1))] [] [(5, .v (.int .i64 (W (x9 + 1))))] _ ⟨⟨trivial, rfl⟩, ⟨rfl, trivial⟩, rfl⟩ rfl rfl (JS.endL (n23, (List.set (List.set x7 (Int.toNat x9) (y17, (at' x7 x9).2)) (Int.toNat x9) ((at' (List.set x7 (Int.toNat x9) (y17, (at' x7 x9).2)) x9).1, y16)), (W (y16 + 1)), (W (x9 + 1))) h (Nat.lt_succ_self _) (Es rfl) trivial [] rfl [0] rfl))))))
      have h := condF h ht34
      refine JS.exit rfl (JS.endJ (x7, x8) h ⟨rfl, trivial⟩ trivial [] rfl [0] rfl)
    rintro ⟨x26, x27⟩ h
    subst hj36
    refine JS.know 0 rfl fun hs35 => JS.rg0 ttOk 2 [(4, .v (.int .i64 x27))] ⟨⟨rfl, trivial⟩, rfl⟩ rfl rfl ?_
    cases h
    exact JS.retX ttOk () trivial rfl rfl [0] rfl

def M_l_markUndo (x0 : List (List Int × Int)) (x1 : Int) : Option (Int × List (List Int × Int)) :=
  (bindO (M_l_markLineS x0 x1) fun (y7, y8) =>
  some (y7, y8))

theorem ok_l_markUndo (x0 : List (List Int × Int)) (x1 : Int) (a3 : Option Addr) (c4 : Nat) (l5 : Nat) (hl6 : x0.length = l5) (r : Int × List (List Int × Int)) (h : M_l_markUndo x0 x1 = some r) :
    FX Tryz.prog 72 [.agg #[.slice a3 l5 c4], .int .i64 x1] [] [⟨(.pair (.sl (.int .i64)) (.int .i64)), ⟨a3, l5, c4⟩, x0⟩] (fun _ : Unit => True) (fun _ => .int .i64 r.1) (fun _ => [⟨(.pair (.sl (.int .i64)) (.int .i64)), ⟨a3, l5, c4⟩, r.2⟩]) :=
  by
    subst hl6
    refine FX.of (T := TTx) Tryz.call72 Tryz.func72 rfl rfl fun w0 L0 => ?_
    unfold M_l_markUndo at h
    refine JS.rgB ttOk 2 [] [2] [(2, .bp 2 0)] (.new 2 44 [.slice a3 x0.length c4] .nil) ⟨⟨rfl, trivial⟩, (Bs rfl rfl)⟩ rfl rfl (JS.seq (JS.region (JO.reg ttOk 3 [] [] [(6, .v (.slice a3 x0.length c4)), (7, .v (.int .i64 x1))] _ rfl ⟨(Es rfl), rfl⟩ ?_)))
    obtain ⟨⟨y7, y8⟩, hy9, h⟩ := bindO_some h
    refine JO.callX rfl rfl rfl rfl (ok_l_markLineS x0 x1 a3 c4 x0.length rfl _ hy9) rfl [0] rfl [] rfl rfl fun _ _ => JO.know 0 rfl fun hs10 => JO.reg ttOk 1 [] [] [(1, .v (.int .i64 y7))] _ rfl ⟨⟨rfl, trivial⟩, rfl⟩ (JO.done rfl (JS.rg0 ttOk 2 [(4, .v (.int .i64 y7))] ⟨⟨rfl, trivial⟩, rfl⟩ rfl rfl ?_))
    cases h
    exact JS.retX ttOk () trivial rfl rfl [0] rfl

def M_l_markEd (x0 : Bool × Int × (List Int × Int) × Int × Int × Int × Int × Int × Int × Int × List (List Int) × (List (List Int × Int)) × Int × (List Int × Int) × List Int × Int × List Int × Int) (x1 : Int) : Option (Int × List Int × List (List Int) × (List (List Int × Int)) × List Int × List Int × List Int) :=
  (bindO (M_l_markLine x0.2.2.1 x1) fun (y27, y28) =>
  (bindO (M_l_markRing x0.2.2.2.2.2.2.2.2.2.2.1 y27) fun (y31, y32) =>
  (bindO (M_l_markUndo x0.2.2.2.2.2.2.2.2.2.2.2.1 y31) fun (y35, y36) =>
  (bindO (M_l_markLine x0.2.2.2.2.2.2.2.2.2.2.2.2.2.1 y35) fun (y39, y40) =>
  (bindO (M_l_markIntS x0.2.2.2.2.2.2.2.2.2.2.2.2.2.2.1 y39) fun (y43, y44) =>
  (bindO (M_l_markLine x0.2.2.2.2.2.2.2.2.2.2.2.2.2.2.2.2 y43) fun (y47, y48) =>
  some (y47, y28, y32, y36, y40, y44, y48)))))))

theorem ok_l_markEd (x0 : Bool × Int × (List Int × Int) × Int × Int × Int × Int × Int × Int × Int × List (List Int) × (List (List Int × Int)) × Int × (List Int × Int) × List Int × Int × List Int × Int) (x1 : Int) (a3 : Option Addr) (c4 : Nat) (l5 : Nat) (hl6 : x0.2.2.1.1.length = l5) (a7 : Option Addr) (c8 : Nat) (l9 : Nat) (hl10 : x0.2.2.2.2.2.2.2.2.2.2.1.length = l9) (a11 : Option Addr) (c12 : Nat) (l13 : Nat) (hl14 : x0.2.2.2.2.2.2.2.2.2.2.2.1.length = l13) (a15 : Option Addr) (c16 : Nat) (l17 : Nat) (hl18 : x0.2.2.2.2.2.2.2.2.2.2.2.2.2.1.1.length = l17) (a19 : Option Addr) (c20 : Nat) (l21 : Nat) (hl22 : x0.2.2.2.2.2.2.2.2.2.2.2.2.2.2.1.length = l21) (a23 : Option Addr) (c24 : Nat) (l25 : Nat) (hl26 : x0.2.2.2.2.2.2.2.2.2.2.2.2.2.2.2.2.1.length = l25) (r : Int × List Int × List (List Int) × (List (List Int × Int)) × List Int × List Int × List Int) (h : M_l_markEd x0 x1 = some r) :
    FX Tryz.prog 20 [.agg #[.bool x0.1, .int .i64 x0.2.1, .slice a3 l5 c4, .int .i64 x0.2.2.1.2, .int .i64 x0.2.2.2.1, .int .i64 x0.2.2.2.2.1, .int .i64 x0.2.2.2.2.2.1, .int .i64 x0.2.2.2.2.2.2.1, .int .i64 x0.2.2.2.2.2.2.2.1, .int .i64 x0.2.2.2.2.2.2.2.2.1, .int .i64 x0.2.2.2.2.2.2.2.2.2.1, .slice a7 l9 c8, .slice a11 l13 c12, .int .i64 x0.2.2.2.2.2.2.2.2.2.2.2.2.1, .slice a15 l17 c16, .int .i64 x0.2.2.2.2.2.2.2.2.2.2.2.2.2.1.2, .slice a19 l21 c20, .int .i64 x0.2.2.2.2.2.2.2.2.2.2.2.2.2.2.2.1, .slice a23 l25 c24, .int .i64 x0.2.2.2.2.2.2.2.2.2.2.2.2.2.2.2.2.2], .int .i64 x1] [] [⟨(.int .i64), ⟨a3, l5, c4⟩, x0.2.2.1.1⟩, ⟨(.sl (.int .i64)), ⟨a7, l9, c8⟩, x0.2.2.2.2.2.2.2.2.2.2.1⟩, ⟨(.pair (.sl (.int .i64)) (.int .i64)), ⟨a11, l13, c12⟩, x0.2.2.2.2.2.2.2.2.2.2.2.1⟩, ⟨(.int .i64), ⟨a15, l17, c16⟩, x0.2.2.2.2.2.2.2.2.2.2.2.2.2.1.1⟩, ⟨(.int .i64), ⟨a19, l21, c20⟩, x0.2.2.2.2.2.2.2.2.2.2.2.2.2.2.1⟩, ⟨(.int .i64), ⟨a23, l25, c24⟩, x0.2.2.2.2.2.2.2.2.2.2.2.2.2.2.2.2.1⟩] (fun _ : Unit => True) (fun _ => .int .i64 r.1) (fun _ => [⟨(.int .i64), ⟨a3, l5, c4⟩, r.2.1⟩, ⟨(.sl (.int .i64)), ⟨a7, l9, c8⟩, r.2.2.1⟩, ⟨(.pair (.sl (.int .i64)) (.int .i64)), ⟨a11, l13, c12⟩, r.2.2.2.1⟩, ⟨(.int .i64), ⟨a15, l17, c16⟩, r.2.2.2.2.1⟩, ⟨(.int .i64), ⟨a19, l21, c20⟩, r.2.2.2.2.2.1⟩, ⟨(.int .i64), ⟨a23, l25, c24⟩, r.2.2.2.2.2.2⟩]) :=
  by
    subst hl6
    subst hl10
    subst hl14
    subst hl18
    subst hl22
    subst hl26
    refine FX.of (T := TTx) Tryz.call20 Tryz.func20 rfl rfl fun w0 L0 => ?_
    unfold M_l_markEd at h
    refine JS.rgB ttOk 2 [] [7] [(2, .bp 7 0)] (.new 7 46 (cl46 x0 a3 c4 a7 c8 a11 c12 a15 c16 a19 c20 a23 c24) .nil) ⟨⟨rfl, trivial⟩, (Bs rfl rfl)⟩ rfl rfl (JS.seq (JS.region (JO.reg ttOk 3 [] [] [(6, .v (.agg #[.slice a3 x0.2.2.1.1.length c4, .int .i64 x0.2.2.1.2])), (7, .v (.int .i64 x1))] _ rfl ⟨(Es rfl), rfl⟩ ?_)))
    obtain ⟨⟨y27, y28⟩, hy29, h⟩ := bindO_some h
    refine JO.callX rfl rfl rfl rfl (ok_l_markLine x0.2.2.1 x1 a3 c4 x0.2.2.1.1.length rfl _ hy29) rfl [0] rfl [] rfl rfl fun _ _ => JO.know 0 rfl fun hs30 => JO.reg ttOk 1 [] [] [(1, .v (.int .i64 y27))] _ rfl ⟨⟨rfl, trivial⟩, rfl⟩ (JO.done rfl (JS.seq (JS.region (JO.reg ttOk 3 [] [] [(10, .v (.agg #[.slice a7 x0.2.2.2.2.2.2.2.2.2.2.1.length c8])), (11, .v (.int .i64 y27))] _ rfl ⟨(Es rfl), rfl⟩ ?_))))
    obtain ⟨⟨y31, y32⟩, hy33, h⟩ := bindO_some h
    refine JO.callX rfl rfl rfl rfl (ok_l_markRing x0.2.2.2.2.2.2.2.2.2.2.1 y27 a7 c8 x0.2.2.2.2.2.2.2.2.2.2.1.length rfl _ hy33) rfl [1] rfl [] rfl rfl fun _ _ => JO.know 0 rfl fun hs34 => JO.reg ttOk 1 [] [] [(1, .v (.int .i64 y31))] _ rfl ⟨⟨rfl, trivial⟩, rfl⟩ (JO.done rfl (JS.seq (JS.region (JO.reg ttOk 3 [] [] [(14, .v (.agg #[.slice a11 x0.2.2.2.2.2.2.2.2.2.2.2.1.length c12])), (15, .v (.int .i64 y31))] _ rfl ⟨(Es rfl), rfl⟩ ?_))))
    obtain ⟨⟨y35, y36⟩, hy37, h⟩ := bindO_some h
    refine JO.callX rfl rfl rfl rfl (ok_l_markUndo x0.2.2.2.2.2.2.2.2.2.2.2.1 y31 a11 c12 x0.2.2.2.2.2.2.2.2.2.2.2.1.length rfl _ hy37) rfl [2] rfl [] rfl rfl fun _ _ => JO.know 0 rfl fun hs38 => JO.reg ttOk 1 [] [] [(1, .v (.int .i64 y35))] _ rfl ⟨⟨rfl, trivial⟩, rfl⟩ (JO.done rfl (JS.seq (JS.region (JO.reg ttOk 3 [] [] [(18, .v (.agg #[.slice a15 x0.2.2.2.2.2.2.2.2.2.2.2.2.2.1.1.length c16, .int .i64 x0.2.2.2.2.2.2.2.2.2.2.2.2.2.1.2])), (19, .v (.int .i64 y35))] _ rfl ⟨(Es rfl), rfl⟩ ?_))))
    obtain ⟨⟨y39, y40⟩, hy41, h⟩ := bindO_some h
    refine JO.callX rfl rfl rfl rfl (ok_l_markLine x0.2.2.2.2.2.2.2.2.2.2.2.2.2.1 y35 a15 c16 x0.2.2.2.2.2.2.2.2.2.2.2.2.2.1.1.length rfl _ hy41) rfl [3] rfl [] rfl rfl fun _ _ => JO.know 0 rfl fun hs42 => JO.reg ttOk 1 [] [] [(1, .v (.int .i64 y39))] _ rfl ⟨⟨rfl, trivial⟩, rfl⟩ (JO.done rfl (JS.seq (JS.region (JO.reg ttOk 3 [] [] [(22, .v (.slice a19 x0.2.2.2.2.2.2.2.2.2.2.2.2.2.2.1.length c20)), (23, .v (.int .i64 y39))] _ rfl ⟨(Es rfl), rfl⟩ ?_))))
    obtain ⟨⟨y43, y44⟩, hy45, h⟩ := bindO_some h
    refine JO.callX rfl rfl rfl rfl (ok_l_markIntS x0.2.2.2.2.2.2.2.2.2.2.2.2.2.2.1 y39 a19 c20 x0.2.2.2.2.2.2.2.2.2.2.2.2.2.2.1.length rfl _ hy45) rfl [4] rfl [] rfl rfl fun _ _ => JO.know 0 rfl fun hs46 => JO.reg ttOk 1 [] [] [(1, .v (.int .i64 y43))] _ rfl ⟨⟨rfl, trivial⟩, rfl⟩ (JO.done rfl (JS.seq (JS.region (JO.reg ttOk 3 [] [] [(26, .v (.agg #[.slice a23 x0.2.2.2.2.2.2.2.2.2.2.2.2.2.2.2.2.1.length c24, .int .i64 x0.2.2.2.2.2.2.2.2.2.2.2.2.2.2.2.2.2])), (27, .v (.int .i64 y43))] _ rfl ⟨(Es rfl), rfl⟩ ?_))))
    obtain ⟨⟨y47, y48⟩, hy49, h⟩ := bindO_some h
    refine JO.callX rfl rfl rfl rfl (ok_l_markLine x0.2.2.2.2.2.2.2.2.2.2.2.2.2.2.2.2 y43 a23 c24 x0.2.2.2.2.2.2.2.2.2.2.2.2.2.2.2.2.1.length rfl _ hy49) rfl [5] rfl [] rfl rfl fun _ _ => JO.know 0 rfl fun hs50 => JO.reg ttOk 1 [] [] [(1, .v (.int .i64 y47))] _ rfl ⟨⟨rfl, trivial⟩, rfl⟩ (JO.done rfl (JS.rg0 ttOk 2 [(4, .v (.int .i64 y47))] ⟨⟨rfl, trivial⟩, rfl⟩ rfl rfl ?_))
    cases h
    exact JS.retX ttOk () trivial rfl rfl [5, 4, 3, 2, 1, 0] rfl

def M_l_markText_L1 (j13 : (List UInt8) → Option (List UInt8)) (k9 : (Int × List UInt8) → Option (List UInt8)) : (Int × List UInt8) → Option (List UInt8) := fun (x2, x3) =>
  (bif (decide (0 < x2)) then
  (guardO (((([(u8 ((W (48 + (Int.tmod x2 10)))))] : List UInt8).length + x3.length : Nat) : Int) ≤ 9223372036854775807) <|
  k9 ((W (Int.tdiv x2 10)), (([(u8 ((W (48 + (Int.tmod x2 10)))))] : List UInt8) ++ x3)))
  else
  j13 x3)

def M_l_markText (x0 : Int) : Option (List UInt8) :=
  (bif (decide (x0 ≤ 0)) then
  some ([109, 48] : List UInt8)
  else
  (joinO (fun (x12 : List UInt8) =>
  (guardO (((([109] : List UInt8).length + x12.length : Nat) : Int) ≤ 9223372036854775807) <|
  some (([109] : List UInt8) ++ x12))) fun j13 =>
  (fixF (M_l_markText_L1 j13) FUEL (x0, []))))

theorem ok_l_markText (x0 : Int) (r : List UInt8) (h : M_l_markText x0 = some r) :
    FC Tryz.prog 151 [.int .i64 x0] [] (fun _ : Unit => True) (fun _ => .string (bs r)) (fun _ => []) :=
  by
    refine FC.of (T := TTx) Tryz.call151 Tryz.func151 rfl rfl fun w0 => ?_
    unfold M_l_markText at h
    refine JS.rg0 ttOk 1 [] ⟨trivial, rfl⟩ rfl rfl (JS.seq (JS.rg0 ttOk 2 [(5, .v (.bool (decide (x0 ≤ 0))))] ⟨⟨rfl, trivial⟩, rfl⟩ rfl rfl ?_))
    refine JS.cond rfl (fun ht20 => ?_) (fun ht20 => ?_)
    · have h := condT h ht20
      refine JS.rg0 ttOk 1 [(2, .v (.string (bs ([109, 48] : List UInt8))))] ⟨⟨rfl, trivial⟩, rfl⟩ rfl rfl ?_
      cases h
      exact JS.ret ttOk () trivial rfl rfl [] rfl
    have h := condF h ht20
    refine JS.skip (JS.rg0 ttOk 1 [(3, .v (.string (bs [])))] ⟨⟨rfl, trivial⟩, rfl⟩ rfl rfl (JS.seq ?_))
    obtain ⟨j13, hj19, h⟩ := joinO_some h
    refine JS.blockJ (ι := List UInt8) ⟨fun z => j13 z = some r, fun z => [(3, .v (.string (bs z)))], fun z => .nil, fun z => [], fun z => [], fun z => 0⟩ ?_ ?_
    · refine JS.loop (ι := Nat × Int × List UInt8) ⟨fun z => fixF (M_l_markText_L1 j13) z.1 (z.2.1, z.2.2) = some r, fun z => [(0, .v (.int .i64 z.2.1)), (3, .v (.string (bs z.2.2)))], fun z => .nil, fun z => [], fun z => [], fun z => z.1⟩ (FUEL, x0, []) h (Es rfl) trivial [] rfl [] rfl ?_
      rintro ⟨n10, x2, x3⟩ h
      obtain ⟨n10, rfl, h⟩ := fixF_some h
      rw [M_l_markText_L1] at h
      refine JS.seq (JS.rg0 ttOk 2 [(7, .v (.bool (decide (0 < x2))))] ⟨⟨rfl, trivial⟩, rfl⟩ rfl rfl ?_)
      refine JS.cond rfl (fun ht18 => ?_) (fun ht18 => ?_)
      · have h := condT h ht18
        refine JS.skip (JS.block (JS.seq (JS.region ?_)))
        have g4 : (10 : Int) ≠ 0 := by decide
        refine JO.reg ttOk 4 [(W (48 + (Int.tmod x2 10))), ((u8 ((W (48 + (Int.tmod x2 10))))).toNat : Int)] [] [(11, .v (.int .u8 ((u8 ((W (48 + (Int.tmod x2 10))))).toNat : Int)))] _ rfl ⟨g4, ⟨trivial, rfl⟩, ⟨trivial, u8_wrap _⟩, ⟨rfl, trivial⟩, rfl⟩ ?_
        refine JO.ofK rfl (JK.buildSlice ttOk rfl rfl rfl rfl rfl rfl rfl rfl rfl rfl rfl [] rfl .byte [(u8 ((W (48 + (Int.tmod x2 10)))))] ⟨rfl, rfl⟩ rfl rfl fun a5 => JO.toK ?_)
        refine JO.strOf ttOk rfl rfl rfl rfl rfl rfl rfl rfl 0 rfl rfl ?_
        obtain ⟨g6, h⟩ := guardO_some h
        refine JO.reg ttOk 3 [] [] [(3, .v (.string (bs (([(u8 ((W (48 + (Int.tmod x2 10)))))] : List UInt8) ++ x3))))] _ rfl ⟨g6, ⟨rfl, trivial⟩, rfl⟩ (JO.done rfl (JS.region ?_))
        have g7 : (10 : Int) ≠ 0 := by decide
        refine JO.reg ttOk 3 [(W (Int.tdiv x2 10))] [] [(0, .v (.int .i64 (W (Int.tdiv x2 10))))] _ rfl ⟨⟨g7, rfl⟩, ⟨rfl, trivial⟩, rfl⟩ (JO.done rfl (JS.endB (JS.endL (n10, (W (Int.tdiv x2 10)), (([(u8 ((W (48 + (Int.tmod x2 10)))))] : List UInt8) ++ x3)) h (Nat.lt_succ_self _) (Es rfl) trivial [] rfl [] rfl)))
      have h := condF h ht18
      refine JS.exit rfl (JS.endJ x3 h ⟨rfl, trivial⟩ trivial [] rfl [] rfl)
    rintro x12 h
    subst hj19
    refine JS.seq (JS.region ?_)
    obtain ⟨g15, h⟩ := guardO_some h
    refine JO.reg ttOk 3 [] [] [(2, .v (.string (bs (([109] : List UInt8) ++ x12))))] _ rfl ⟨g15, ⟨rfl, trivial⟩, rfl⟩ (JO.done rfl ?_)
    cases h
    exact JS.ret ttOk () trivial rfl rfl [] rfl

def M_l_markStringS_L1 (x0 : List (List UInt8)) (j21 : (List (List UInt8) × Int) → Option (Int × List (List UInt8))) (k15 : (List (List UInt8) × Int × Int) → Option (Int × List (List UInt8))) : (List (List UInt8) × Int × Int) → Option (Int × List (List UInt8)) := fun (x7, x8, x9) =>
  (bif (decide (x9 < (x0.length : Int))) then
  (bindO (M_l_markText x8) fun (y11 : List UInt8) =>
  (guardO (0 ≤ x9 ∧ x9 < (x0.length : Int)) <|
  k15 ((List.set x7 (Int.toNat x9) y11), (W (x8 + 1)), (W (x9 + 1)))))
  else
  j21 (x7, x8))

def M_l_markStringS (x0 : List (List UInt8)) (x1 : Int) : Option (Int × List (List UInt8)) :=
  (joinO (fun ((x19, x20) : List (List UInt8) × Int) =>
  some (x20, x19)) fun j21 =>
  (fixF (M_l_markStringS_L1 x0 j21) FUEL (x0, x1, 0)))

theorem ok_l_markStringS (x0 : List (List UInt8)) (x1 : Int) (a3 : Option Addr) (c4 : Nat) (l5 : Nat) (hl6 : x0.length = l5) (r : Int × List (List UInt8)) (h : M_l_markStringS x0 x1 = some r) :
    FX Tryz.prog 73 [.slice a3 l5 c4, .int .i64 x1] [] [⟨.str, ⟨a3, l5, c4⟩, x0⟩] (fun _ : Unit => True) (fun _ => .int .i64 r.1) (fun _ => [⟨.str, ⟨a3, l5, c4⟩, r.2⟩]) :=
  by
    subst hl6
    refine FX.of (T := TTx) Tryz.call73 Tryz.func73 rfl rfl fun w0 L0 => ?_
    unfold M_l_markStringS at h
    refine JS.rg0 ttOk 1 [] ⟨trivial, rfl⟩ rfl rfl (JS.seq (JS.rg0 ttOk 1 [(5, .v (.int .i64 0))] ⟨⟨rfl, trivial⟩, rfl⟩ rfl rfl ?_))
    obtain ⟨j21, hj29, h⟩ := joinO_some h
    refine JS.blockJ (ι := List (List UInt8) × Int) ⟨fun z => j21 (z.1, z.2) = some r, fun z => [(1, .v (.int .i64 z.2))], fun z => .nil, fun z => [], fun z => [⟨.str, ⟨a3, x0.length, c4⟩, z.1⟩], fun z => 0⟩ ?_ ?_
    · refine JS.loop (ι := Nat × List (List UInt8) × Int × Int) ⟨fun z => fixF (M_l_markStringS_L1 x0 j21) z.1 (z.2.1, z.2.2.1, z.2.2.2) = some r, fun z => [(0, .v (.slice a3 x0.length c4)), (1, .v (.int .i64 z.2.2.1)), (5, .v (.int .i64 z.2.2.2))], fun z => .nil, fun z => [], fun z => [⟨.str, ⟨a3, x0.length, c4⟩, z.2.1⟩], fun z => z.1⟩ (FUEL, x0, x1, 0) h (Es rfl) trivial [] rfl [0] rfl ?_
      rintro ⟨n16, x7, x8, x9⟩ h
      obtain ⟨n16, rfl, h⟩ := fixF_some h
      rw [M_l_markStringS_L1] at h
      refine JS.know 0 rfl fun hs26 => JS.seq (JS.rg0 ttOk 4 [(9, .v (.bool (decide (x9 < (x0.length : Int)))))] ⟨⟨rfl, trivial⟩, rfl⟩ rfl rfl ?_)
      refine JS.cond rfl (fun ht27 => ?_) (fun ht27 => ?_)
      · have h := condT h ht27
        refine JS.skip (JS.seq (JS.block (JS.seq (JS.region (JO.reg ttOk 3 [] [] [(12, .v (.slice a3 x0.length c4)), (13, .v (.int .i64 x9)), (14, .v (.int .i64 x8))] _ rfl ⟨(Es rfl), rfl⟩ ?_)))))
        obtain ⟨y11, hy12, h⟩ := bindO_some h
        refine JO.call rfl rfl rfl rfl (ok_l_markText x8 _ hy12) rfl [] rfl rfl fun _ _ => ?_
        obtain ⟨g13, h⟩ := guardO_some h
        refine JO.reg ttOk 1 [] [] [(16, .ep ⟨a3, x0.length, c4⟩ (Int.toNat x9 * 1))] _ rfl ⟨(hs26.cast hs26.len.symm).ix g13, ⟨rfl, trivial⟩, rfl⟩ (JO.storeE ttOk rfl rfl rfl rfl rfl rfl rfl rfl rfl [0] (fs := []) rfl (Int.toNat x9) 0 (at' x7 x9) y11 ⟨at_someL hs26.len.symm g13, rfl⟩ ⟨rfl, rfl, rfl⟩ (JO.done rfl (JS.re ttOk 3 [(W (x8 + 1))] [] [(1, .v (.int .i64 (W (x8 + 1))))] _ ⟨⟨trivial, rfl⟩, ⟨rfl, trivial⟩, rfl⟩ rfl rfl (JS.endB (JS.re ttOk 3 [(W (x9 + 1))] [] [(5, .v (.int .i64 (W (x9 + 1))))] _ ⟨⟨trivial, rfl⟩, ⟨rfl, trivial⟩, rfl⟩ rfl rfl (JS.endL (n16, (List.set x7 (Int.toNat x9) y11), (W (x8 + 1)), (W (x9 + 1))) h (Nat.lt_succ_self _) (Es rfl) trivial [] rfl [0] rfl))))))
      have h := condF h ht27
      refine JS.exit rfl (JS.endJ (x7, x8) h ⟨rfl, trivial⟩ trivial [] rfl [0] rfl)
    rintro ⟨x19, x20⟩ h
    subst hj29
    refine JS.know 0 rfl fun hs28 => JS.rg0 ttOk 2 [(4, .v (.int .i64 x20))] ⟨⟨rfl, trivial⟩, rfl⟩ rfl rfl ?_
    cases h
    exact JS.retX ttOk () trivial rfl rfl [0] rfl

def M_l_markHist (x0 : Int × List (List UInt8)) (x1 : Int) : Option (Int × List (List UInt8)) :=
  (bindO (M_l_markStringS x0.2 x1) fun (y7, y8) =>
  some (y7, y8))

theorem ok_l_markHist (x0 : Int × List (List UInt8)) (x1 : Int) (a3 : Option Addr) (c4 : Nat) (l5 : Nat) (hl6 : x0.2.length = l5) (r : Int × List (List UInt8)) (h : M_l_markHist x0 x1 = some r) :
    FX Tryz.prog 21 [.agg #[.int .i64 x0.1, .slice a3 l5 c4], .int .i64 x1] [] [⟨.str, ⟨a3, l5, c4⟩, x0.2⟩] (fun _ : Unit => True) (fun _ => .int .i64 r.1) (fun _ => [⟨.str, ⟨a3, l5, c4⟩, r.2⟩]) :=
  by
    subst hl6
    refine FX.of (T := TTx) Tryz.call21 Tryz.func21 rfl rfl fun w0 L0 => ?_
    unfold M_l_markHist at h
    refine JS.rgB ttOk 2 [] [2] [(2, .bp 2 0)] (.new 2 50 [.int .i64 x0.1, .slice a3 x0.2.length c4] .nil) ⟨⟨rfl, trivial⟩, (Bs rfl rfl)⟩ rfl rfl (JS.seq (JS.region (JO.reg ttOk 3 [] [] [(6, .v (.slice a3 x0.2.length c4)), (7, .v (.int .i64 x1))] _ rfl ⟨(Es rfl), rfl⟩ ?_)))
    obtain ⟨⟨y7, y8⟩, hy9, h⟩ := bindO_some h
    refine JO.callX rfl rfl rfl rfl (ok_l_markStringS x0.2 x1 a3 c4 x0.2.length rfl _ hy9) rfl [0] rfl [] rfl rfl fun _ _ => JO.know 0 rfl fun hs10 => JO.reg ttOk 1 [] [] [(1, .v (.int .i64 y7))] _ rfl ⟨⟨rfl, trivial⟩, rfl⟩ (JO.done rfl (JS.rg0 ttOk 2 [(4, .v (.int .i64 y7))] ⟨⟨rfl, trivial⟩, rfl⟩ rfl rfl ?_))
    cases h
    exact JS.retX ttOk () trivial rfl rfl [0] rfl

def M_l_heldIntS_L1 (x0 : List Int) (j19 : Int → Option Int) (k13 : (Int × Int) → Option Int) : (Int × Int) → Option Int := fun (x7, x8) =>
  (bif (decide (x8 < (x0.length : Int))) then
  (guardO (0 ≤ x8 ∧ x8 < (x0.length : Int)) <|
  (bif (!(decide ((at' x0 x8) = x7))) then
  some (-1)
  else
  k13 ((W (x7 + 1)), (W (x8 + 1)))))
  else
  j19 x7)

def M_l_heldIntS (x0 : List Int) (x1 : Int) : Option Int :=
  (joinO (fun (x18 : Int) =>
  some x18) fun j19 =>
  (fixF (M_l_heldIntS_L1 x0 j19) FUEL (x1, 0)))

theorem ok_l_heldIntS (x0 : List Int) (x1 : Int) (a3 : Option Addr) (c4 : Nat) (l5 : Nat) (hl6 : x0.length = l5) (r : Int) (h : M_l_heldIntS x0 x1 = some r) :
    FC Tryz.prog 77 [.slice a3 l5 c4, .int .i64 x1] [⟨(.int .i64), ⟨a3, l5, c4⟩, x0⟩] (fun _ : Unit => True) (fun _ => .int .i64 r) (fun _ => []) :=
  by
    subst hl6
    refine FC.of (T := TTx) Tryz.call77 Tryz.func77 rfl rfl fun w0 => ?_
    unfold M_l_heldIntS at h
    refine JS.rg0 ttOk 1 [] ⟨trivial, rfl⟩ rfl rfl (JS.seq (JS.rg0 ttOk 1 [(5, .v (.int .i64 0))] ⟨⟨rfl, trivial⟩, rfl⟩ rfl rfl ?_))
    obtain ⟨j19, hj27, h⟩ := joinO_some h
    refine JS.blockJ (ι := Int) ⟨fun z => j19 z = some r, fun z => [(1, .v (.int .i64 z))], fun z => .nil, fun z => [], fun z => [], fun z => 0⟩ ?_ ?_
    · refine JS.loop (ι := Nat × Int × Int) ⟨fun z => fixF (M_l_heldIntS_L1 x0 j19) z.1 (z.2.1, z.2.2) = some r, fun z => [(0, .v (.slice a3 x0.length c4)), (1, .v (.int .i64 z.2.1)), (5, .v (.int .i64 z.2.2))], fun z => .nil, fun z => [⟨(.int .i64), ⟨a3, x0.length, c4⟩, x0⟩], fun z => [], fun z => z.1⟩ (FUEL, x1, 0) h (Es rfl) trivial [0] rfl [] rfl ?_
      rintro ⟨n14, x7, x8⟩ h
      obtain ⟨n14, rfl, h⟩ := fixF_some h
      rw [M_l_heldIntS_L1] at h
      refine JS.seq (JS.rg0 ttOk 4 [(9, .v (.bool (decide (x8 < (x0.length : Int)))))] ⟨⟨rfl, trivial⟩, rfl⟩ rfl rfl ?_)
      refine JS.cond rfl (fun ht26 => ?_) (fun ht26 => ?_)
      · have h := condT h ht26
        refine JS.skip (JS.seq (JS.block (JS.seq (JS.seq (JS.region (JO.know 0 rfl fun hs24 => ?_))))))
        obtain ⟨g10, h⟩ := guardO_some h
        refine JO.reg ttOk 3 [] [] [(14, .ep ⟨a3, x0.length, c4⟩ (Int.toNat x8 * 1))] _ rfl ⟨hs24.ix g10, ⟨rfl, trivial⟩, rfl⟩ (JO.load ttOk rfl rfl rfl rfl rfl rfl rfl 0 rfl rfl (Int.toNat x8) 0 (at' x0 x8) ⟨at_some g10, rfl⟩ rfl rfl (JO.reg ttOk 2 [] [] [(17, .v (.bool (!(decide ((at' x0 x8) = x7)))))] _ rfl ⟨⟨rfl, trivial⟩, rfl⟩ (JO.done rfl ?_)))
        refine JS.cond rfl (fun ht25 => ?_) (fun ht25 => ?_)
        · have h := condT h ht25
          refine JS.rg0 ttOk 1 [(4, .v (.int .i64 (-1)))] ⟨⟨rfl, trivial⟩, rfl⟩ rfl rfl ?_
          cases h
          exact JS.ret ttOk () trivial rfl rfl [] rfl
        have h := condF h ht25
        refine JS.skip (JS.re ttOk 3 [(W (x7 + 1))] [] [(1, .v (.int .i64 (W (x7 + 1))))] _ ⟨⟨trivial, rfl⟩, ⟨rfl, trivial⟩, rfl⟩ rfl rfl (JS.endB (JS.re ttOk 3 [(W (x8 + 1))] [] [(5, .v (.int .i64 (W (x8 + 1))))] _ ⟨⟨trivial, rfl⟩, ⟨rfl, trivial⟩, rfl⟩ rfl rfl (JS.endL (n14, (W (x7 + 1)), (W (x8 + 1))) h (Nat.lt_succ_self _) (Es rfl) trivial [0] rfl [] rfl))))
      have h := condF h ht26
      refine JS.exit rfl (JS.endJ x7 h ⟨rfl, trivial⟩ trivial [] rfl [] rfl)
    rintro x18 h
    subst hj27
    refine JS.rg0 ttOk 2 [(4, .v (.int .i64 x18))] ⟨⟨rfl, trivial⟩, rfl⟩ rfl rfl ?_
    cases h
    exact JS.ret ttOk () trivial rfl rfl [] rfl

def M_l_heldLine (x0 : List Int × Int) (x1 : Int) : Option Int :=
  (bindO (M_l_heldIntS x0.1 x1) fun (y7 : Int) =>
  (bif (decide (y7 < 0)) then
  some (-1)
  else
  some y7))

theorem ok_l_heldLine (x0 : List Int × Int) (x1 : Int) (a3 : Option Addr) (c4 : Nat) (l5 : Nat) (hl6 : x0.1.length = l5) (r : Int) (h : M_l_heldLine x0 x1 = some r) :
    FC Tryz.prog 74 [.agg #[.slice a3 l5 c4, .int .i64 x0.2], .int .i64 x1] [⟨(.int .i64), ⟨a3, l5, c4⟩, x0.1⟩] (fun _ : Unit => True) (fun _ => .int .i64 r) (fun _ => []) :=
  by
    subst hl6
    refine FC.of (T := TTx) Tryz.call74 Tryz.func74 rfl rfl fun w0 => ?_
    unfold M_l_heldLine at h
    refine JS.rgB ttOk 2 [] [2] [(2, .bp 2 0)] (.new 2 38 [.slice a3 x0.1.length c4, .int .i64 x0.2] .nil) ⟨⟨rfl, trivial⟩, (Bs rfl rfl)⟩ rfl rfl (JS.seq (JS.region (JO.reg ttOk 3 [] [] [(6, .v (.slice a3 x0.1.length c4)), (7, .v (.int .i64 x1))] _ rfl ⟨(Es rfl), rfl⟩ ?_)))
    obtain ⟨y7, hy8, h⟩ := bindO_some h
    refine JO.call rfl rfl rfl rfl (ok_l_heldIntS x0.1 x1 a3 c4 x0.1.length rfl _ hy8) rfl [0] rfl rfl fun _ _ => JO.reg ttOk 1 [] [] [(1, .v (.int .i64 y7))] _ rfl ⟨⟨rfl, trivial⟩, rfl⟩ (JO.done rfl (JS.seq (JS.rg0 ttOk 2 [(10, .v (.bool (decide (y7 < 0))))] ⟨⟨rfl, trivial⟩, rfl⟩ rfl rfl ?_)))
    refine JS.cond rfl (fun ht10 => ?_) (fun ht10 => ?_)
    · have h := condT h ht10
      refine JS.rg0 ttOk 1 [(4, .v (.int .i64 (-1)))] ⟨⟨rfl, trivial⟩, rfl⟩ rfl rfl ?_
      cases h
      exact JS.ret ttOk () trivial rfl rfl [] rfl
    have h := condF h ht10
    refine JS.skip (JS.rg0 ttOk 2 [(4, .v (.int .i64 y7))] ⟨⟨rfl, trivial⟩, rfl⟩ rfl rfl ?_)
    cases h
    exact JS.ret ttOk () trivial rfl rfl [] rfl

end
end Go.Eng
