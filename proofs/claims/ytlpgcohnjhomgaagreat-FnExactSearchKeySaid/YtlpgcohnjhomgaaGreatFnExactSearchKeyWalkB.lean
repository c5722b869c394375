/- The walks of the functions that FnExactSearchKey reaches: what each computes, as a plain function (M_..), and that the model computes it (ok_..). Condition of each: that the plain function answers. -/
import Derived.Test.YtlpgcohnjhomgaaGreatFnExactSearchKeyWalkA
set_option linter.unusedVariables false
set_option linter.unusedSimpArgs false
namespace Go.Eng
open Go Go.Proofs
noncomputable section

def M_s_ShowHit (x0 : Bool × Int × (List Int × Int) × Int × Int × Int × Int × Int × Int × Int × List (List Int) × (List (List Int × Int)) × Int × (List Int × Int) × List Int × Int × List Int × Int) (x1 : Int × List (List UInt8)) (x2 : Int) (x3 : List Int) : Option ((Bool × Int × (List Int × Int) × Int × Int × Int × Int × Int × Int × Int × List (List Int) × (List (List Int × Int)) × Int × (List Int × Int) × List Int × Int × List Int × Int) × Bool) :=
  (bindO (M_s_EdOk x0) fun (y37 : Bool) =>
  (bif (bif (!y37) then true else (!(decide (x0.2.1 = 3)))) then
  some ((false, 0, ([], 0), 0, 0, 0, 0, 0, 0, 0, [], [], 0, ([], 0), [], 0, ([], 0)), false)
  else
  (bindO (M_s_HistGet x1 x2) fun (y39, y40) =>
  (bindO (M_s_LineOf y39) fun (y42, y43) =>
  (bindO (M_s_TextOf x3) fun (y47 : List UInt8) =>
  (bindO (M_s_l25Runes y39 y47) fun (y49 : Int) =>
  (bif (bif (bif (!y40) then true else (!y43)) then true else (decide (y49 < 0))) then
  some ((false, 0, ([], 0), 0, 0, 0, 0, 0, 0, 0, [], [], 0, ([], 0), [], 0, ([], 0)), false)
  else
  (bindO (M_s_l21Copy x0) fun (y51 : Bool × Int × (List Int × Int) × Int × Int × Int × Int × Int × Int × Int × List (List Int) × (List (List Int × Int)) × Int × (List Int × Int) × List Int × Int × List Int × Int) =>
  (guardO (([] : List Int).length + x3.length ≤ 536870912) <|
  (joinO (fun ((x74, x77) : List Int × Int) =>
  (bindO (M_s_EdOk (y51.1, y51.2.1, (y42.1, y49), y51.2.2.2.1, y51.2.2.2.2.1, y51.2.2.2.2.2.1, y51.2.2.2.2.2.2.1, y51.2.2.2.2.2.2.2.1, y51.2.2.2.2.2.2.2.2.1, y51.2.2.2.2.2.2.2.2.2.1, y51.2.2.2.2.2.2.2.2.2.2.1, ([] : List (List Int × Int)), x2, (x74, x77), (([] : List Int) ++ x3), x2, y51.2.2.2.2.2.2.2.2.2.2.2.2.2.2.2.2)) fun (y80 : Bool) =>
  (bif (!y80) then
  some ((false, 0, ([], 0), 0, 0, 0, 0, 0, 0, 0, [], [], 0, ([], 0), [], 0, ([], 0)), false)
  else
  some ((y51.1, y51.2.1, (y42.1, y49), y51.2.2.2.1, y51.2.2.2.2.1, y51.2.2.2.2.2.1, y51.2.2.2.2.2.2.1, y51.2.2.2.2.2.2.2.1, y51.2.2.2.2.2.2.2.2.1, y51.2.2.2.2.2.2.2.2.2.1, y51.2.2.2.2.2.2.2.2.2.2.1, [], x2, (x74, x77), (([] : List Int) ++ x3), x2, y51.2.2.2.2.2.2.2.2.2.2.2.2.2.2.2.2), true)))) fun j78 =>
  (bif (decide (x0.2.2.2.2.2.2.2.2.2.2.2.2.1 = 0)) then
  (bindO (M_s_l15Line x0.2.2.2.2.2.2.2.2.2.2.2.2.2.2.2.2) fun (y69 : List Int × Int) =>
  j78 (y69.1, y69.2))
  else
  j78 (y51.2.2.2.2.2.2.2.2.2.2.2.2.2.1.1, y51.2.2.2.2.2.2.2.2.2.2.2.2.2.1.2))))))))))))

theorem ok_s_ShowHit (x0 : Bool × Int × (List Int × Int) × Int × Int × Int × Int × Int × Int × Int × List (List Int) × (List (List Int × Int)) × Int × (List Int × Int) × List Int × Int × List Int × Int) (x1 : Int × List (List UInt8)) (x2 : Int) (x3 : List Int) (a5 : Option Addr) (c6 : Nat) (l7 : Nat) (hl8 : x0.2.2.1.1.length = l7) (a9 : Option Addr) (c10 : Nat) (l11 : Nat) (hl12 : x0.2.2.2.2.2.2.2.2.2.2.1.length = l11) (a13 : Option Addr) (c14 : Nat) (l15 : Nat) (hl16 : x0.2.2.2.2.2.2.2.2.2.2.2.1.length = l15) (a17 : Option Addr) (c18 : Nat) (l19 : Nat) (hl20 : x0.2.2.2.2.2.2.2.2.2.2.2.2.2.1.1.length = l19) (a21 : Option Addr) (c22 : Nat) (l23 : Nat) (hl24 : x0.2.2.2.2.2.2.2.2.2.2.2.2.2.2.1.length = l23) (a25 : Option Addr) (c26 : Nat) (l27 : Nat) (hl28 : x0.2.2.2.2.2.2.2.2.2.2.2.2.2.2.2.2.1.length = l27) (a29 : Option Addr) (c30 : Nat) (l31 : Nat) (hl32 : x1.2.length = l31) (a33 : Option Addr) (c34 : Nat) (l35 : Nat) (hl36 : x3.length = l35) (r : (Bool × Int × (List Int × Int) × Int × Int × Int × Int × Int × Int × Int × List (List Int) × (List (List Int × Int)) × Int × (List Int × Int) × List Int × Int × List Int × Int) × Bool) (h : M_s_ShowHit x0 x1 x2 x3 = some r) :
    FC Tryz.prog 12 [.agg #[.bool x0.1, .int .i64 x0.2.1, .slice a5 l7 c6, .int .i64 x0.2.2.1.2, .int .i64 x0.2.2.2.1, .int .i64 x0.2.2.2.2.1, .int .i64 x0.2.2.2.2.2.1, .int .i64 x0.2.2.2.2.2.2.1, .int .i64 x0.2.2.2.2.2.2.2.1, .int .i64 x0.2.2.2.2.2.2.2.2.1, .int .i64 x0.2.2.2.2.2.2.2.2.2.1, .slice a9 l11 c10, .slice a13 l15 c14, .int .i64 x0.2.2.2.2.2.2.2.2.2.2.2.2.1, .slice a17 l19 c18, .int .i64 x0.2.2.2.2.2.2.2.2.2.2.2.2.2.1.2, .slice a21 l23 c22, .int .i64 x0.2.2.2.2.2.2.2.2.2.2.2.2.2.2.2.1, .slice a25 l27 c26, .int .i64 x0.2.2.2.2.2.2.2.2.2.2.2.2.2.2.2.2.2], .agg #[.int .i64 x1.1, .slice a29 l31 c30], .int .i64 x2, .slice a33 l35 c34] [⟨(.int .i64), ⟨a5, l7, c6⟩, x0.2.2.1.1⟩, ⟨(.sl (.int .i64)), ⟨a9, l11, c10⟩, x0.2.2.2.2.2.2.2.2.2.2.1⟩, ⟨(.pair (.sl (.int .i64)) (.int .i64)), ⟨a13, l15, c14⟩, x0.2.2.2.2.2.2.2.2.2.2.2.1⟩, ⟨(.int .i64), ⟨a17, l19, c18⟩, x0.2.2.2.2.2.2.2.2.2.2.2.2.2.1.1⟩, ⟨(.int .i64), ⟨a21, l23, c22⟩, x0.2.2.2.2.2.2.2.2.2.2.2.2.2.2.1⟩, ⟨(.int .i64), ⟨a25, l27, c26⟩, x0.2.2.2.2.2.2.2.2.2.2.2.2.2.2.2.2.1⟩, ⟨.str, ⟨a29, l31, c30⟩, x1.2⟩, ⟨(.int .i64), ⟨a33, l35, c34⟩, x3⟩] (fun _ : Option Addr × Nat × Option Addr × Nat × Option Addr × Nat × Option Addr × Nat × Option Addr × Nat => True) (fun q => .tuple #[.agg (cl46 (r.1.1, r.1.2.1, r.1.2.2.1, r.1.2.2.2.1, r.1.2.2.2.2.1, r.1.2.2.2.2.2.1, r.1.2.2.2.2.2.2.1, r.1.2.2.2.2.2.2.2.1, r.1.2.2.2.2.2.2.2.2.1, r.1.2.2.2.2.2.2.2.2.2.1, r.1.2.2.2.2.2.2.2.2.2.2.1, [], r.1.2.2.2.2.2.2.2.2.2.2.2.2.1, r.1.2.2.2.2.2.2.2.2.2.2.2.2.2.1, r.1.2.2.2.2.2.2.2.2.2.2.2.2.2.2.1, r.1.2.2.2.2.2.2.2.2.2.2.2.2.2.2.2.1, r.1.2.2.2.2.2.2.2.2.2.2.2.2.2.2.2.2) q.1 q.2.1 q.2.2.1 q.2.2.2.1 none 0 q.2.2.2.2.1 q.2.2.2.2.2.1 q.2.2.2.2.2.2.1 q.2.2.2.2.2.2.2.1 q.2.2.2.2.2.2.2.2.1 q.2.2.2.2.2.2.2.2.2).toArray, .bool r.2]) (fun q => [⟨(.int .i64), ⟨q.1, r.1.2.2.1.1.length, q.2.1⟩, r.1.2.2.1.1⟩, ⟨(.sl (.int .i64)), ⟨q.2.2.1, r.1.2.2.2.2.2.2.2.2.2.2.1.length, q.2.2.2.1⟩, r.1.2.2.2.2.2.2.2.2.2.2.1⟩, ⟨(.int .i64), ⟨q.2.2.2.2.1, r.1.2.2.2.2.2.2.2.2.2.2.2.2.2.1.1.length, q.2.2.2.2.2.1⟩, r.1.2.2.2.2.2.2.2.2.2.2.2.2.2.1.1⟩, ⟨(.int .i64), ⟨q.2.2.2.2.2.2.1, r.1.2.2.2.2.2.2.2.2.2.2.2.2.2.2.1.length, q.2.2.2.2.2.2.2.1⟩, r.1.2.2.2.2.2.2.2.2.2.2.2.2.2.2.1⟩, ⟨(.int .i64), ⟨q.2.2.2.2.2.2.2.2.1, r.1.2.2.2.2.2.2.2.2.2.2.2.2.2.2.2.2.1.length, q.2.2.2.2.2.2.2.2.2⟩, r.1.2.2.2.2.2.2.2.2.2.2.2.2.2.2.2.2.1⟩]) :=
  by
    subst hl8
    subst hl12
    subst hl16
    subst hl20
    subst hl24
    subst hl28
    subst hl32
    subst hl36
    refine FC.of (T := TTx) Tryz.call12 Tryz.func12 rfl rfl fun w0 => ?_
    unfold M_s_ShowHit at h
    refine JS.rgB ttOk 4 [] [9, 10, 11] [(4, .bp 9 0), (5, .bp 10 0), (8, .bp 11 0)] (.new 9 46 (cl46 x0 a5 c6 a9 c10 a13 c14 a17 c18 a21 c22 a25 c26) (.new 10 50 [.int .i64 x1.1, .slice a29 x1.2.length c30] (.new 11 46 (cl46 (false, 0, ([], 0), 0, 0, 0, 0, 0, 0, 0, [], [], 0, ([], 0), [], 0, ([], 0)) none 0 none 0 none 0 none 0 none 0 none 0) .nil))) ⟨(Es rfl), (Bs rfl rfl)⟩ rfl rfl (JS.seq (JS.seq (JS.region (JO.reg ttOk 1 [] [] [(16, .v (.agg (cl46 x0 a5 c6 a9 c10 a13 c14 a17 c18 a21 c22 a25 c26).toArray))] _ rfl ⟨⟨rfl, trivial⟩, rfl⟩ ?_))))
    obtain ⟨y37, hy38, h⟩ := bindO_some h
    refine JO.call rfl rfl rfl rfl (ok_s_EdOk x0 a5 c6 x0.2.2.1.1.length rfl a9 c10 x0.2.2.2.2.2.2.2.2.2.2.1.length rfl a13 c14 x0.2.2.2.2.2.2.2.2.2.2.2.1.length rfl a17 c18 x0.2.2.2.2.2.2.2.2.2.2.2.2.2.1.1.length rfl a21 c22 x0.2.2.2.2.2.2.2.2.2.2.2.2.2.2.1.length rfl a25 c26 x0.2.2.2.2.2.2.2.2.2.2.2.2.2.2.2.2.1.length rfl _ hy38) rfl [0, 1, 2, 3, 4, 5] rfl rfl fun _ _ => JO.reg ttOk 6 [] [] [(23, .v (.bool (bif (!y37) then true else (!(decide (x0.2.1 = 3))))))] _ rfl ⟨⟨rfl, trivial⟩, rfl⟩ (JO.done rfl ?_)
    refine JS.cond rfl (fun ht90 => ?_) (fun ht90 => ?_)
    · have h := condT h ht90
      refine JS.rgB ttOk 3 [] [] [(9, .v (.bool false))] (.new 11 46 (cl46 (false, 0, ([], 0), 0, 0, 0, 0, 0, 0, 0, [], [], 0, ([], 0), [], 0, ([], 0)) none 0 none 0 none 0 none 0 none 0 none 0) .nil) ⟨⟨rfl, trivial⟩, (Bs rfl rfl)⟩ rfl rfl ?_
      cases h
      refine JS.nilO (.int .i64) Sl.nil rfl rfl (JS.nilO (.sl (.int .i64)) Sl.nil rfl rfl (JS.nilO (.int .i64) Sl.nil rfl rfl (JS.nilO (.int .i64) Sl.nil rfl rfl (JS.nilO (.int .i64) Sl.nil rfl rfl (JS.ret ttOk (none, 0, none, 0, none, 0, none, 0, none, 0) trivial rfl rfl [4, 3, 2, 1, 0] rfl)))))
    have h := condF h ht90
    refine JS.skip (JS.seq (JS.region (JO.reg ttOk 2 [] [] [(26, .v (.agg #[.int .i64 x1.1, .slice a29 x1.2.length c30])), (27, .v (.int .i64 x2))] _ rfl ⟨(Es rfl), rfl⟩ ?_)))
    obtain ⟨⟨y39, y40⟩, hy41, h⟩ := bindO_some h
    refine JO.call rfl rfl rfl rfl (ok_s_HistGet x1 x2 a29 c30 x1.2.length rfl _ hy41) rfl [6] rfl rfl fun _ _ => JO.reg ttOk 5 [] [] [(10, .v (.string (bs y39))), (11, .v (.bool y40))] _ rfl ⟨(Es rfl), rfl⟩ (JO.done rfl (JS.seq (JS.region (JO.reg ttOk 1 [] [] [(32, .v (.string (bs y39)))] _ rfl ⟨⟨rfl, trivial⟩, rfl⟩ ?_))))
    obtain ⟨⟨y42, y43⟩, hy44, h⟩ := bindO_some h
    refine JO.call rfl rfl rfl rfl (ok_s_LineOf y39 _ hy44) rfl [] rfl rfl ?_
    rintro ⟨a45, c46⟩ -
    refine JO.regB ttOk 6 [] [23] [(12, .bp 23 0), (13, .v (.bool y43))] (.new 9 46 (cl46 x0 a5 c6 a9 c10 a13 c14 a17 c18 a21 c22 a25 c26) (.new 11 46 (cl46 (false, 0, ([], 0), 0, 0, 0, 0, 0, 0, 0, [], [], 0, ([], 0), [], 0, ([], 0)) none 0 none 0 none 0 none 0 none 0 none 0) (.new 23 38 [.slice a45 y42.1.length c46, .int .i64 y42.2] .nil))) rfl ⟨(Es rfl), (Bs rfl rfl)⟩ (JO.done rfl (JS.seq (JS.region (JO.reg ttOk 2 [] [] [(36, .v (.string (bs y39))), (37, .v (.slice a33 x3.length c34))] _ rfl ⟨(Es rfl), rfl⟩ ?_))))
    obtain ⟨y47, hy48, h⟩ := bindO_some h
    refine JO.call rfl rfl rfl rfl (ok_s_TextOf x3 a33 c34 x3.length rfl _ hy48) rfl [7] rfl rfl fun _ _ => ?_
    obtain ⟨y49, hy50, h⟩ := bindO_some h
    refine JO.call rfl rfl rfl rfl (ok_s_l25Runes y39 y47 _ hy50) rfl [] rfl rfl fun _ _ => JO.reg ttOk 1 [] [] [(14, .v (.int .i64 y49))] _ rfl ⟨⟨rfl, trivial⟩, rfl⟩ (JO.done rfl (JS.seq (JS.rg0 ttOk 10 [(49, .v (.bool (bif (bif (!y40) then true else (!y43)) then true else (decide (y49 < 0)))))] ⟨⟨rfl, trivial⟩, rfl⟩ rfl rfl ?_)))
    refine JS.cond rfl (fun ht89 => ?_) (fun ht89 => ?_)
    · have h := condT h ht89
      refine JS.rgB ttOk 3 [] [] [(9, .v (.bool false))] (.new 11 46 (cl46 (false, 0, ([], 0), 0, 0, 0, 0, 0, 0, 0, [], [], 0, ([], 0), [], 0, ([], 0)) none 0 none 0 none 0 none 0 none 0 none 0) .nil) ⟨⟨rfl, trivial⟩, (Bs rfl rfl)⟩ rfl rfl ?_
      cases h
      refine JS.nilO (.int .i64) Sl.nil rfl rfl (JS.nilO (.sl (.int .i64)) Sl.nil rfl rfl (JS.nilO (.int .i64) Sl.nil rfl rfl (JS.nilO (.int .i64) Sl.nil rfl rfl (JS.nilO (.int .i64) Sl.nil rfl rfl (JS.ret ttOk (none, 0, none, 0, none, 0, none, 0, none, 0) trivial rfl rfl [4, 3, 2, 1, 0] rfl)))))
    have h := condF h ht89
    refine JS.skip (JS.seq (JS.region (JO.reg ttOk 1 [] [] [(51, .v (.agg (cl46 x0 a5 c6 a9 c10 a13 c14 a17 c18 a21 c22 a25 c26).toArray))] _ rfl ⟨⟨rfl, trivial⟩, rfl⟩ ?_)))
    obtain ⟨y51, hy52, h⟩ := bindO_some h
    refine JO.call rfl rfl rfl rfl (ok_s_l21Copy x0 a5 c6 x0.2.2.1.1.length rfl a9 c10 x0.2.2.2.2.2.2.2.2.2.2.1.length rfl a13 c14 x0.2.2.2.2.2.2.2.2.2.2.2.1.length rfl a17 c18 x0.2.2.2.2.2.2.2.2.2.2.2.2.2.1.1.length rfl a21 c22 x0.2.2.2.2.2.2.2.2.2.2.2.2.2.2.1.length rfl a25 c26 x0.2.2.2.2.2.2.2.2.2.2.2.2.2.2.2.2.1.length rfl _ hy52) rfl [0, 1, 2, 3, 4, 5] rfl rfl ?_
    rintro ⟨a53, c54, a55, c56, a57, c58, a59, c60, a61, c62, a63, c64⟩ -
    refine JO.regB ttOk 2 [] [48] [(15, .bp 48 0)] (.new 9 46 (cl46 x0 a5 c6 a9 c10 a13 c14 a17 c18 a21 c22 a25 c26) (.new 11 46 (cl46 (false, 0, ([], 0), 0, 0, 0, 0, 0, 0, 0, [], [], 0, ([], 0), [], 0, ([], 0)) none 0 none 0 none 0 none 0 none 0 none 0) (.new 23 38 [.slice a45 y42.1.length c46, .int .i64 y42.2] (.new 48 46 (cl46 y51 a53 c54 a55 c56 a57 c58 a59 c60 a61 c62 a63 c64) .nil)))) rfl ⟨⟨rfl, trivial⟩, (Bs rfl rfl)⟩ (JO.done rfl (JS.rgB ttOk 3 [] [] [] (.new 9 46 (cl46 x0 a5 c6 a9 c10 a13 c14 a17 c18 a21 c22 a25 c26) (.new 11 46 (cl46 (false, 0, ([], 0), 0, 0, 0, 0, 0, 0, 0, [], [], 0, ([], 0), [], 0, ([], 0)) none 0 none 0 none 0 none 0 none 0 none 0) (.new 23 38 [.slice a45 y42.1.length c46, .int .i64 y49] (.new 48 46 (cl46 y51 a53 c54 a55 c56 a57 c58 a59 c60 a61 c62 a63 c64) .nil)))) ⟨trivial, (Bs rfl rfl)⟩ rfl rfl (JS.rgB ttOk 3 [] [] [] (.new 9 46 (cl46 x0 a5 c6 a9 c10 a13 c14 a17 c18 a21 c22 a25 c26) (.new 11 46 (cl46 (false, 0, ([], 0), 0, 0, 0, 0, 0, 0, 0, [], [], 0, ([], 0), [], 0, ([], 0)) none 0 none 0 none 0 none 0 none 0 none 0) (.new 48 46 (cl46 (y51.1, y51.2.1, (y42.1, y49), y51.2.2.2.1, y51.2.2.2.2.1, y51.2.2.2.2.2.1, y51.2.2.2.2.2.2.1, y51.2.2.2.2.2.2.2.1, y51.2.2.2.2.2.2.2.2.1, y51.2.2.2.2.2.2.2.2.2.1, y51.2.2.2.2.2.2.2.2.2.2.1, y51.2.2.2.2.2.2.2.2.2.2.2.1, y51.2.2.2.2.2.2.2.2.2.2.2.2.1, y51.2.2.2.2.2.2.2.2.2.2.2.2.2.1, y51.2.2.2.2.2.2.2.2.2.2.2.2.2.2.1, y51.2.2.2.2.2.2.2.2.2.2.2.2.2.2.2.1, y51.2.2.2.2.2.2.2.2.2.2.2.2.2.2.2.2) a45 c46 a55 c56 a57 c58 a59 c60 a61 c62 a63 c64) .nil))) ⟨trivial, (Bs rfl rfl)⟩ rfl rfl (JS.seq (JS.region ?_)))))
    refine JO.ofK rfl (JK.buildSlice ttOk rfl rfl rfl rfl rfl rfl rfl rfl rfl rfl rfl [] rfl (.int .i64) [] ⟨rfl, rfl⟩ rfl rfl fun a65 => JO.toK ?_)
    refine JO.reg ttOk 1 [] [] [(58, .v (.slice a33 x3.length c34))] _ rfl ⟨⟨rfl, trivial⟩, rfl⟩ ?_
    obtain ⟨g66, h⟩ := guardO_some h
    refine JO.appendR' ttOk rfl rfl rfl rfl ⟨rfl, rfl, rfl, rfl, trivial, rfl, rfl, rfl, rfl⟩ rfl rfl rfl [0] rfl 7 rfl g66 rfl fun a67 c68 => JO.regB ttOk 2 [] [] [] (.new 9 46 (cl46 x0 a5 c6 a9 c10 a13 c14 a17 c18 a21 c22 a25 c26) (.new 11 46 (cl46 (false, 0, ([], 0), 0, 0, 0, 0, 0, 0, 0, [], [], 0, ([], 0), [], 0, ([], 0)) none 0 none 0 none 0 none 0 none 0 none 0) (.new 48 46 (cl46 (y51.1, y51.2.1, (y42.1, y49), y51.2.2.2.1, y51.2.2.2.2.1, y51.2.2.2.2.2.1, y51.2.2.2.2.2.2.1, y51.2.2.2.2.2.2.2.1, y51.2.2.2.2.2.2.2.2.1, y51.2.2.2.2.2.2.2.2.2.1, y51.2.2.2.2.2.2.2.2.2.2.1, y51.2.2.2.2.2.2.2.2.2.2.2.1, y51.2.2.2.2.2.2.2.2.2.2.2.2.1, y51.2.2.2.2.2.2.2.2.2.2.2.2.2.1, (([] : List Int) ++ x3), y51.2.2.2.2.2.2.2.2.2.2.2.2.2.2.2.1, y51.2.2.2.2.2.2.2.2.2.2.2.2.2.2.2.2) a45 c46 a55 c56 a57 c58 a59 c60 a67 c68 a63 c64) .nil))) rfl ⟨trivial, (Bs rfl rfl)⟩ (JO.done rfl (JS.rgB ttOk 3 [] [] [] (.new 9 46 (cl46 x0 a5 c6 a9 c10 a13 c14 a17 c18 a21 c22 a25 c26) (.new 11 46 (cl46 (false, 0, ([], 0), 0, 0, 0, 0, 0, 0, 0, [], [], 0, ([], 0), [], 0, ([], 0)) none 0 none 0 none 0 none 0 none 0 none 0) (.new 48 46 (cl46 (y51.1, y51.2.1, (y42.1, y49), y51.2.2.2.1, y51.2.2.2.2.1, y51.2.2.2.2.2.1, y51.2.2.2.2.2.2.1, y51.2.2.2.2.2.2.2.1, y51.2.2.2.2.2.2.2.2.1, y51.2.2.2.2.2.2.2.2.2.1, y51.2.2.2.2.2.2.2.2.2.2.1, y51.2.2.2.2.2.2.2.2.2.2.2.1, y51.2.2.2.2.2.2.2.2.2.2.2.2.1, y51.2.2.2.2.2.2.2.2.2.2.2.2.2.1, (([] : List Int) ++ x3), x2, y51.2.2.2.2.2.2.2.2.2.2.2.2.2.2.2.2) a45 c46 a55 c56 a57 c58 a59 c60 a67 c68 a63 c64) .nil))) ⟨trivial, (Bs rfl rfl)⟩ rfl rfl ?_))
    obtain ⟨j78, hj88, h⟩ := joinO_some h
    refine JS.seqJ (ι := List Int × Int × Option Addr × Nat) ⟨fun z => j78 (z.1, z.2.1) = some r, fun z => [(2, .v (.int .i64 x2)), (8, .bp 11 0), (15, .bp 48 0)], fun z => (.new 11 46 (cl46 (false, 0, ([], 0), 0, 0, 0, 0, 0, 0, 0, [], [], 0, ([], 0), [], 0, ([], 0)) none 0 none 0 none 0 none 0 none 0 none 0) (.new 48 46 (cl46 (y51.1, y51.2.1, (y42.1, y49), y51.2.2.2.1, y51.2.2.2.2.1, y51.2.2.2.2.2.1, y51.2.2.2.2.2.2.1, y51.2.2.2.2.2.2.2.1, y51.2.2.2.2.2.2.2.2.1, y51.2.2.2.2.2.2.2.2.2.1, y51.2.2.2.2.2.2.2.2.2.2.1, y51.2.2.2.2.2.2.2.2.2.2.2.1, y51.2.2.2.2.2.2.2.2.2.2.2.2.1, (z.1, z.2.1), (([] : List Int) ++ x3), x2, y51.2.2.2.2.2.2.2.2.2.2.2.2.2.2.2.2) a45 c46 a55 c56 a57 c58 z.2.2.1 z.2.2.2 a67 c68 a63 c64) .nil)), fun z => [], fun z => [⟨(.int .i64), ⟨z.2.2.1, z.1.length, z.2.2.2⟩, z.1⟩, ⟨(.int .i64), ⟨a45, y42.1.length, c46⟩, y42.1⟩, ⟨(.sl (.int .i64)), ⟨a55, y51.2.2.2.2.2.2.2.2.2.2.1.length, c56⟩, y51.2.2.2.2.2.2.2.2.2.2.1⟩, ⟨(.pair (.sl (.int .i64)) (.int .i64)), ⟨a57, y51.2.2.2.2.2.2.2.2.2.2.2.1.length, c58⟩, y51.2.2.2.2.2.2.2.2.2.2.2.1⟩, ⟨(.int .i64), ⟨a67, (([] : List Int) ++ x3).length, c68⟩, (([] : List Int) ++ x3)⟩, ⟨(.int .i64), ⟨a63, y51.2.2.2.2.2.2.2.2.2.2.2.2.2.2.2.2.1.length, c64⟩, y51.2.2.2.2.2.2.2.2.2.2.2.2.2.2.2.2.1⟩], fun z => 0⟩ ?_ ?_
    · refine JS.rg0 ttOk 3 [(65, .v (.bool (decide (x0.2.2.2.2.2.2.2.2.2.2.2.2.1 = 0))))] ⟨⟨rfl, trivial⟩, rfl⟩ rfl rfl ?_
      refine JS.cond rfl (fun ht86 => ?_) (fun ht86 => ?_)
      · have h := condT h ht86
        refine JS.region (JO.reg ttOk 2 [] [] [(67, .v (.agg #[.slice a25 x0.2.2.2.2.2.2.2.2.2.2.2.2.2.2.2.2.1.length c26, .int .i64 x0.2.2.2.2.2.2.2.2.2.2.2.2.2.2.2.2.2]))] _ rfl ⟨⟨rfl, trivial⟩, rfl⟩ ?_)
        obtain ⟨y69, hy70, h⟩ := bindO_some h
        refine JO.call rfl rfl rfl rfl (ok_s_l15Line x0.2.2.2.2.2.2.2.2.2.2.2.2.2.2.2.2 a25 c26 x0.2.2.2.2.2.2.2.2.2.2.2.2.2.2.2.2.1.length rfl _ hy70) rfl [5] rfl rfl ?_
        rintro ⟨a71, c72⟩ -
        refine JO.regB ttOk 2 [] [] [] (.new 11 46 (cl46 (false, 0, ([], 0), 0, 0, 0, 0, 0, 0, 0, [], [], 0, ([], 0), [], 0, ([], 0)) none 0 none 0 none 0 none 0 none 0 none 0) (.new 48 46 (cl46 (y51.1, y51.2.1, (y42.1, y49), y51.2.2.2.1, y51.2.2.2.2.1, y51.2.2.2.2.2.1, y51.2.2.2.2.2.2.1, y51.2.2.2.2.2.2.2.1, y51.2.2.2.2.2.2.2.2.1, y51.2.2.2.2.2.2.2.2.2.1, y51.2.2.2.2.2.2.2.2.2.2.1, y51.2.2.2.2.2.2.2.2.2.2.2.1, y51.2.2.2.2.2.2.2.2.2.2.2.2.1, y69, (([] : List Int) ++ x3), x2, y51.2.2.2.2.2.2.2.2.2.2.2.2.2.2.2.2) a45 c46 a55 c56 a57 c58 a71 c72 a67 c68 a63 c64) .nil)) rfl ⟨trivial, (Bs rfl rfl)⟩ (JO.done rfl (JS.endJA (y69.1, y69.2, a71, c72) h (Es rfl) (Bs rfl rfl) [] rfl [0, 8, 3, 4, 1, 7] rfl rfl))
      have h := condF h ht86
      refine JS.skip (JS.endJA (y51.2.2.2.2.2.2.2.2.2.2.2.2.2.1.1, y51.2.2.2.2.2.2.2.2.2.2.2.2.2.1.2, a59, c60) h (Es rfl) (Bs rfl rfl) [] rfl [4, 7, 2, 3, 0, 6] rfl rfl)
    rintro ⟨x74, x77, a75, c76⟩ h
    subst hj88
    refine JS.rgB ttOk 3 [] [] [] (.new 11 46 (cl46 (false, 0, ([], 0), 0, 0, 0, 0, 0, 0, 0, [], [], 0, ([], 0), [], 0, ([], 0)) none 0 none 0 none 0 none 0 none 0 none 0) (.new 48 46 (cl46 (y51.1, y51.2.1, (y42.1, y49), y51.2.2.2.1, y51.2.2.2.2.1, y51.2.2.2.2.2.1, y51.2.2.2.2.2.2.1, y51.2.2.2.2.2.2.2.1, y51.2.2.2.2.2.2.2.2.1, y51.2.2.2.2.2.2.2.2.2.1, y51.2.2.2.2.2.2.2.2.2.2.1, y51.2.2.2.2.2.2.2.2.2.2.2.1, x2, (x74, x77), (([] : List Int) ++ x3), x2, y51.2.2.2.2.2.2.2.2.2.2.2.2.2.2.2.2) a45 c46 a55 c56 a57 c58 a75 c76 a67 c68 a63 c64) .nil)) ⟨trivial, (Bs rfl rfl)⟩ rfl rfl (JS.rgB ttOk 3 [] [] [] (.new 11 46 (cl46 (false, 0, ([], 0), 0, 0, 0, 0, 0, 0, 0, [], [], 0, ([], 0), [], 0, ([], 0)) none 0 none 0 none 0 none 0 none 0 none 0) (.new 48 46 (cl46 (y51.1, y51.2.1, (y42.1, y49), y51.2.2.2.1, y51.2.2.2.2.1, y51.2.2.2.2.2.1, y51.2.2.2.2.2.2.1, y51.2.2.2.2.2.2.2.1, y51.2.2.2.2.2.2.2.2.1, y51.2.2.2.2.2.2.2.2.2.1, y51.2.2.2.2.2.2.2.2.2.2.1, [], x2, (x74, x77), (([] : List Int) ++ x3), x2, y51.2.2.2.2.2.2.2.2.2.2.2.2.2.2.2.2) a45 c46 a55 c56 none 0 a75 c76 a67 c68 a63 c64) .nil)) ⟨trivial, (Bs rfl rfl)⟩ rfl rfl (JS.seq (JS.seq (JS.region (JO.reg ttOk 1 [] [] [(74, .v (.agg (cl46 (y51.1, y51.2.1, (y42.1, y49), y51.2.2.2.1, y51.2.2.2.2.1, y51.2.2.2.2.2.1, y51.2.2.2.2.2.2.1, y51.2.2.2.2.2.2.2.1, y51.2.2.2.2.2.2.2.2.1, y51.2.2.2.2.2.2.2.2.2.1, y51.2.2.2.2.2.2.2.2.2.2.1, [], x2, (x74, x77), (([] : List Int) ++ x3), x2, y51.2.2.2.2.2.2.2.2.2.2.2.2.2.2.2.2) a45 c46 a55 c56 none 0 a75 c76 a67 c68 a63 c64).toArray))] _ rfl ⟨⟨rfl, trivial⟩, rfl⟩ ?_)))))
    obtain ⟨y80, hy81, h⟩ := bindO_some h
    refine JO.nilR (.pair (.sl (.int .i64)) (.int .i64)) Sl.nil rfl rfl (JO.call rfl rfl rfl rfl (ok_s_EdOk (y51.1, y51.2.1, (y42.1, y49), y51.2.2.2.1, y51.2.2.2.2.1, y51.2.2.2.2.2.1, y51.2.2.2.2.2.2.1, y51.2.2.2.2.2.2.2.1, y51.2.2.2.2.2.2.2.2.1, y51.2.2.2.2.2.2.2.2.2.1, y51.2.2.2.2.2.2.2.2.2.2.1, ([] : List (List Int × Int)), x2, (x74, x77), (([] : List Int) ++ x3), x2, y51.2.2.2.2.2.2.2.2.2.2.2.2.2.2.2.2) a45 c46 y42.1.length rfl a55 c56 y51.2.2.2.2.2.2.2.2.2.2.1.length rfl none 0 (([] : List (List Int × Int)).length) rfl a75 c76 x74.length rfl a67 c68 ((([] : List Int) ++ x3).length) rfl a63 c64 y51.2.2.2.2.2.2.2.2.2.2.2.2.2.2.2.2.1.length rfl _ hy81) rfl [2, 3, 0, 1, 5, 6] rfl rfl fun _ _ => JO.reg ttOk 1 [] [] [(76, .v (.bool (!y80)))] _ rfl ⟨⟨rfl, trivial⟩, rfl⟩ (JO.done rfl ?_))
    refine JS.cond rfl (fun ht87 => ?_) (fun ht87 => ?_)
    · have h := condT h ht87
      refine JS.rgB ttOk 3 [] [] [(9, .v (.bool false))] (.new 11 46 (cl46 (false, 0, ([], 0), 0, 0, 0, 0, 0, 0, 0, [], [], 0, ([], 0), [], 0, ([], 0)) none 0 none 0 none 0 none 0 none 0 none 0) .nil) ⟨⟨rfl, trivial⟩, (Bs rfl rfl)⟩ rfl rfl ?_
      cases h
      refine JS.nilO (.int .i64) Sl.nil rfl rfl (JS.nilO (.sl (.int .i64)) Sl.nil rfl rfl (JS.nilO (.int .i64) Sl.nil rfl rfl (JS.nilO (.int .i64) Sl.nil rfl rfl (JS.nilO (.int .i64) Sl.nil rfl rfl (JS.ret ttOk (none, 0, none, 0, none, 0, none, 0, none, 0) trivial rfl rfl [4, 3, 2, 1, 0] rfl)))))
    have h := condF h ht87
    refine JS.skip (JS.rgB ttOk 3 [] [] [(9, .v (.bool true))] (.new 11 46 (cl46 (y51.1, y51.2.1, (y42.1, y49), y51.2.2.2.1, y51.2.2.2.2.1, y51.2.2.2.2.2.1, y51.2.2.2.2.2.2.1, y51.2.2.2.2.2.2.2.1, y51.2.2.2.2.2.2.2.2.1, y51.2.2.2.2.2.2.2.2.2.1, y51.2.2.2.2.2.2.2.2.2.2.1, [], x2, (x74, x77), (([] : List Int) ++ x3), x2, y51.2.2.2.2.2.2.2.2.2.2.2.2.2.2.2.2) a45 c46 a55 c56 none 0 a75 c76 a67 c68 a63 c64) .nil) ⟨⟨rfl, trivial⟩, (Bs rfl rfl)⟩ rfl rfl ?_)
    cases h
    exact JS.ret ttOk (a45, c46, a55, c56, a75, c76, a67, c68, a63, c64) trivial rfl rfl [1, 1, 0, 1, 1] rfl

def M_s_l25Find (x0 : Bool × Int × (List Int × Int) × Int × Int × Int × Int × Int × Int × Int × List (List Int) × (List (List Int × Int)) × Int × (List Int × Int) × List Int × Int × List Int × Int) (x1 : Int × List (List UInt8)) (x2 : List Int) (x3 : Int) : Option ((Bool × Int × (List Int × Int) × Int × Int × Int × Int × Int × Int × Int × List (List Int) × (List (List Int × Int)) × Int × (List Int × Int) × List Int × Int × List Int × Int) × Int) :=
  (joinO (fun ((x55, x56, x57, x58, x61, x62, x63, x64, x65, x66, x67, x68, x69, x72, x73, x76, x77, x80, x81, x84) : Bool × Bool × Int × List Int × Int × Int × Int × Int × Int × Int × Int × Int × List (List Int) × Int × List Int × Int × List Int × Int × List Int × Int) =>
  (bif (!x55) then
  (bindO (M_s_l21Copy x0) fun (y86 : Bool × Int × (List Int × Int) × Int × Int × Int × Int × Int × Int × Int × List (List Int) × (List (List Int × Int)) × Int × (List Int × Int) × List Int × Int × List Int × Int) =>
  some (y86, 1))
  else
  some ((x56, x57, (x58, x61), x62, x63, x64, x65, x66, x67, x68, x69, [], x72, (x73, x76), x77, x80, (x81, x84)), 0))) fun j85 =>
  (bindO (M_s_TextOf x2) fun (y37 : List UInt8) =>
  (bindO (M_s_HistFind x1 y37 x3 (-1) false) fun (y39 : Int) =>
  (bindO (M_s_ShowHit x0 x1 y39 x2) fun (y41, y42) =>
  j85 (y42, y41.1, y41.2.1, y41.2.2.1.1, y41.2.2.1.2, y41.2.2.2.1, y41.2.2.2.2.1, y41.2.2.2.2.2.1, y41.2.2.2.2.2.2.1, y41.2.2.2.2.2.2.2.1, y41.2.2.2.2.2.2.2.2.1, y41.2.2.2.2.2.2.2.2.2.1, y41.2.2.2.2.2.2.2.2.2.2.1, y41.2.2.2.2.2.2.2.2.2.2.2.2.1, y41.2.2.2.2.2.2.2.2.2.2.2.2.2.1.1, y41.2.2.2.2.2.2.2.2.2.2.2.2.2.1.2, y41.2.2.2.2.2.2.2.2.2.2.2.2.2.2.1, y41.2.2.2.2.2.2.2.2.2.2.2.2.2.2.2.1, y41.2.2.2.2.2.2.2.2.2.2.2.2.2.2.2.2.1, y41.2.2.2.2.2.2.2.2.2.2.2.2.2.2.2.2.2)))))

theorem ok_s_l25Find (x0 : Bool × Int × (List Int × Int) × Int × Int × Int × Int × Int × Int × Int × List (List Int) × (List (List Int × Int)) × Int × (List Int × Int) × List Int × Int × List Int × Int) (x1 : Int × List (List UInt8)) (x2 : List Int) (x3 : Int) (a5 : Option Addr) (c6 : Nat) (l7 : Nat) (hl8 : x0.2.2.1.1.length = l7) (a9 : Option Addr) (c10 : Nat) (l11 : Nat) (hl12 : x0.2.2.2.2.2.2.2.2.2.2.1.length = l11) (a13 : Option Addr) (c14 : Nat) (l15 : Nat) (hl16 : x0.2.2.2.2.2.2.2.2.2.2.2.1.length = l15) (a17 : Option Addr) (c18 : Nat) (l19 : Nat) (hl20 : x0.2.2.2.2.2.2.2.2.2.2.2.2.2.1.1.length = l19) (a21 : Option Addr) (c22 : Nat) (l23 : Nat) (hl24 : x0.2.2.2.2.2.2.2.2.2.2.2.2.2.2.1.length = l23) (a25 : Option Addr) (c26 : Nat) (l27 : Nat) (hl28 : x0.2.2.2.2.2.2.2.2.2.2.2.2.2.2.2.2.1.length = l27) (a29 : Option Addr) (c30 : Nat) (l31 : Nat) (hl32 : x1.2.length = l31) (a33 : Option Addr) (c34 : Nat) (l35 : Nat) (hl36 : x2.length = l35) (r : (Bool × Int × (List Int × Int) × Int × Int × Int × Int × Int × Int × Int × List (List Int) × (List (List Int × Int)) × Int × (List Int × Int) × List Int × Int × List Int × Int) × Int) (h : M_s_l25Find x0 x1 x2 x3 = some r) :
    FC Tryz.prog 81 [.agg #[.bool x0.1, .int .i64 x0.2.1, .slice a5 l7 c6, .int .i64 x0.2.2.1.2, .int .i64 x0.2.2.2.1, .int .i64 x0.2.2.2.2.1, .int .i64 x0.2.2.2.2.2.1, .int .i64 x0.2.2.2.2.2.2.1, .int .i64 x0.2.2.2.2.2.2.2.1, .int .i64 x0.2.2.2.2.2.2.2.2.1, .int .i64 x0.2.2.2.2.2.2.2.2.2.1, .slice a9 l11 c10, .slice a13 l15 c14, .int .i64 x0.2.2.2.2.2.2.2.2.2.2.2.2.1, .slice a17 l19 c18, .int .i64 x0.2.2.2.2.2.2.2.2.2.2.2.2.2.1.2, .slice a21 l23 c22, .int .i64 x0.2.2.2.2.2.2.2.2.2.2.2.2.2.2.2.1, .slice a25 l27 c26, .int .i64 x0.2.2.2.2.2.2.2.2.2.2.2.2.2.2.2.2.2], .agg #[.int .i64 x1.1, .slice a29 l31 c30], .slice a33 l35 c34, .int .i64 x3] [⟨(.int .i64), ⟨a5, l7, c6⟩, x0.2.2.1.1⟩, ⟨(.sl (.int .i64)), ⟨a9, l11, c10⟩, x0.2.2.2.2.2.2.2.2.2.2.1⟩, ⟨(.pair (.sl (.int .i64)) (.int .i64)), ⟨a13, l15, c14⟩, x0.2.2.2.2.2.2.2.2.2.2.2.1⟩, ⟨(.int .i64), ⟨a17, l19, c18⟩, x0.2.2.2.2.2.2.2.2.2.2.2.2.2.1.1⟩, ⟨(.int .i64), ⟨a21, l23, c22⟩, x0.2.2.2.2.2.2.2.2.2.2.2.2.2.2.1⟩, ⟨(.int .i64), ⟨a25, l27, c26⟩, x0.2.2.2.2.2.2.2.2.2.2.2.2.2.2.2.2.1⟩, ⟨.str, ⟨a29, l31, c30⟩, x1.2⟩, ⟨(.int .i64), ⟨a33, l35, c34⟩, x2⟩] (fun _ : Option Addr × Nat × Option Addr × Nat × Option Addr × Nat × Option Addr × Nat × Option Addr × Nat × Option Addr × Nat => True) (fun q => .tuple #[.agg (cl46 r.1 q.1 q.2.1 q.2.2.1 q.2.2.2.1 q.2.2.2.2.1 q.2.2.2.2.2.1 q.2.2.2.2.2.2.1 q.2.2.2.2.2.2.2.1 q.2.2.2.2.2.2.2.2.1 q.2.2.2.2.2.2.2.2.2.1 q.2.2.2.2.2.2.2.2.2.2.1 q.2.2.2.2.2.2.2.2.2.2.2).toArray, .int .i64 r.2]) (fun q => [⟨(.int .i64), ⟨q.1, r.1.2.2.1.1.length, q.2.1⟩, r.1.2.2.1.1⟩, ⟨(.sl (.int .i64)), ⟨q.2.2.1, r.1.2.2.2.2.2.2.2.2.2.2.1.length, q.2.2.2.1⟩, r.1.2.2.2.2.2.2.2.2.2.2.1⟩, ⟨(.pair (.sl (.int .i64)) (.int .i64)), ⟨q.2.2.2.2.1, r.1.2.2.2.2.2.2.2.2.2.2.2.1.length, q.2.2.2.2.2.1⟩, r.1.2.2.2.2.2.2.2.2.2.2.2.1⟩, ⟨(.int .i64), ⟨q.2.2.2.2.2.2.1, r.1.2.2.2.2.2.2.2.2.2.2.2.2.2.1.1.length, q.2.2.2.2.2.2.2.1⟩, r.1.2.2.2.2.2.2.2.2.2.2.2.2.2.1.1⟩, ⟨(.int .i64), ⟨q.2.2.2.2.2.2.2.2.1, r.1.2.2.2.2.2.2.2.2.2.2.2.2.2.2.1.length, q.2.2.2.2.2.2.2.2.2.1⟩, r.1.2.2.2.2.2.2.2.2.2.2.2.2.2.2.1⟩, ⟨(.int .i64), ⟨q.2.2.2.2.2.2.2.2.2.2.1, r.1.2.2.2.2.2.2.2.2.2.2.2.2.2.2.2.2.1.length, q.2.2.2.2.2.2.2.2.2.2.2⟩, r.1.2.2.2.2.2.2.2.2.2.2.2.2.2.2.2.2.1⟩]) :=
  by
    subst hl8
    subst hl12
    subst hl16
    subst hl20
    subst hl24
    subst hl28
    subst hl32
    subst hl36
    refine FC.of (T := TTx) Tryz.call81 Tryz.func81 rfl rfl fun w0 => ?_
    unfold M_s_l25Find at h
    refine JS.rgB ttOk 4 [] [9, 10, 11] [(4, .bp 9 0), (5, .bp 10 0), (8, .bp 11 0)] (.new 9 46 (cl46 x0 a5 c6 a9 c10 a13 c14 a17 c18 a21 c22 a25 c26) (.new 10 50 [.int .i64 x1.1, .slice a29 x1.2.length c30] (.new 11 46 (cl46 (false, 0, ([], 0), 0, 0, 0, 0, 0, 0, 0, [], [], 0, ([], 0), [], 0, ([], 0)) none 0 none 0 none 0 none 0 none 0 none 0) .nil))) ⟨(Es rfl), (Bs rfl rfl)⟩ rfl rfl (JS.seq ?_)
    obtain ⟨j85, hj103, h⟩ := joinO_some h
    refine JS.cutJ (ι := Bool × Bool × Int × List Int × Int × Int × Int × Int × Int × Int × Int × Int × List (List Int) × Int × List Int × Int × List Int × Int × List Int × Int × Option Addr × Nat × Option Addr × Nat × Option Addr × Nat × Option Addr × Nat × Option Addr × Nat) ⟨fun z => j85 (z.1, z.2.1, z.2.2.1, z.2.2.2.1, z.2.2.2.2.1, z.2.2.2.2.2.1, z.2.2.2.2.2.2.1, z.2.2.2.2.2.2.2.1, z.2.2.2.2.2.2.2.2.1, z.2.2.2.2.2.2.2.2.2.1, z.2.2.2.2.2.2.2.2.2.2.1, z.2.2.2.2.2.2.2.2.2.2.2.1, z.2.2.2.2.2.2.2.2.2.2.2.2.1, z.2.2.2.2.2.2.2.2.2.2.2.2.2.1, z.2.2.2.2.2.2.2.2.2.2.2.2.2.2.1, z.2.2.2.2.2.2.2.2.2.2.2.2.2.2.2.1, z.2.2.2.2.2.2.2.2.2.2.2.2.2.2.2.2.1, z.2.2.2.2.2.2.2.2.2.2.2.2.2.2.2.2.2.1, z.2.2.2.2.2.2.2.2.2.2.2.2.2.2.2.2.2.2.1, z.2.2.2.2.2.2.2.2.2.2.2.2.2.2.2.2.2.2.2.1) = some r, fun z => [(4, .bp 9 0), (8, .bp 11 0), (10, .bp 34 0), (11, .v (.bool z.1))], fun z => (.new 9 46 (cl46 x0 a5 c6 a9 c10 a13 c14 a17 c18 a21 c22 a25 c26) (.new 11 46 (cl46 (false, 0, ([], 0), 0, 0, 0, 0, 0, 0, 0, [], [], 0, ([], 0), [], 0, ([], 0)) none 0 none 0 none 0 none 0 none 0 none 0) (.new 34 46 (cl46 (z.2.1, z.2.2.1, (z.2.2.2.1, z.2.2.2.2.1), z.2.2.2.2.2.1, z.2.2.2.2.2.2.1, z.2.2.2.2.2.2.2.1, z.2.2.2.2.2.2.2.2.1, z.2.2.2.2.2.2.2.2.2.1, z.2.2.2.2.2.2.2.2.2.2.1, z.2.2.2.2.2.2.2.2.2.2.2.1, z.2.2.2.2.2.2.2.2.2.2.2.2.1, [], z.2.2.2.2.2.2.2.2.2.2.2.2.2.1, (z.2.2.2.2.2.2.2.2.2.2.2.2.2.2.1, z.2.2.2.2.2.2.2.2.2.2.2.2.2.2.2.1), z.2.2.2.2.2.2.2.2.2.2.2.2.2.2.2.2.1, z.2.2.2.2.2.2.2.2.2.2.2.2.2.2.2.2.2.1, (z.2.2.2.2.2.2.2.2.2.2.2.2.2.2.2.2.2.2.1, z.2.2.2.2.2.2.2.2.2.2.2.2.2.2.2.2.2.2.2.1)) z.2.2.2.2.2.2.2.2.2.2.2.2.2.2.2.2.2.2.2.2.1 z.2.2.2.2.2.2.2.2.2.2.2.2.2.2.2.2.2.2.2.2.2.1 z.2.2.2.2.2.2.2.2.2.2.2.2.2.2.2.2.2.2.2.2.2.2.1 z.2.2.2.2.2.2.2.2.2.2.2.2.2.2.2.2.2.2.2.2.2.2.2.1 none 0 z.2.2.2.2.2.2.2.2.2.2.2.2.2.2.2.2.2.2.2.2.2.2.2.2.1 z.2.2.2.2.2.2.2.2.2.2.2.2.2.2.2.2.2.2.2.2.2.2.2.2.2.1 z.2.2.2.2.2.2.2.2.2.2.2.2.2.2.2.2.2.2.2.2.2.2.2.2.2.2.1 z.2.2.2.2.2.2.2.2.2.2.2.2.2.2.2.2.2.2.2.2.2.2.2.2.2.2.2.1 z.2.2.2.2.2.2.2.2.2.2.2.2.2.2.2.2.2.2.2.2.2.2.2.2.2.2.2.2.1 z.2.2.2.2.2.2.2.2.2.2.2.2.2.2.2.2.2.2.2.2.2.2.2.2.2.2.2.2.2) .nil))), fun z => [⟨(.int .i64), ⟨a5, x0.2.2.1.1.length, c6⟩, x0.2.2.1.1⟩, ⟨(.sl (.int .i64)), ⟨a9, x0.2.2.2.2.2.2.2.2.2.2.1.length, c10⟩, x0.2.2.2.2.2.2.2.2.2.2.1⟩, ⟨(.pair (.sl (.int .i64)) (.int .i64)), ⟨a13, x0.2.2.2.2.2.2.2.2.2.2.2.1.length, c14⟩, x0.2.2.2.2.2.2.2.2.2.2.2.1⟩, ⟨(.int .i64), ⟨a17, x0.2.2.2.2.2.2.2.2.2.2.2.2.2.1.1.length, c18⟩, x0.2.2.2.2.2.2.2.2.2.2.2.2.2.1.1⟩, ⟨(.int .i64), ⟨a21, x0.2.2.2.2.2.2.2.2.2.2.2.2.2.2.1.length, c22⟩, x0.2.2.2.2.2.2.2.2.2.2.2.2.2.2.1⟩, ⟨(.int .i64), ⟨a25, x0.2.2.2.2.2.2.2.2.2.2.2.2.2.2.2.2.1.length, c26⟩, x0.2.2.2.2.2.2.2.2.2.2.2.2.2.2.2.2.1⟩], fun z => [⟨(.int .i64), ⟨z.2.2.2.2.2.2.2.2.2.2.2.2.2.2.2.2.2.2.2.2.1, z.2.2.2.1.length, z.2.2.2.2.2.2.2.2.2.2.2.2.2.2.2.2.2.2.2.2.2.1⟩, z.2.2.2.1⟩, ⟨(.sl (.int .i64)), ⟨z.2.2.2.2.2.2.2.2.2.2.2.2.2.2.2.2.2.2.2.2.2.2.1, z.2.2.2.2.2.2.2.2.2.2.2.2.1.length, z.2.2.2.2.2.2.2.2.2.2.2.2.2.2.2.2.2.2.2.2.2.2.2.1⟩, z.2.2.2.2.2.2.2.2.2.2.2.2.1⟩, ⟨(.int .i64), ⟨z.2.2.2.2.2.2.2.2.2.2.2.2.2.2.2.2.2.2.2.2.2.2.2.2.1, z.2.2.2.2.2.2.2.2.2.2.2.2.2.2.1.length, z.2.2.2.2.2.2.2.2.2.2.2.2.2.2.2.2.2.2.2.2.2.2.2.2.2.1⟩, z.2.2.2.2.2.2.2.2.2.2.2.2.2.2.1⟩, ⟨(.int .i64), ⟨z.2.2.2.2.2.2.2.2.2.2.2.2.2.2.2.2.2.2.2.2.2.2.2.2.2.2.1, z.2.2.2.2.2.2.2.2.2.2.2.2.2.2.2.2.1.length, z.2.2.2.2.2.2.2.2.2.2.2.2.2.2.2.2.2.2.2.2.2.2.2.2.2.2.2.1⟩, z.2.2.2.2.2.2.2.2.2.2.2.2.2.2.2.2.1⟩, ⟨(.int .i64), ⟨z.2.2.2.2.2.2.2.2.2.2.2.2.2.2.2.2.2.2.2.2.2.2.2.2.2.2.2.2.1, z.2.2.2.2.2.2.2.2.2.2.2.2.2.2.2.2.2.2.1.length, z.2.2.2.2.2.2.2.2.2.2.2.2.2.2.2.2.2.2.2.2.2.2.2.2.2.2.2.2.2⟩, z.2.2.2.2.2.2.2.2.2.2.2.2.2.2.2.2.2.2.1⟩], fun z => 0⟩ ?_ ?_
    · obtain ⟨y37, hy38, h⟩ := bindO_some h
      obtain ⟨y39, hy40, h⟩ := bindO_some h
      obtain ⟨⟨y41, y42⟩, hy43, h⟩ := bindO_some h
      refine JS.regionA rfl (.new 9 46 (cl46 x0 a5 c6 a9 c10 a13 c14 a17 c18 a21 c22 a25 c26) (.new 10 50 [.int .i64 x1.1, .slice a29 x1.2.length c30] .nil)) [] [8, 9, 10, 11, 13, 14] ⟨rfl, rfl, rfl, rfl, rfl, rfl, rfl, rfl, trivial⟩ rfl (fun be54 => ?_)
      refine JA.reg ttOk panic_cx true 9 [0, 1, 2, 3, 5, 7] rfl (by kernel_rfl) [] [(13, .v (.agg (cl46 x0 a5 c6 a9 c10 a13 c14 a17 c18 a21 c22 a25 c26).toArray)), (14, .v (.agg #[.int .i64 x1.1, .slice a29 x1.2.length c30])), (15, .v (.agg #[.int .i64 x1.1, .slice a29 x1.2.length c30])), (16, .v (.slice a33 x2.length c34)), (18, .v (.int .i64 x3)), (20, .v (.slice a33 x2.length c34))] ⟨rfl, rfl, rfl, rfl, rfl, rfl, rfl, rfl, trivial⟩ [] rfl rfl (Es rfl) ?_
      refine JA.all (rs := [4, 12]) (by kernel_rfl) rfl (List.forall_mem_cons.2 ⟨?_, List.forall_mem_cons.2 ⟨?_, (fun _ hx => absurd hx List.not_mem_nil)⟩⟩)
      · refine JK.call rfl rfl rfl rfl (ok_s_TextOf x2 a33 c34 x2.length rfl _ hy38) rfl [7] rfl rfl fun _ _ => JA.next ⟨rfl, rfl, rfl, rfl, rfl, rfl, rfl, rfl, trivial⟩ [] rfl ?_
        refine JA.all (rs := [6, 12]) (by kernel_rfl) rfl (List.forall_mem_cons.2 ⟨?_, List.forall_mem_cons.2 ⟨?_, (fun _ hx => absurd hx List.not_mem_nil)⟩⟩)
        · refine JK.call rfl rfl rfl rfl (ok_s_HistFind x1 y37 x3 (-1) false a29 c30 x1.2.length rfl _ hy40) rfl [6] rfl rfl fun _ _ => JA.next ⟨rfl, rfl, rfl, rfl, rfl, rfl, rfl, rfl, trivial⟩ [] rfl ?_
          refine JA.all (rs := [8, 12]) (by kernel_rfl) rfl (List.forall_mem_cons.2 ⟨?_, List.forall_mem_cons.2 ⟨?_, (fun _ hx => absurd hx List.not_mem_nil)⟩⟩)
          · refine JK.call rfl rfl rfl rfl (ok_s_ShowHit x0 x1 y39 x2 a5 c6 x0.2.2.1.1.length rfl a9 c10 x0.2.2.2.2.2.2.2.2.2.2.1.length rfl a13 c14 x0.2.2.2.2.2.2.2.2.2.2.2.1.length rfl a17 c18 x0.2.2.2.2.2.2.2.2.2.2.2.2.2.1.1.length rfl a21 c22 x0.2.2.2.2.2.2.2.2.2.2.2.2.2.2.1.length rfl a25 c26 x0.2.2.2.2.2.2.2.2.2.2.2.2.2.2.2.2.1.length rfl a29 c30 x1.2.length rfl a33 c34 x2.length rfl _ hy43) rfl [0, 1, 2, 3, 4, 5, 6, 7] rfl rfl ?_
            rintro ⟨a44, c45, a46, c47, a48, c49, a50, c51, a52, c53⟩ -
            refine JA.nextL rfl (JA.regL ttOk panic_cx 3 [9, 10, 11] rfl (by kernel_rfl) [] [(22, .v (.agg (cl46 (y41.1, y41.2.1, y41.2.2.1, y41.2.2.2.1, y41.2.2.2.2.1, y41.2.2.2.2.2.1, y41.2.2.2.2.2.2.1, y41.2.2.2.2.2.2.2.1, y41.2.2.2.2.2.2.2.2.1, y41.2.2.2.2.2.2.2.2.2.1, y41.2.2.2.2.2.2.2.2.2.2.1, [], y41.2.2.2.2.2.2.2.2.2.2.2.2.1, y41.2.2.2.2.2.2.2.2.2.2.2.2.2.1, y41.2.2.2.2.2.2.2.2.2.2.2.2.2.2.1, y41.2.2.2.2.2.2.2.2.2.2.2.2.2.2.2.1, y41.2.2.2.2.2.2.2.2.2.2.2.2.2.2.2.2) a44 c45 a46 c47 none 0 a48 c49 a50 c51 a52 c53).toArray)), (23, .v (.bool y42))] rfl (Es rfl) (JA.one 12 (by kernel_rfl) (JK.alloc ttOk rfl rfl rfl rfl rfl 34 rfl (sd_upd _ rfl) (JA.next ⟨rfl, rfl, rfl, rfl, rfl, rfl, rfl, rfl, trivial⟩ [] rfl (JA.one 13 (by kernel_rfl) (JK.stBox ttOk rfl rfl rfl rfl rfl rfl rfl rfl (JA.nextL rfl (JA.regL ttOk panic_cx 0 [14] rfl (by kernel_rfl) [] [(11, .v (.bool y42))] rfl ⟨rfl, trivial⟩ (JA.done (by kernel_rfl) (JS.boxes (B' := (.new 9 46 (cl46 x0 a5 c6 a9 c10 a13 c14 a17 c18 a21 c22 a25 c26) (.new 11 46 (cl46 (false, 0, ([], 0), 0, 0, 0, 0, 0, 0, 0, [], [], 0, ([], 0), [], 0, ([], 0)) none 0 none 0 none 0 none 0 none 0 none 0) (.new 34 46 (cl46 (y41.1, y41.2.1, y41.2.2.1, y41.2.2.2.1, y41.2.2.2.2.1, y41.2.2.2.2.2.1, y41.2.2.2.2.2.2.1, y41.2.2.2.2.2.2.2.1, y41.2.2.2.2.2.2.2.2.1, y41.2.2.2.2.2.2.2.2.2.1, y41.2.2.2.2.2.2.2.2.2.2.1, [], y41.2.2.2.2.2.2.2.2.2.2.2.2.1, y41.2.2.2.2.2.2.2.2.2.2.2.2.2.1, y41.2.2.2.2.2.2.2.2.2.2.2.2.2.2.1, y41.2.2.2.2.2.2.2.2.2.2.2.2.2.2.2.1, y41.2.2.2.2.2.2.2.2.2.2.2.2.2.2.2.2) a44 c45 a46 c47 none 0 a48 c49 a50 c51 a52 c53) .nil)))) (Bs rfl rfl) (JS.endJA (y42, y41.1, y41.2.1, y41.2.2.1.1, y41.2.2.1.2, y41.2.2.2.1, y41.2.2.2.2.1, y41.2.2.2.2.2.1, y41.2.2.2.2.2.2.1, y41.2.2.2.2.2.2.2.1, y41.2.2.2.2.2.2.2.2.1, y41.2.2.2.2.2.2.2.2.2.1, y41.2.2.2.2.2.2.2.2.2.2.1, y41.2.2.2.2.2.2.2.2.2.2.2.2.1, y41.2.2.2.2.2.2.2.2.2.2.2.2.2.1.1, y41.2.2.2.2.2.2.2.2.2.2.2.2.2.1.2, y41.2.2.2.2.2.2.2.2.2.2.2.2.2.2.1, y41.2.2.2.2.2.2.2.2.2.2.2.2.2.2.2.1, y41.2.2.2.2.2.2.2.2.2.2.2.2.2.2.2.2.1, y41.2.2.2.2.2.2.2.2.2.2.2.2.2.2.2.2.2, a44, c45, a46, c47, a48, c49, a50, c51, a52, c53) h (Es rfl) (Bs rfl rfl) [0, 1, 2, 3, 4, 5] rfl [0, 1, 2, 3, 4] rfl rfl)))))))))))
          refine JK.alloc ttOk rfl rfl rfl rfl rfl 34 rfl (sd_upd _ rfl) (JA.next ⟨rfl, rfl, rfl, rfl, rfl, rfl, rfl, rfl, trivial⟩ [] rfl (JA.one 8 (by kernel_rfl) (JK.call rfl rfl rfl rfl (ok_s_ShowHit x0 x1 y39 x2 a5 c6 x0.2.2.1.1.length rfl a9 c10 x0.2.2.2.2.2.2.2.2.2.2.1.length rfl a13 c14 x0.2.2.2.2.2.2.2.2.2.2.2.1.length rfl a17 c18 x0.2.2.2.2.2.2.2.2.2.2.2.2.2.1.1.length rfl a21 c22 x0.2.2.2.2.2.2.2.2.2.2.2.2.2.2.1.length rfl a25 c26 x0.2.2.2.2.2.2.2.2.2.2.2.2.2.2.2.2.1.length rfl a29 c30 x1.2.length rfl a33 c34 x2.length rfl _ hy43) rfl [0, 1, 2, 3, 4, 5, 6, 7] rfl rfl ?_)))
          rintro ⟨a44, c45, a46, c47, a48, c49, a50, c51, a52, c53⟩ -
          refine JA.nextL rfl (JA.regL ttOk panic_cx 2 [9, 10, 11] rfl (by kernel_rfl) [] [(22, .v (.agg (cl46 (y41.1, y41.2.1, y41.2.2.1, y41.2.2.2.1, y41.2.2.2.2.1, y41.2.2.2.2.2.1, y41.2.2.2.2.2.2.1, y41.2.2.2.2.2.2.2.1, y41.2.2.2.2.2.2.2.2.1, y41.2.2.2.2.2.2.2.2.2.1, y41.2.2.2.2.2.2.2.2.2.2.1, [], y41.2.2.2.2.2.2.2.2.2.2.2.2.1, y41.2.2.2.2.2.2.2.2.2.2.2.2.2.1, y41.2.2.2.2.2.2.2.2.2.2.2.2.2.2.1, y41.2.2.2.2.2.2.2.2.2.2.2.2.2.2.2.1, y41.2.2.2.2.2.2.2.2.2.2.2.2.2.2.2.2) a44 c45 a46 c47 none 0 a48 c49 a50 c51 a52 c53).toArray)), (23, .v (.bool y42))] rfl (Es rfl) (JA.one 13 (by kernel_rfl) (JK.stBox ttOk rfl rfl rfl rfl rfl rfl rfl rfl (JA.nextL rfl (JA.regL ttOk panic_cx 0 [14] rfl (by kernel_rfl) [] [(11, .v (.bool y42))] rfl ⟨rfl, trivial⟩ (JA.done (by kernel_rfl) (JS.boxes (B' := (.new 9 46 (cl46 x0 a5 c6 a9 c10 a13 c14 a17 c18 a21 c22 a25 c26) (.new 11 46 (cl46 (false, 0, ([], 0), 0, 0, 0, 0, 0, 0, 0, [], [], 0, ([], 0), [], 0, ([], 0)) none 0 none 0 none 0 none 0 none 0 none 0) (.new 34 46 (cl46 (y41.1, y41.2.1, y41.2.2.1, y41.2.2.2.1, y41.2.2.2.2.1, y41.2.2.2.2.2.1, y41.2.2.2.2.2.2.1, y41.2.2.2.2.2.2.2.1, y41.2.2.2.2.2.2.2.2.1, y41.2.2.2.2.2.2.2.2.2.1, y41.2.2.2.2.2.2.2.2.2.2.1, [], y41.2.2.2.2.2.2.2.2.2.2.2.2.1, y41.2.2.2.2.2.2.2.2.2.2.2.2.2.1, y41.2.2.2.2.2.2.2.2.2.2.2.2.2.2.1, y41.2.2.2.2.2.2.2.2.2.2.2.2.2.2.2.1, y41.2.2.2.2.2.2.2.2.2.2.2.2.2.2.2.2) a44 c45 a46 c47 none 0 a48 c49 a50 c51 a52 c53) .nil)))) (Bs rfl rfl) (JS.endJA (y42, y41.1, y41.2.1, y41.2.2.1.1, y41.2.2.1.2, y41.2.2.2.1, y41.2.2.2.2.1, y41.2.2.2.2.2.1, y41.2.2.2.2.2.2.1, y41.2.2.2.2.2.2.2.1, y41.2.2.2.2.2.2.2.2.1, y41.2.2.2.2.2.2.2.2.2.1, y41.2.2.2.2.2.2.2.2.2.2.1, y41.2.2.2.2.2.2.2.2.2.2.2.2.1, y41.2.2.2.2.2.2.2.2.2.2.2.2.2.1.1, y41.2.2.2.2.2.2.2.2.2.2.2.2.2.1.2, y41.2.2.2.2.2.2.2.2.2.2.2.2.2.2.1, y41.2.2.2.2.2.2.2.2.2.2.2.2.2.2.2.1, y41.2.2.2.2.2.2.2.2.2.2.2.2.2.2.2.2.1, y41.2.2.2.2.2.2.2.2.2.2.2.2.2.2.2.2.2, a44, c45, a46, c47, a48, c49, a50, c51, a52, c53) h (Es rfl) (Bs rfl rfl) [0, 1, 2, 3, 4, 5] rfl [0, 1, 2, 3, 4] rfl rfl))))))))
        refine JK.alloc ttOk rfl rfl rfl rfl rfl 34 rfl (sd_upd _ rfl) (JA.next ⟨rfl, rfl, rfl, rfl, rfl, rfl, rfl, rfl, trivial⟩ [] rfl (JA.one 6 (by kernel_rfl) (JK.call rfl rfl rfl rfl (ok_s_HistFind x1 y37 x3 (-1) false a29 c30 x1.2.length rfl _ hy40) rfl [6] rfl rfl fun _ _ => JA.next ⟨rfl, rfl, rfl, rfl, rfl, rfl, rfl, rfl, trivial⟩ [] rfl (JA.one 8 (by kernel_rfl) (JK.call rfl rfl rfl rfl (ok_s_ShowHit x0 x1 y39 x2 a5 c6 x0.2.2.1.1.length rfl a9 c10 x0.2.2.2.2.2.2.2.2.2.2.1.length rfl a13 c14 x0.2.2.2.2.2.2.2.2.2.2.2.1.length rfl a17 c18 x0.2.2.2.2.2.2.2.2.2.2.2.2.2.1.1.length rfl a21 c22 x0.2.2.2.2.2.2.2.2.2.2.2.2.2.2.1.length rfl a25 c26 x0.2.2.2.2.2.2.2.2.2.2.2.2.2.2.2.2.1.length rfl a29 c30 x1.2.length rfl a33 c34 x2.length rfl _ hy43) rfl [0, 1, 2, 3, 4, 5, 6, 7] rfl rfl ?_)))))
        rintro ⟨a44, c45, a46, c47, a48, c49, a50, c51, a52, c53⟩ -
        refine JA.nextL rfl (JA.regL ttOk panic_cx 2 [9, 10, 11] rfl (by kernel_rfl) [] [(22, .v (.agg (cl46 (y41.1, y41.2.1, y41.2.2.1, y41.2.2.2.1, y41.2.2.2.2.1, y41.2.2.2.2.2.1, y41.2.2.2.2.2.2.1, y41.2.2.2.2.2.2.2.1, y41.2.2.2.2.2.2.2.2.1, y41.2.2.2.2.2.2.2.2.2.1, y41.2.2.2.2.2.2.2.2.2.2.1, [], y41.2.2.2.2.2.2.2.2.2.2.2.2.1, y41.2.2.2.2.2.2.2.2.2.2.2.2.2.1, y41.2.2.2.2.2.2.2.2.2.2.2.2.2.2.1, y41.2.2.2.2.2.2.2.2.2.2.2.2.2.2.2.1, y41.2.2.2.2.2.2.2.2.2.2.2.2.2.2.2.2) a44 c45 a46 c47 none 0 a48 c49 a50 c51 a52 c53).toArray)), (23, .v (.bool y42))] rfl (Es rfl) (JA.one 13 (by kernel_rfl) (JK.stBox ttOk rfl rfl rfl rfl rfl rfl rfl rfl (JA.nextL rfl (JA.regL ttOk panic_cx 0 [14] rfl (by kernel_rfl) [] [(11, .v (.bool y42))] rfl ⟨rfl, trivial⟩ (JA.done (by kernel_rfl) (JS.boxes (B' := (.new 9 46 (cl46 x0 a5 c6 a9 c10 a13 c14 a17 c18 a21 c22 a25 c26) (.new 11 46 (cl46 (false, 0, ([], 0), 0, 0, 0, 0, 0, 0, 0, [], [], 0, ([], 0), [], 0, ([], 0)) none 0 none 0 none 0 none 0 none 0 none 0) (.new 34 46 (cl46 (y41.1, y41.2.1, y41.2.2.1, y41.2.2.2.1, y41.2.2.2.2.1, y41.2.2.2.2.2.1, y41.2.2.2.2.2.2.1, y41.2.2.2.2.2.2.2.1, y41.2.2.2.2.2.2.2.2.1, y41.2.2.2.2.2.2.2.2.2.1, y41.2.2.2.2.2.2.2.2.2.2.1, [], y41.2.2.2.2.2.2.2.2.2.2.2.2.1, y41.2.2.2.2.2.2.2.2.2.2.2.2.2.1, y41.2.2.2.2.2.2.2.2.2.2.2.2.2.2.1, y41.2.2.2.2.2.2.2.2.2.2.2.2.2.2.2.1, y41.2.2.2.2.2.2.2.2.2.2.2.2.2.2.2.2) a44 c45 a46 c47 none 0 a48 c49 a50 c51 a52 c53) .nil)))) (Bs rfl rfl) (JS.endJA (y42, y41.1, y41.2.1, y41.2.2.1.1, y41.2.2.1.2, y41.2.2.2.1, y41.2.2.2.2.1, y41.2.2.2.2.2.1, y41.2.2.2.2.2.2.1, y41.2.2.2.2.2.2.2.1, y41.2.2.2.2.2.2.2.2.1, y41.2.2.2.2.2.2.2.2.2.1, y41.2.2.2.2.2.2.2.2.2.2.1, y41.2.2.2.2.2.2.2.2.2.2.2.2.1, y41.2.2.2.2.2.2.2.2.2.2.2.2.2.1.1, y41.2.2.2.2.2.2.2.2.2.2.2.2.2.1.2, y41.2.2.2.2.2.2.2.2.2.2.2.2.2.2.1, y41.2.2.2.2.2.2.2.2.2.2.2.2.2.2.2.1, y41.2.2.2.2.2.2.2.2.2.2.2.2.2.2.2.2.1, y41.2.2.2.2.2.2.2.2.2.2.2.2.2.2.2.2.2, a44, c45, a46, c47, a48, c49, a50, c51, a52, c53) h (Es rfl) (Bs rfl rfl) [0, 1, 2, 3, 4, 5] rfl [0, 1, 2, 3, 4] rfl rfl))))))))
      refine JK.alloc ttOk rfl rfl rfl rfl rfl 34 rfl (sd_upd _ rfl) (JA.next ⟨rfl, rfl, rfl, rfl, rfl, rfl, rfl, rfl, trivial⟩ [] rfl (JA.one 4 (by kernel_rfl) (JK.call rfl rfl rfl rfl (ok_s_TextOf x2 a33 c34 x2.length rfl _ hy38) rfl [7] rfl rfl fun _ _ => JA.next ⟨rfl, rfl, rfl, rfl, rfl, rfl, rfl, rfl, trivial⟩ [] rfl (JA.one 6 (by kernel_rfl) (JK.call rfl rfl rfl rfl (ok_s_HistFind x1 y37 x3 (-1) false a29 c30 x1.2.length rfl _ hy40) rfl [6] rfl rfl fun _ _ => JA.next ⟨rfl, rfl, rfl, rfl, rfl, rfl, rfl, rfl, trivial⟩ [] rfl (JA.one 8 (by kernel_rfl) (JK.call rfl rfl rfl rfl (ok_s_ShowHit x0 x1 y39 x2 a5 c6 x0.2.2.1.1.length rfl a9 c10 x0.2.2.2.2.2.2.2.2.2.2.1.length rfl a13 c14 x0.2.2.2.2.2.2.2.2.2.2.2.1.length rfl a17 c18 x0.2.2.2.2.2.2.2.2.2.2.2.2.2.1.1.length rfl a21 c22 x0.2.2.2.2.2.2.2.2.2.2.2.2.2.2.1.length rfl a25 c26 x0.2.2.2.2.2.2.2.2.2.2.2.2.2.2.2.2.1.length rfl a29 c30 x1.2.length rfl a33 c34 x2.length rfl _ hy43) rfl [0, 1, 2, 3, 4, 5, 6, 7] rfl rfl ?_)))))))
      rintro ⟨a44, c45, a46, c47, a48, c49, a50, c51, a52, c53⟩ -
      refine JA.nextL rfl (JA.regL ttOk panic_cx 2 [9, 10, 11] rfl (by kernel_rfl) [] [(22, .v (.agg (cl46 (y41.1, y41.2.1, y41.2.2.1, y41.2.2.2.1, y41.2.2.2.2.1, y41.2.2.2.2.2.1, y41.2.2.2.2.2.2.1, y41.2.2.2.2.2.2.2.1, y41.2.2.2.2.2.2.2.2.1, y41.2.2.2.2.2.2.2.2.2.1, y41.2.2.2.2.2.2.2.2.2.2.1, [], y41.2.2.2.2.2.2.2.2.2.2.2.2.1, y41.2.2.2.2.2.2.2.2.2.2.2.2.2.1, y41.2.2.2.2.2.2.2.2.2.2.2.2.2.2.1, y41.2.2.2.2.2.2.2.2.2.2.2.2.2.2.2.1, y41.2.2.2.2.2.2.2.2.2.2.2.2.2.2.2.2) a44 c45 a46 c47 none 0 a48 c49 a50 c51 a52 c53).toArray)), (23, .v (.bool y42))] rfl (Es rfl) (JA.one 13 (by kernel_rfl) (JK.stBox ttOk rfl rfl rfl rfl rfl rfl rfl rfl (JA.nextL rfl (JA.regL ttOk panic_cx 0 [14] rfl (by kernel_rfl) [] [(11, .v (.bool y42))] rfl ⟨rfl, trivial⟩ (JA.done (by kernel_rfl) (JS.boxes (B' := (.new 9 46 (cl46 x0 a5 c6 a9 c10 a13 c14 a17 c18 a21 c22 a25 c26) (.new 11 46 (cl46 (false, 0, ([], 0), 0, 0, 0, 0, 0, 0, 0, [], [], 0, ([], 0), [], 0, ([], 0)) none 0 none 0 none 0 none 0 none 0 none 0) (.new 34 46 (cl46 (y41.1, y41.2.1, y41.2.2.1, y41.2.2.2.1, y41.2.2.2.2.1, y41.2.2.2.2.2.1, y41.2.2.2.2.2.2.1, y41.2.2.2.2.2.2.2.1, y41.2.2.2.2.2.2.2.2.1, y41.2.2.2.2.2.2.2.2.2.1, y41.2.2.2.2.2.2.2.2.2.2.1, [], y41.2.2.2.2.2.2.2.2.2.2.2.2.1, y41.2.2.2.2.2.2.2.2.2.2.2.2.2.1, y41.2.2.2.2.2.2.2.2.2.2.2.2.2.2.1, y41.2.2.2.2.2.2.2.2.2.2.2.2.2.2.2.1, y41.2.2.2.2.2.2.2.2.2.2.2.2.2.2.2.2) a44 c45 a46 c47 none 0 a48 c49 a50 c51 a52 c53) .nil)))) (Bs rfl rfl) (JS.endJA (y42, y41.1, y41.2.1, y41.2.2.1.1, y41.2.2.1.2, y41.2.2.2.1, y41.2.2.2.2.1, y41.2.2.2.2.2.1, y41.2.2.2.2.2.2.1, y41.2.2.2.2.2.2.2.1, y41.2.2.2.2.2.2.2.2.1, y41.2.2.2.2.2.2.2.2.2.1, y41.2.2.2.2.2.2.2.2.2.2.1, y41.2.2.2.2.2.2.2.2.2.2.2.2.1, y41.2.2.2.2.2.2.2.2.2.2.2.2.2.1.1, y41.2.2.2.2.2.2.2.2.2.2.2.2.2.1.2, y41.2.2.2.2.2.2.2.2.2.2.2.2.2.2.1, y41.2.2.2.2.2.2.2.2.2.2.2.2.2.2.2.1, y41.2.2.2.2.2.2.2.2.2.2.2.2.2.2.2.2.1, y41.2.2.2.2.2.2.2.2.2.2.2.2.2.2.2.2.2, a44, c45, a46, c47, a48, c49, a50, c51, a52, c53) h (Es rfl) (Bs rfl rfl) [0, 1, 2, 3, 4, 5] rfl [0, 1, 2, 3, 4] rfl rfl))))))))
    rintro ⟨x55, x56, x57, x58, x61, x62, x63, x64, x65, x66, x67, x68, x69, x72, x73, x76, x77, x80, x81, x84, a59, c60, a70, c71, a74, c75, a78, c79, a82, c83⟩ h
    subst hj103
    refine JS.seq (JS.rg0 ttOk 2 [(25, .v (.bool (!x55)))] ⟨⟨rfl, trivial⟩, rfl⟩ rfl rfl ?_)
    refine JS.cond rfl (fun ht102 => ?_) (fun ht102 => ?_)
    · have h := condT h ht102
      refine JS.seq (JS.region (JO.reg ttOk 1 [] [] [(26, .v (.agg (cl46 x0 a5 c6 a9 c10 a13 c14 a17 c18 a21 c22 a25 c26).toArray))] _ rfl ⟨⟨rfl, trivial⟩, rfl⟩ ?_))
      obtain ⟨y86, hy87, h⟩ := bindO_some h
      refine JO.call rfl rfl rfl rfl (ok_s_l21Copy x0 a5 c6 x0.2.2.1.1.length rfl a9 c10 x0.2.2.2.2.2.2.2.2.2.2.1.length rfl a13 c14 x0.2.2.2.2.2.2.2.2.2.2.2.1.length rfl a17 c18 x0.2.2.2.2.2.2.2.2.2.2.2.2.2.1.1.length rfl a21 c22 x0.2.2.2.2.2.2.2.2.2.2.2.2.2.2.1.length rfl a25 c26 x0.2.2.2.2.2.2.2.2.2.2.2.2.2.2.2.2.1.length rfl _ hy87) rfl [0, 1, 2, 3, 4, 5] rfl rfl ?_
      rintro ⟨a88, c89, a90, c91, a92, c93, a94, c95, a96, c97, a98, c99⟩ -
      refine JO.regB ttOk 2 [] [] [(9, .v (.int .i64 1))] (.new 11 46 (cl46 y86 a88 c89 a90 c91 a92 c93 a94 c95 a96 c97 a98 c99) .nil) rfl ⟨⟨rfl, trivial⟩, (Bs rfl rfl)⟩ (JO.done rfl ?_)
      cases h
      exact JS.ret ttOk (a88, c89, a90, c91, a92, c93, a94, c95, a96, c97, a98, c99) trivial rfl rfl [0, 0, 0, 0, 0, 0] rfl
    have h := condF h ht102
    refine JS.skip (JS.rgB ttOk 3 [] [] [(9, .v (.int .i64 0))] (.new 11 46 (cl46 (x56, x57, (x58, x61), x62, x63, x64, x65, x66, x67, x68, x69, [], x72, (x73, x76), x77, x80, (x81, x84)) a59 c60 a70 c71 none 0 a74 c75 a78 c79 a82 c83) .nil) ⟨⟨rfl, trivial⟩, (Bs rfl rfl)⟩ rfl rfl ?_)
    cases h
    refine JS.nilO (.pair (.sl (.int .i64)) (.int .i64)) Sl.nil rfl rfl (JS.ret ttOk (a59, c60, a70, c71, none, 0, a74, c75, a78, c79, a82, c83) trivial rfl rfl [1, 1, 0, 0, 0, 0] rfl)

def M_s_l13Join (x0 : List Int) (x1 : List Int) (x2 : List Int) : Option (List Int) :=
  (guardO (([] : List Int).length + x0.length ≤ 536870912) <|
  (guardO ((([] : List Int) ++ x0).length + x1.length ≤ 536870912) <|
  (guardO (((([] : List Int) ++ x0) ++ x1).length + x2.length ≤ 536870912) <|
  some (((([] : List Int) ++ x0) ++ x1) ++ x2))))

theorem ok_s_l13Join (x0 : List Int) (x1 : List Int) (x2 : List Int) (a4 : Option Addr) (c5 : Nat) (l6 : Nat) (hl7 : x0.length = l6) (a8 : Option Addr) (c9 : Nat) (l10 : Nat) (hl11 : x1.length = l10) (a12 : Option Addr) (c13 : Nat) (l14 : Nat) (hl15 : x2.length = l14) (r : List Int) (h : M_s_l13Join x0 x1 x2 = some r) :
    FC Tryz.prog 82 [.slice a4 l6 c5, .slice a8 l10 c9, .slice a12 l14 c13] [⟨(.int .i64), ⟨a4, l6, c5⟩, x0⟩, ⟨(.int .i64), ⟨a8, l10, c9⟩, x1⟩, ⟨(.int .i64), ⟨a12, l14, c13⟩, x2⟩] (fun _ : Option Addr × Nat => True) (fun q => .slice q.1 r.length q.2) (fun q => [⟨(.int .i64), ⟨q.1, r.length, q.2⟩, r⟩]) :=
  by
    subst hl7
    subst hl11
    subst hl15
    refine FC.of (T := TTx) Tryz.call82 Tryz.func82 rfl rfl fun w0 => ?_
    unfold M_s_l13Join at h
    refine JS.rg0 ttOk 1 [] ⟨trivial, rfl⟩ rfl rfl (JS.seq (JS.region ?_))
    refine JO.ofK rfl (JK.buildSlice ttOk rfl rfl rfl rfl rfl rfl rfl rfl rfl rfl rfl [] rfl (.int .i64) [] ⟨rfl, rfl⟩ rfl rfl fun a16 => JO.toK ?_)
    refine JO.reg ttOk 1 [] [] [(8, .v (.slice a4 x0.length c5))] _ rfl ⟨⟨rfl, trivial⟩, rfl⟩ ?_
    obtain ⟨g17, h⟩ := guardO_some h
    refine JO.appendR' ttOk rfl rfl rfl rfl ⟨rfl, rfl, rfl, rfl, trivial, rfl, rfl, rfl, rfl⟩ rfl rfl rfl [0] rfl 0 rfl g17 rfl fun a18 c19 => JO.reg ttOk 1 [] [] [(10, .v (.slice a8 x1.length c9))] _ rfl ⟨⟨rfl, trivial⟩, rfl⟩ ?_
    obtain ⟨g20, h⟩ := guardO_some h
    refine JO.appendR' ttOk rfl rfl rfl rfl ⟨rfl, rfl, rfl, rfl, trivial, rfl, rfl, rfl, rfl⟩ rfl rfl rfl [0] rfl 1 rfl g20 rfl fun a21 c22 => JO.reg ttOk 1 [] [] [(12, .v (.slice a12 x2.length c13))] _ rfl ⟨⟨rfl, trivial⟩, rfl⟩ ?_
    obtain ⟨g23, h⟩ := guardO_some h
    refine JO.appendR' ttOk rfl rfl rfl rfl ⟨rfl, rfl, rfl, rfl, trivial, rfl, rfl, rfl, rfl⟩ rfl rfl rfl [0] rfl 2 rfl g23 rfl fun a24 c25 => JO.reg ttOk 1 [] [] [(6, .v (.slice a24 (((([] : List Int) ++ x0) ++ x1) ++ x2).length c25))] _ rfl ⟨⟨rfl, trivial⟩, rfl⟩ (JO.done rfl ?_)
    cases h
    exact JS.ret ttOk (a24, c25) trivial rfl rfl [0] rfl

def M_s_SearchKey (x0 : Bool × Int × (List Int × Int) × Int × Int × Int × Int × Int × Int × Int × List (List Int) × (List (List Int × Int)) × Int × (List Int × Int) × List Int × Int × List Int × Int) (x1 : Int × List (List UInt8)) (x2 : Int × Int) : Option ((Bool × Int × (List Int × Int) × Int × Int × Int × Int × Int × Int × Int × List (List Int) × (List (List Int × Int)) × Int × (List Int × Int) × List Int × Int × List Int × Int) × Int) :=
  (bindO (M_s_EdOk x0) fun (y32 : Bool) =>
  (callO ((!y32) = false) (M_s_HistOk x1) false fun (y34 : Bool) =>
  (callO ((bif (!y32) then true else (!y34)) = false) (M_s_KeyOk x2) false fun (y37 : Bool) =>
  (bif (bif (bif (bif (!y32) then true else (!y34)) then true else (!y37)) then true else (!(decide (x0.2.1 = 3)))) then
  some ((false, 0, ([], 0), 0, 0, 0, 0, 0, 0, 0, [], [], 0, ([], 0), [], 0, ([], 0)), 0)
  else
  (joinO (fun ((x43, x44) : Int × Int) =>
  (bif (decide (x2.1 = 1)) then
  (bindO (M_s_l13Join x0.2.2.2.2.2.2.2.2.2.2.2.2.2.2.1 ([x2.2] : List Int) ([] : List Int)) fun (y48 : List Int) =>
  (bindO (M_s_l25Find x0 x1 y48 x43) fun (y52, y53) =>
  some (y52, y53)))
  else
  (bif (bif (decide (x2.1 = 2)) then (decide (x2.2 = 114)) else false) then
  (bif (decide ((x0.2.2.2.2.2.2.2.2.2.2.2.2.2.2.1.length : Int) = 0)) then
  (bindO (M_s_l21Copy x0) fun (y68 : Bool × Int × (List Int × Int) × Int × Int × Int × Int × Int × Int × Int × List (List Int) × (List (List Int × Int)) × Int × (List Int × Int) × List Int × Int × List Int × Int) =>
  some (y68, 1))
  else
  (bindO (M_s_l25Find x0 x1 x0.2.2.2.2.2.2.2.2.2.2.2.2.2.2.1 x44) fun (y82, y83) =>
  some (y82, y83)))
  else
  (bif (decide (x2.1 = 5)) then
  (bindO (M_s_l21Copy x0) fun (y98 : Bool × Int × (List Int × Int) × Int × Int × Int × Int × Int × Int × Int × List (List Int) × (List (List Int × Int)) × Int × (List Int × Int) × List Int × Int × List Int × Int) =>
  (bif (decide ((x0.2.2.2.2.2.2.2.2.2.2.2.2.2.2.1.length : Int) = 0)) then
  some (y98, 1)
  else
  (guardO (0 ≤ (0 : Int) ∧ (0 : Int) ≤ (W ((y98.2.2.2.2.2.2.2.2.2.2.2.2.2.2.1.length : Int) - 1)) ∧ (W ((y98.2.2.2.2.2.2.2.2.2.2.2.2.2.2.1.length : Int) - 1)) ≤ (y98.2.2.2.2.2.2.2.2.2.2.2.2.2.2.1.length : Int)) <|
  some ((y98.1, y98.2.1, y98.2.2.1, y98.2.2.2.1, y98.2.2.2.2.1, y98.2.2.2.2.2.1, y98.2.2.2.2.2.2.1, y98.2.2.2.2.2.2.2.1, y98.2.2.2.2.2.2.2.2.1, y98.2.2.2.2.2.2.2.2.2.1, y98.2.2.2.2.2.2.2.2.2.2.1, y98.2.2.2.2.2.2.2.2.2.2.2.1, y98.2.2.2.2.2.2.2.2.2.2.2.2.1, y98.2.2.2.2.2.2.2.2.2.2.2.2.2.1, (sub' y98.2.2.2.2.2.2.2.2.2.2.2.2.2.2.1 0 (W ((y98.2.2.2.2.2.2.2.2.2.2.2.2.2.2.1.length : Int) - 1))), y98.2.2.2.2.2.2.2.2.2.2.2.2.2.2.2.1, y98.2.2.2.2.2.2.2.2.2.2.2.2.2.2.2.2), 0))))
  else
  (bif (decide (x2.1 = 4)) then
  (bindO (M_s_Leave x0) fun (y116 : Bool × Int × (List Int × Int) × Int × Int × Int × Int × Int × Int × Int × List (List Int) × (List (List Int × Int)) × Int × (List Int × Int) × List Int × Int × List Int × Int) =>
  some ((y116.1, y116.2.1, y116.2.2.1, y116.2.2.2.1, y116.2.2.2.2.1, y116.2.2.2.2.2.1, y116.2.2.2.2.2.2.1, y116.2.2.2.2.2.2.2.1, y116.2.2.2.2.2.2.2.2.1, y116.2.2.2.2.2.2.2.2.2.1, y116.2.2.2.2.2.2.2.2.2.2.1, y116.2.2.2.2.2.2.2.2.2.2.2.1, y116.2.2.2.2.2.2.2.2.2.2.2.2.1, y116.2.2.2.2.2.2.2.2.2.2.2.2.2.1, [], y116.2.2.2.2.2.2.2.2.2.2.2.2.2.2.2.1, ([], y116.2.2.2.2.2.2.2.2.2.2.2.2.2.2.2.2.2)), 2))
  else
  (bif (bif (decide (x2.1 = 2)) then (bif (decide (x2.2 = 103)) then true else (decide (x2.2 = 99))) else false) then
  (bindO (M_s_l21Copy x0) fun (y126 : Bool × Int × (List Int × Int) × Int × Int × Int × Int × Int × Int × Int × List (List Int) × (List (List Int × Int)) × Int × (List Int × Int) × List Int × Int × List Int × Int) =>
  (bindO (M_s_l15Line x0.2.2.2.2.2.2.2.2.2.2.2.2.2.2.2.2) fun (y140 : List Int × Int) =>
  (bindO (M_s_Leave (y126.1, y126.2.1, y140, y126.2.2.2.1, y126.2.2.2.2.1, y126.2.2.2.2.2.1, y126.2.2.2.2.2.2.1, y126.2.2.2.2.2.2.2.1, y126.2.2.2.2.2.2.2.2.1, y126.2.2.2.2.2.2.2.2.2.1, y126.2.2.2.2.2.2.2.2.2.2.1, y126.2.2.2.2.2.2.2.2.2.2.2.1, 0, (([] : List Int), 0), y126.2.2.2.2.2.2.2.2.2.2.2.2.2.2.1, y126.2.2.2.2.2.2.2.2.2.2.2.2.2.2.2.1, y126.2.2.2.2.2.2.2.2.2.2.2.2.2.2.2.2)) fun (y144 : Bool × Int × (List Int × Int) × Int × Int × Int × Int × Int × Int × Int × List (List Int) × (List (List Int × Int)) × Int × (List Int × Int) × List Int × Int × List Int × Int) =>
  some ((y144.1, y144.2.1, y144.2.2.1, y144.2.2.2.1, y144.2.2.2.2.1, y144.2.2.2.2.2.1, y144.2.2.2.2.2.2.1, y144.2.2.2.2.2.2.2.1, y144.2.2.2.2.2.2.2.2.1, y144.2.2.2.2.2.2.2.2.2.1, y144.2.2.2.2.2.2.2.2.2.2.1, y144.2.2.2.2.2.2.2.2.2.2.2.1, y144.2.2.2.2.2.2.2.2.2.2.2.2.1, y144.2.2.2.2.2.2.2.2.2.2.2.2.2.1, [], y144.2.2.2.2.2.2.2.2.2.2.2.2.2.2.2.1, ([], y144.2.2.2.2.2.2.2.2.2.2.2.2.2.2.2.2.2)), 1))))
  else
  (bindO (M_s_Leave x0) fun (y154 : Bool × Int × (List Int × Int) × Int × Int × Int × Int × Int × Int × Int × List (List Int) × (List (List Int × Int)) × Int × (List Int × Int) × List Int × Int × List Int × Int) =>
  some ((y154.1, y154.2.1, y154.2.2.1, y154.2.2.2.1, y154.2.2.2.2.1, y154.2.2.2.2.2.1, y154.2.2.2.2.2.2.1, y154.2.2.2.2.2.2.2.1, y154.2.2.2.2.2.2.2.2.1, y154.2.2.2.2.2.2.2.2.2.1, y154.2.2.2.2.2.2.2.2.2.2.1, y154.2.2.2.2.2.2.2.2.2.2.2.1, y154.2.2.2.2.2.2.2.2.2.2.2.2.1, y154.2.2.2.2.2.2.2.2.2.2.2.2.2.1, [], y154.2.2.2.2.2.2.2.2.2.2.2.2.2.2.2.1, ([], y154.2.2.2.2.2.2.2.2.2.2.2.2.2.2.2.2.2)), 0)))))))) fun j45 =>
  (bif (decide (x0.2.2.2.2.2.2.2.2.2.2.2.2.2.2.2.1 = 0)) then
  (bindO (M_s_HistLast x1) fun (y40 : Int) =>
  j45 (y40, y40))
  else
  j45 (x0.2.2.2.2.2.2.2.2.2.2.2.2.2.2.2.1, (W (x0.2.2.2.2.2.2.2.2.2.2.2.2.2.2.2.1 - 1)))))))))

theorem ok_s_SearchKey (x0 : Bool × Int × (List Int × Int) × Int × Int × Int × Int × Int × Int × Int × List (List Int) × (List (List Int × Int)) × Int × (List Int × Int) × List Int × Int × List Int × Int) (x1 : Int × List (List UInt8)) (x2 : Int × Int) (a4 : Option Addr) (c5 : Nat) (l6 : Nat) (hl7 : x0.2.2.1.1.length = l6) (a8 : Option Addr) (c9 : Nat) (l10 : Nat) (hl11 : x0.2.2.2.2.2.2.2.2.2.2.1.length = l10) (a12 : Option Addr) (c13 : Nat) (l14 : Nat) (hl15 : x0.2.2.2.2.2.2.2.2.2.2.2.1.length = l14) (a16 : Option Addr) (c17 : Nat) (l18 : Nat) (hl19 : x0.2.2.2.2.2.2.2.2.2.2.2.2.2.1.1.length = l18) (a20 : Option Addr) (c21 : Nat) (l22 : Nat) (hl23 : x0.2.2.2.2.2.2.2.2.2.2.2.2.2.2.1.length = l22) (a24 : Option Addr) (c25 : Nat) (l26 : Nat) (hl27 : x0.2.2.2.2.2.2.2.2.2.2.2.2.2.2.2.2.1.length = l26) (a28 : Option Addr) (c29 : Nat) (l30 : Nat) (hl31 : x1.2.length = l30) (r : (Bool × Int × (List Int × Int) × Int × Int × Int × Int × Int × Int × Int × List (List Int) × (List (List Int × Int)) × Int × (List Int × Int) × List Int × Int × List Int × Int) × Int) (h : M_s_SearchKey x0 x1 x2 = some r) :
    FC Tryz.prog 24 [.agg #[.bool x0.1, .int .i64 x0.2.1, .slice a4 l6 c5, .int .i64 x0.2.2.1.2, .int .i64 x0.2.2.2.1, .int .i64 x0.2.2.2.2.1, .int .i64 x0.2.2.2.2.2.1, .int .i64 x0.2.2.2.2.2.2.1, .int .i64 x0.2.2.2.2.2.2.2.1, .int .i64 x0.2.2.2.2.2.2.2.2.1, .int .i64 x0.2.2.2.2.2.2.2.2.2.1, .slice a8 l10 c9, .slice a12 l14 c13, .int .i64 x0.2.2.2.2.2.2.2.2.2.2.2.2.1, .slice a16 l18 c17, .int .i64 x0.2.2.2.2.2.2.2.2.2.2.2.2.2.1.2, .slice a20 l22 c21, .int .i64 x0.2.2.2.2.2.2.2.2.2.2.2.2.2.2.2.1, .slice a24 l26 c25, .int .i64 x0.2.2.2.2.2.2.2.2.2.2.2.2.2.2.2.2.2], .agg #[.int .i64 x1.1, .slice a28 l30 c29], .agg #[.int .i64 x2.1, .int .i64 x2.2]] [⟨(.int .i64), ⟨a4, l6, c5⟩, x0.2.2.1.1⟩, ⟨(.sl (.int .i64)), ⟨a8, l10, c9⟩, x0.2.2.2.2.2.2.2.2.2.2.1⟩, ⟨(.pair (.sl (.int .i64)) (.int .i64)), ⟨a12, l14, c13⟩, x0.2.2.2.2.2.2.2.2.2.2.2.1⟩, ⟨(.int .i64), ⟨a16, l18, c17⟩, x0.2.2.2.2.2.2.2.2.2.2.2.2.2.1.1⟩, ⟨(.int .i64), ⟨a20, l22, c21⟩, x0.2.2.2.2.2.2.2.2.2.2.2.2.2.2.1⟩, ⟨(.int .i64), ⟨a24, l26, c25⟩, x0.2.2.2.2.2.2.2.2.2.2.2.2.2.2.2.2.1⟩, ⟨.str, ⟨a28, l30, c29⟩, x1.2⟩] (fun _ : Option Addr × Nat × Option Addr × Nat × Option Addr × Nat × Option Addr × Nat × Option Addr × Nat × Option Addr × Nat => True) (fun q => .tuple #[.agg (cl46 r.1 q.1 q.2.1 q.2.2.1 q.2.2.2.1 q.2.2.2.2.1 q.2.2.2.2.2.1 q.2.2.2.2.2.2.1 q.2.2.2.2.2.2.2.1 q.2.2.2.2.2.2.2.2.1 q.2.2.2.2.2.2.2.2.2.1 q.2.2.2.2.2.2.2.2.2.2.1 q.2.2.2.2.2.2.2.2.2.2.2).toArray, .int .i64 r.2]) (fun q => [⟨(.int .i64), ⟨q.1, r.1.2.2.1.1.length, q.2.1⟩, r.1.2.2.1.1⟩, ⟨(.sl (.int .i64)), ⟨q.2.2.1, r.1.2.2.2.2.2.2.2.2.2.2.1.length, q.2.2.2.1⟩, r.1.2.2.2.2.2.2.2.2.2.2.1⟩, ⟨(.pair (.sl (.int .i64)) (.int .i64)), ⟨q.2.2.2.2.1, r.1.2.2.2.2.2.2.2.2.2.2.2.1.length, q.2.2.2.2.2.1⟩, r.1.2.2.2.2.2.2.2.2.2.2.2.1⟩, ⟨(.int .i64), ⟨q.2.2.2.2.2.2.1, r.1.2.2.2.2.2.2.2.2.2.2.2.2.2.1.1.length, q.2.2.2.2.2.2.2.1⟩, r.1.2.2.2.2.2.2.2.2.2.2.2.2.2.1.1⟩, ⟨(.int .i64), ⟨q.2.2.2.2.2.2.2.2.1, r.1.2.2.2.2.2.2.2.2.2.2.2.2.2.2.1.length, q.2.2.2.2.2.2.2.2.2.1⟩, r.1.2.2.2.2.2.2.2.2.2.2.2.2.2.2.1⟩, ⟨(.int .i64), ⟨q.2.2.2.2.2.2.2.2.2.2.1, r.1.2.2.2.2.2.2.2.2.2.2.2.2.2.2.2.2.1.length, q.2.2.2.2.2.2.2.2.2.2.2⟩, r.1.2.2.2.2.2.2.2.2.2.2.2.2.2.2.2.2.1⟩]) :=
  by
    subst hl7
    subst hl11
    subst hl15
    subst hl19
    subst hl23
    subst hl27
    subst hl31
    refine FC.of (T := TTx) Tryz.call24 Tryz.func24 rfl rfl fun w0 => ?_
    unfold M_s_SearchKey at h
    refine JS.rgB ttOk 5 [] [8, 9, 10, 11] [(3, .bp 8 0), (4, .bp 9 0), (5, .bp 10 0), (6, .bp 11 0)] (.new 8 46 (cl46 x0 a4 c5 a8 c9 a12 c13 a16 c17 a20 c21 a24 c25) (.new 9 50 [.int .i64 x1.1, .slice a28 x1.2.length c29] (.new 10 64 [.int .i64 x2.1, .int .i64 x2.2] (.new 11 46 (cl46 (false, 0, ([], 0), 0, 0, 0, 0, 0, 0, 0, [], [], 0, ([], 0), [], 0, ([], 0)) none 0 none 0 none 0 none 0 none 0 none 0) .nil)))) ⟨(Es rfl), (Bs rfl rfl)⟩ rfl rfl (JS.seq (JS.seq (JS.region (JO.reg ttOk 1 [] [] [(12, .v (.agg (cl46 x0 a4 c5 a8 c9 a12 c13 a16 c17 a20 c21 a24 c25).toArray))] _ rfl ⟨⟨rfl, trivial⟩, rfl⟩ ?_))))
    obtain ⟨y32, hy33, h⟩ := bindO_some h
    refine JO.call rfl rfl rfl rfl (ok_s_EdOk x0 a4 c5 x0.2.2.1.1.length rfl a8 c9 x0.2.2.2.2.2.2.2.2.2.2.1.length rfl a12 c13 x0.2.2.2.2.2.2.2.2.2.2.2.1.length rfl a16 c17 x0.2.2.2.2.2.2.2.2.2.2.2.2.2.1.1.length rfl a20 c21 x0.2.2.2.2.2.2.2.2.2.2.2.2.2.2.1.length rfl a24 c25 x0.2.2.2.2.2.2.2.2.2.2.2.2.2.2.2.2.1.length rfl _ hy33) rfl [0, 1, 2, 3, 4, 5] rfl rfl fun _ _ => JO.reg ttOk 3 [] [] [(15, .v (.bool (!y32))), (16, .cd [(15, false)] (.v (.agg #[.int .i64 x1.1, .slice a28 x1.2.length c29])))] _ rfl ⟨(Es rfl), rfl⟩ ?_
    obtain ⟨y34, hy35, -, h⟩ := callO_some h
    refine JO.callg rfl rfl rfl rfl (fun q171 => ok_s_HistOk x1 a28 c29 x1.2.length rfl _ (hy35 q171)) rfl [6] rfl rfl (JO.reg ttOk 4 [] [] [(20, .v (.bool (bif (!y32) then true else (!y34)))), (21, .cd [(20, false)] (.v (.agg #[.int .i64 x2.1, .int .i64 x2.2])))] _ rfl ⟨(Es rfl), rfl⟩ ?_)
    obtain ⟨y37, hy38, -, h⟩ := callO_some h
    refine JO.callg rfl rfl rfl rfl (fun q172 => ok_s_KeyOk x2 _ (hy38 q172)) rfl [] rfl rfl (JO.reg ttOk 7 [] [] [(29, .v (.bool (bif (bif (bif (!y32) then true else (!y34)) then true else (!y37)) then true else (!(decide (x0.2.1 = 3))))))] _ rfl ⟨⟨rfl, trivial⟩, rfl⟩ (JO.done rfl ?_))
    refine JS.cond rfl (fun ht182 => ?_) (fun ht182 => ?_)
    · have h := condT h ht182
      refine JS.rgB ttOk 3 [] [] [(7, .v (.int .i64 0))] (.new 11 46 (cl46 (false, 0, ([], 0), 0, 0, 0, 0, 0, 0, 0, [], [], 0, ([], 0), [], 0, ([], 0)) none 0 none 0 none 0 none 0 none 0 none 0) .nil) ⟨⟨rfl, trivial⟩, (Bs rfl rfl)⟩ rfl rfl ?_
      cases h
      refine JS.nilO (.int .i64) Sl.nil rfl rfl (JS.nilO (.sl (.int .i64)) Sl.nil rfl rfl (JS.nilO (.pair (.sl (.int .i64)) (.int .i64)) Sl.nil rfl rfl (JS.nilO (.int .i64) Sl.nil rfl rfl (JS.nilO (.int .i64) Sl.nil rfl rfl (JS.nilO (.int .i64) Sl.nil rfl rfl (JS.ret ttOk (none, 0, none, 0, none, 0, none, 0, none, 0, none, 0) trivial rfl rfl [5, 4, 3, 2, 1, 0] rfl))))))
    have h := condF h ht182
    refine JS.skip (JS.rg0 ttOk 3 [(8, .v (.int .i64 x0.2.2.2.2.2.2.2.2.2.2.2.2.2.2.2.1))] ⟨⟨rfl, trivial⟩, rfl⟩ rfl rfl (JS.rg ttOk 4 [(W (x0.2.2.2.2.2.2.2.2.2.2.2.2.2.2.2.1 - 1))] [] [(9, .v (.int .i64 (W (x0.2.2.2.2.2.2.2.2.2.2.2.2.2.2.2.1 - 1))))] _ ⟨⟨trivial, rfl⟩, ⟨rfl, trivial⟩, rfl⟩ rfl rfl ?_))
    obtain ⟨j45, hj181, h⟩ := joinO_some h
    refine JS.seqJ (ι := Int × Int) ⟨fun z => j45 (z.1, z.2) = some r, fun z => [(3, .bp 8 0), (4, .bp 9 0), (5, .bp 10 0), (6, .bp 11 0), (8, .v (.int .i64 z.1)), (9, .v (.int .i64 z.2))], fun z => (.new 8 46 (cl46 x0 a4 c5 a8 c9 a12 c13 a16 c17 a20 c21 a24 c25) (.new 9 50 [.int .i64 x1.1, .slice a28 x1.2.length c29] (.new 10 64 [.int .i64 x2.1, .int .i64 x2.2] (.new 11 46 (cl46 (false, 0, ([], 0), 0, 0, 0, 0, 0, 0, 0, [], [], 0, ([], 0), [], 0, ([], 0)) none 0 none 0 none 0 none 0 none 0 none 0) .nil)))), fun z => [⟨(.int .i64), ⟨a4, x0.2.2.1.1.length, c5⟩, x0.2.2.1.1⟩, ⟨(.sl (.int .i64)), ⟨a8, x0.2.2.2.2.2.2.2.2.2.2.1.length, c9⟩, x0.2.2.2.2.2.2.2.2.2.2.1⟩, ⟨(.pair (.sl (.int .i64)) (.int .i64)), ⟨a12, x0.2.2.2.2.2.2.2.2.2.2.2.1.length, c13⟩, x0.2.2.2.2.2.2.2.2.2.2.2.1⟩, ⟨(.int .i64), ⟨a16, x0.2.2.2.2.2.2.2.2.2.2.2.2.2.1.1.length, c17⟩, x0.2.2.2.2.2.2.2.2.2.2.2.2.2.1.1⟩, ⟨(.int .i64), ⟨a20, x0.2.2.2.2.2.2.2.2.2.2.2.2.2.2.1.length, c21⟩, x0.2.2.2.2.2.2.2.2.2.2.2.2.2.2.1⟩, ⟨(.int .i64), ⟨a24, x0.2.2.2.2.2.2.2.2.2.2.2.2.2.2.2.2.1.length, c25⟩, x0.2.2.2.2.2.2.2.2.2.2.2.2.2.2.2.2.1⟩, ⟨.str, ⟨a28, x1.2.length, c29⟩, x1.2⟩], fun z => [], fun z => 0⟩ ?_ ?_
    · refine JS.rg0 ttOk 3 [(38, .v (.bool (decide (x0.2.2.2.2.2.2.2.2.2.2.2.2.2.2.2.1 = 0))))] ⟨⟨rfl, trivial⟩, rfl⟩ rfl rfl ?_
      refine JS.cond rfl (fun ht173 => ?_) (fun ht173 => ?_)
      · have h := condT h ht173
        refine JS.seq (JS.region (JO.reg ttOk 1 [] [] [(39, .v (.agg #[.int .i64 x1.1, .slice a28 x1.2.length c29]))] _ rfl ⟨⟨rfl, trivial⟩, rfl⟩ ?_))
        obtain ⟨y40, hy41, h⟩ := bindO_some h
        refine JO.call rfl rfl rfl rfl (ok_s_HistLast x1 a28 c29 x1.2.length rfl _ hy41) rfl [6] rfl rfl fun _ _ => JO.reg ttOk 1 [] [] [(8, .v (.int .i64 y40))] _ rfl ⟨⟨rfl, trivial⟩, rfl⟩ (JO.done rfl (JS.re0 ttOk 2 [(9, .v (.int .i64 y40))] ⟨⟨rfl, trivial⟩, rfl⟩ rfl rfl (JS.endJ (y40, y40) h (Es rfl) (Bs rfl rfl) [0, 1, 2, 3, 4, 5, 6] rfl [] rfl)))
      have h := condF h ht173
      refine JS.skip (JS.endJ (x0.2.2.2.2.2.2.2.2.2.2.2.2.2.2.2.1, (W (x0.2.2.2.2.2.2.2.2.2.2.2.2.2.2.2.1 - 1))) h (Es rfl) (Bs rfl rfl) [0, 1, 2, 3, 4, 5, 6] rfl [] rfl)
    rintro ⟨x43, x44⟩ h
    subst hj181
    refine JS.seq (JS.block (JS.rg0 ttOk 4 [(42, .v (.bool (decide (x2.1 = 1))))] ⟨⟨rfl, trivial⟩, rfl⟩ rfl rfl ?_))
    refine JS.cond rfl (fun ht180 => ?_) (fun ht180 => ?_)
    · have h := condT h ht180
      refine JS.seq ?_
      obtain ⟨y48, hy49, h⟩ := bindO_some h
      obtain ⟨⟨y52, y53⟩, hy54, h⟩ := bindO_some h
      refine JS.regionA rfl (.new 8 46 (cl46 x0 a4 c5 a8 c9 a12 c13 a16 c17 a20 c21 a24 c25) (.new 9 50 [.int .i64 x1.1, .slice a28 x1.2.length c29] (.new 10 64 [.int .i64 x2.1, .int .i64 x2.2] .nil))) [] [9, 10, 11, 12, 13] ⟨rfl, rfl, rfl, rfl, rfl, rfl, rfl, rfl, rfl, rfl, rfl, rfl, trivial⟩ rfl (fun be67 => ?_)
      refine JA.reg ttOk panic_cx true 7 [0, 1, 2, 3, 4, 5, 8] rfl (by kernel_rfl) [] [(46, .v (.agg (cl46 x0 a4 c5 a8 c9 a12 c13 a16 c17 a20 c21 a24 c25).toArray)), (47, .v (.agg #[.int .i64 x1.1, .slice a28 x1.2.length c29])), (49, .v (.slice a20 x0.2.2.2.2.2.2.2.2.2.2.2.2.2.2.1.length c21)), (51, .v (.int .i64 x2.2)), (54, .v (.int .i64 x43))] ⟨rfl, rfl, rfl, rfl, rfl, rfl, rfl, rfl, rfl, rfl, rfl, rfl, trivial⟩ [] rfl rfl (Es rfl) (JA.one 6 (by kernel_rfl) (JK.buildSlice ttOk rfl rfl rfl rfl rfl rfl rfl rfl rfl rfl rfl [] rfl (.int .i64) [x2.2] ⟨rfl, rfl⟩ rfl rfl fun a47 => JA.next ⟨rfl, rfl, rfl, rfl, rfl, rfl, rfl, rfl, rfl, rfl, rfl, rfl, trivial⟩ [] rfl (JA.one 7 (by kernel_rfl) (JK.nilR (.int .i64) Sl.nil rfl rfl (JK.call rfl rfl rfl rfl (ok_s_l13Join x0.2.2.2.2.2.2.2.2.2.2.2.2.2.2.1 ([x2.2] : List Int) ([] : List Int) a20 c21 x0.2.2.2.2.2.2.2.2.2.2.2.2.2.2.1.length rfl a47 (([x2.2] : List Int).length) (([x2.2] : List Int).length) rfl none 0 (([] : List Int).length) rfl _ hy49) rfl [5, 8, 0] rfl rfl ?_)))))
      rintro ⟨a50, c51⟩ -
      refine JA.next ⟨rfl, rfl, rfl, rfl, rfl, rfl, rfl, rfl, rfl, rfl, rfl, rfl, trivial⟩ [] rfl (JA.one 9 (by kernel_rfl) (JK.call rfl rfl rfl rfl (ok_s_l25Find x0 x1 y48 x43 a4 c5 x0.2.2.1.1.length rfl a8 c9 x0.2.2.2.2.2.2.2.2.2.2.1.length rfl a12 c13 x0.2.2.2.2.2.2.2.2.2.2.2.1.length rfl a16 c17 x0.2.2.2.2.2.2.2.2.2.2.2.2.2.1.1.length rfl a20 c21 x0.2.2.2.2.2.2.2.2.2.2.2.2.2.2.1.length rfl a24 c25 x0.2.2.2.2.2.2.2.2.2.2.2.2.2.2.2.2.1.length rfl a28 c29 x1.2.length rfl a50 c51 y48.length rfl _ hy54) rfl [1, 2, 3, 4, 5, 6, 7, 8] rfl rfl ?_))
      rintro ⟨a55, c56, a57, c58, a59, c60, a61, c62, a63, c64, a65, c66⟩ -
      refine JA.nextL rfl (JA.regL ttOk panic_cx 2 [10, 11] rfl (by kernel_rfl) [] [(56, .v (.agg (cl46 y52 a55 c56 a57 c58 a59 c60 a61 c62 a63 c64 a65 c66).toArray)), (57, .v (.int .i64 y53))] rfl (Es rfl) (JA.one 12 (by kernel_rfl) (JK.stBox ttOk rfl rfl rfl rfl rfl rfl rfl rfl (JA.nextL rfl (JA.regL ttOk panic_cx 0 [13] rfl (by kernel_rfl) [] [(7, .v (.int .i64 y53))] rfl ⟨rfl, trivial⟩ (JA.done (by kernel_rfl) (JS.boxes (B' := (.new 11 46 (cl46 y52 a55 c56 a57 c58 a59 c60 a61 c62 a63 c64 a65 c66) .nil)) (Bs rfl rfl) ?_)))))))
      cases h
      exact JS.ret ttOk (a55, c56, a57, c58, a59, c60, a61, c62, a63, c64, a65, c66) trivial rfl rfl [0, 0, 0, 0, 0, 0] rfl
    have h := condF h ht180
    refine JS.rg0 ttOk 9 [(58, .v (.bool (bif (decide (x2.1 = 2)) then (decide (x2.2 = 114)) else false)))] ⟨⟨rfl, trivial⟩, rfl⟩ rfl rfl ?_
    refine JS.cond rfl (fun ht179 => ?_) (fun ht179 => ?_)
    · have h := condT h ht179
      refine JS.seq (JS.rg0 ttOk 4 [(70, .v (.bool (decide ((x0.2.2.2.2.2.2.2.2.2.2.2.2.2.2.1.length : Int) = 0))))] ⟨⟨rfl, trivial⟩, rfl⟩ rfl rfl ?_)
      refine JS.cond rfl (fun ht174 => ?_) (fun ht174 => ?_)
      · have h := condT h ht174
        refine JS.seq (JS.region (JO.reg ttOk 1 [] [] [(71, .v (.agg (cl46 x0 a4 c5 a8 c9 a12 c13 a16 c17 a20 c21 a24 c25).toArray))] _ rfl ⟨⟨rfl, trivial⟩, rfl⟩ ?_))
        obtain ⟨y68, hy69, h⟩ := bindO_some h
        refine JO.call rfl rfl rfl rfl (ok_s_l21Copy x0 a4 c5 x0.2.2.1.1.length rfl a8 c9 x0.2.2.2.2.2.2.2.2.2.2.1.length rfl a12 c13 x0.2.2.2.2.2.2.2.2.2.2.2.1.length rfl a16 c17 x0.2.2.2.2.2.2.2.2.2.2.2.2.2.1.1.length rfl a20 c21 x0.2.2.2.2.2.2.2.2.2.2.2.2.2.2.1.length rfl a24 c25 x0.2.2.2.2.2.2.2.2.2.2.2.2.2.2.2.2.1.length rfl _ hy69) rfl [0, 1, 2, 3, 4, 5] rfl rfl ?_
        rintro ⟨a70, c71, a72, c73, a74, c75, a76, c77, a78, c79, a80, c81⟩ -
        refine JO.regB ttOk 2 [] [] [(7, .v (.int .i64 1))] (.new 11 46 (cl46 y68 a70 c71 a72 c73 a74 c75 a76 c77 a78 c79 a80 c81) .nil) rfl ⟨⟨rfl, trivial⟩, (Bs rfl rfl)⟩ (JO.done rfl ?_)
        cases h
        exact JS.ret ttOk (a70, c71, a72, c73, a74, c75, a76, c77, a78, c79, a80, c81) trivial rfl rfl [0, 0, 0, 0, 0, 0] rfl
      have h := condF h ht174
      refine JS.skip (JS.seq (JS.region (JO.reg ttOk 5 [] [] [(73, .v (.agg (cl46 x0 a4 c5 a8 c9 a12 c13 a16 c17 a20 c21 a24 c25).toArray)), (74, .v (.agg #[.int .i64 x1.1, .slice a28 x1.2.length c29])), (76, .v (.slice a20 x0.2.2.2.2.2.2.2.2.2.2.2.2.2.2.1.length c21)), (77, .v (.int .i64 x44))] _ rfl ⟨(Es rfl), rfl⟩ ?_)))
      obtain ⟨⟨y82, y83⟩, hy84, h⟩ := bindO_some h
      refine JO.call rfl rfl rfl rfl (ok_s_l25Find x0 x1 x0.2.2.2.2.2.2.2.2.2.2.2.2.2.2.1 x44 a4 c5 x0.2.2.1.1.length rfl a8 c9 x0.2.2.2.2.2.2.2.2.2.2.1.length rfl a12 c13 x0.2.2.2.2.2.2.2.2.2.2.2.1.length rfl a16 c17 x0.2.2.2.2.2.2.2.2.2.2.2.2.2.1.1.length rfl a20 c21 x0.2.2.2.2.2.2.2.2.2.2.2.2.2.2.1.length rfl a24 c25 x0.2.2.2.2.2.2.2.2.2.2.2.2.2.2.2.2.1.length rfl a28 c29 x1.2.length rfl a20 c21 x0.2.2.2.2.2.2.2.2.2.2.2.2.2.2.1.length rfl _ hy84) rfl [0, 1, 2, 3, 4, 5, 6, 4] rfl rfl ?_
      rintro ⟨a85, c86, a87, c88, a89, c90, a91, c92, a93, c94, a95, c96⟩ -
      refine JO.regB ttOk 4 [] [] [(7, .v (.int .i64 y83))] (.new 11 46 (cl46 y82 a85 c86 a87 c88 a89 c90 a91 c92 a93 c94 a95 c96) .nil) rfl ⟨⟨rfl, trivial⟩, (Bs rfl rfl)⟩ (JO.done rfl ?_)
      cases h
      exact JS.ret ttOk (a85, c86, a87, c88, a89, c90, a91, c92, a93, c94, a95, c96) trivial rfl rfl [0, 0, 0, 0, 0, 0] rfl
    have h := condF h ht179
    refine JS.rg0 ttOk 4 [(81, .v (.bool (decide (x2.1 = 5))))] ⟨⟨rfl, trivial⟩, rfl⟩ rfl rfl ?_
    refine JS.cond rfl (fun ht178 => ?_) (fun ht178 => ?_)
    · have h := condT h ht178
      refine JS.seq (JS.region (JO.reg ttOk 1 [] [] [(85, .v (.agg (cl46 x0 a4 c5 a8 c9 a12 c13 a16 c17 a20 c21 a24 c25).toArray))] _ rfl ⟨⟨rfl, trivial⟩, rfl⟩ ?_))
      obtain ⟨y98, hy99, h⟩ := bindO_some h
      refine JO.call rfl rfl rfl rfl (ok_s_l21Copy x0 a4 c5 x0.2.2.1.1.length rfl a8 c9 x0.2.2.2.2.2.2.2.2.2.2.1.length rfl a12 c13 x0.2.2.2.2.2.2.2.2.2.2.2.1.length rfl a16 c17 x0.2.2.2.2.2.2.2.2.2.2.2.2.2.1.1.length rfl a20 c21 x0.2.2.2.2.2.2.2.2.2.2.2.2.2.2.1.length rfl a24 c25 x0.2.2.2.2.2.2.2.2.2.2.2.2.2.2.2.2.1.length rfl _ hy99) rfl [0, 1, 2, 3, 4, 5] rfl rfl ?_
      rintro ⟨a100, c101, a102, c103, a104, c105, a106, c107, a108, c109, a110, c111⟩ -
      refine JO.regB ttOk 2 [] [114] [(10, .bp 114 0)] (.new 8 46 (cl46 x0 a4 c5 a8 c9 a12 c13 a16 c17 a20 c21 a24 c25) (.new 11 46 (cl46 (false, 0, ([], 0), 0, 0, 0, 0, 0, 0, 0, [], [], 0, ([], 0), [], 0, ([], 0)) none 0 none 0 none 0 none 0 none 0 none 0) (.new 114 46 (cl46 y98 a100 c101 a102 c103 a104 c105 a106 c107 a108 c109 a110 c111) .nil))) rfl ⟨⟨rfl, trivial⟩, (Bs rfl rfl)⟩ (JO.done rfl (JS.seq (JS.rg0 ttOk 4 [(90, .v (.bool (decide ((x0.2.2.2.2.2.2.2.2.2.2.2.2.2.2.1.length : Int) = 0))))] ⟨⟨rfl, trivial⟩, rfl⟩ rfl rfl ?_)))
      refine JS.cond rfl (fun ht175 => ?_) (fun ht175 => ?_)
      · have h := condT h ht175
        refine JS.rgB ttOk 3 [] [] [(7, .v (.int .i64 1))] (.new 11 46 (cl46 y98 a100 c101 a102 c103 a104 c105 a106 c107 a108 c109 a110 c111) .nil) ⟨⟨rfl, trivial⟩, (Bs rfl rfl)⟩ rfl rfl ?_
        cases h
        exact JS.ret ttOk (a100, c101, a102, c103, a104, c105, a106, c107, a108, c109, a110, c111) trivial rfl rfl [0, 0, 0, 0, 0, 0] rfl
      have h := condF h ht175
      refine JS.skip (JS.seq (JS.region (JO.reg ttOk 6 [(W ((y98.2.2.2.2.2.2.2.2.2.2.2.2.2.2.1.length : Int) - 1))] [] [(93, .v (.slice a108 y98.2.2.2.2.2.2.2.2.2.2.2.2.2.2.1.length c109)), (97, .v (.int .i64 (W ((y98.2.2.2.2.2.2.2.2.2.2.2.2.2.2.1.length : Int) - 1))))] _ rfl ⟨⟨trivial, rfl⟩, (Es rfl), rfl⟩ ?_)))
      obtain ⟨g112, h⟩ := guardO_some h
      refine JO.sliceO' ttOk rfl rfl rfl rfl rfl rfl rfl rfl [4] rfl (0 : Int) (W ((y98.2.2.2.2.2.2.2.2.2.2.2.2.2.2.1.length : Int) - 1)) rfl rfl g112 rfl fun a113 c114 => JO.regB ttOk 2 [] [] [] (.new 11 46 (cl46 (false, 0, ([], 0), 0, 0, 0, 0, 0, 0, 0, [], [], 0, ([], 0), [], 0, ([], 0)) none 0 none 0 none 0 none 0 none 0 none 0) (.new 114 46 (cl46 (y98.1, y98.2.1, y98.2.2.1, y98.2.2.2.1, y98.2.2.2.2.1, y98.2.2.2.2.2.1, y98.2.2.2.2.2.2.1, y98.2.2.2.2.2.2.2.1, y98.2.2.2.2.2.2.2.2.1, y98.2.2.2.2.2.2.2.2.2.1, y98.2.2.2.2.2.2.2.2.2.2.1, y98.2.2.2.2.2.2.2.2.2.2.2.1, y98.2.2.2.2.2.2.2.2.2.2.2.2.1, y98.2.2.2.2.2.2.2.2.2.2.2.2.2.1, (sub' y98.2.2.2.2.2.2.2.2.2.2.2.2.2.2.1 0 (W ((y98.2.2.2.2.2.2.2.2.2.2.2.2.2.2.1.length : Int) - 1))), y98.2.2.2.2.2.2.2.2.2.2.2.2.2.2.2.1, y98.2.2.2.2.2.2.2.2.2.2.2.2.2.2.2.2) a100 c101 a102 c103 a104 c105 a106 c107 a113 c114 a110 c111) .nil)) rfl ⟨trivial, (Bs rfl rfl)⟩ (JO.done rfl (JS.rgB ttOk 3 [] [] [(7, .v (.int .i64 0))] (.new 11 46 (cl46 (y98.1, y98.2.1, y98.2.2.1, y98.2.2.2.1, y98.2.2.2.2.1, y98.2.2.2.2.2.1, y98.2.2.2.2.2.2.1, y98.2.2.2.2.2.2.2.1, y98.2.2.2.2.2.2.2.2.1, y98.2.2.2.2.2.2.2.2.2.1, y98.2.2.2.2.2.2.2.2.2.2.1, y98.2.2.2.2.2.2.2.2.2.2.2.1, y98.2.2.2.2.2.2.2.2.2.2.2.2.1, y98.2.2.2.2.2.2.2.2.2.2.2.2.2.1, (sub' y98.2.2.2.2.2.2.2.2.2.2.2.2.2.2.1 0 (W ((y98.2.2.2.2.2.2.2.2.2.2.2.2.2.2.1.length : Int) - 1))), y98.2.2.2.2.2.2.2.2.2.2.2.2.2.2.2.1, y98.2.2.2.2.2.2.2.2.2.2.2.2.2.2.2.2) a100 c101 a102 c103 a104 c105 a106 c107 a113 c114 a110 c111) .nil) ⟨⟨rfl, trivial⟩, (Bs rfl rfl)⟩ rfl rfl ?_))
      cases h
      exact JS.ret ttOk (a100, c101, a102, c103, a104, c105, a106, c107, a113, c114, a110, c111) trivial rfl rfl [1, 1, 1, 1, 0, 0] rfl
    have h := condF h ht178
    refine JS.rg0 ttOk 4 [(101, .v (.bool (decide (x2.1 = 4))))] ⟨⟨rfl, trivial⟩, rfl⟩ rfl rfl ?_
    refine JS.cond rfl (fun ht177 => ?_) (fun ht177 => ?_)
    · have h := condT h ht177
      refine JS.seq (JS.region (JO.reg ttOk 1 [] [] [(105, .v (.agg (cl46 x0 a4 c5 a8 c9 a12 c13 a16 c17 a20 c21 a24 c25).toArray))] _ rfl ⟨⟨rfl, trivial⟩, rfl⟩ ?_))
      obtain ⟨y116, hy117, h⟩ := bindO_some h
      refine JO.call rfl rfl rfl rfl (ok_s_Leave x0 a4 c5 x0.2.2.1.1.length rfl a8 c9 x0.2.2.2.2.2.2.2.2.2.2.1.length rfl a12 c13 x0.2.2.2.2.2.2.2.2.2.2.2.1.length rfl a16 c17 x0.2.2.2.2.2.2.2.2.2.2.2.2.2.1.1.length rfl a20 c21 x0.2.2.2.2.2.2.2.2.2.2.2.2.2.2.1.length rfl a24 c25 x0.2.2.2.2.2.2.2.2.2.2.2.2.2.2.2.2.1.length rfl _ hy117) rfl [0, 1, 2, 3, 4, 5] rfl rfl ?_
      rintro ⟨a118, c119, a120, c121, a122, c123, a124, c125⟩ -
      refine JO.regB ttOk 2 [] [] [(7, .v (.int .i64 2))] (.new 11 46 (cl46 (y116.1, y116.2.1, y116.2.2.1, y116.2.2.2.1, y116.2.2.2.2.1, y116.2.2.2.2.2.1, y116.2.2.2.2.2.2.1, y116.2.2.2.2.2.2.2.1, y116.2.2.2.2.2.2.2.2.1, y116.2.2.2.2.2.2.2.2.2.1, y116.2.2.2.2.2.2.2.2.2.2.1, y116.2.2.2.2.2.2.2.2.2.2.2.1, y116.2.2.2.2.2.2.2.2.2.2.2.2.1, y116.2.2.2.2.2.2.2.2.2.2.2.2.2.1, [], y116.2.2.2.2.2.2.2.2.2.2.2.2.2.2.2.1, ([], y116.2.2.2.2.2.2.2.2.2.2.2.2.2.2.2.2.2)) a118 c119 a120 c121 a122 c123 a124 c125 none 0 none 0) .nil) rfl ⟨⟨rfl, trivial⟩, (Bs rfl rfl)⟩ (JO.done rfl ?_)
      cases h
      refine JS.nilO (.int .i64) Sl.nil rfl rfl (JS.nilO (.int .i64) Sl.nil rfl rfl (JS.ret ttOk (a118, c119, a120, c121, a122, c123, a124, c125, none, 0, none, 0) trivial rfl rfl [2, 2, 2, 2, 1, 0] rfl))
    have h := condF h ht177
    refine JS.rg0 ttOk 14 [(107, .v (.bool (bif (decide (x2.1 = 2)) then (bif (decide (x2.2 = 103)) then true else (decide (x2.2 = 99))) else false)))] ⟨⟨rfl, trivial⟩, rfl⟩ rfl rfl ?_
    refine JS.cond rfl (fun ht176 => ?_) (fun ht176 => ?_)
    · have h := condT h ht176
      refine JS.seq (JS.region (JO.reg ttOk 1 [] [] [(121, .v (.agg (cl46 x0 a4 c5 a8 c9 a12 c13 a16 c17 a20 c21 a24 c25).toArray))] _ rfl ⟨⟨rfl, trivial⟩, rfl⟩ ?_))
      obtain ⟨y126, hy127, h⟩ := bindO_some h
      refine JO.call rfl rfl rfl rfl (ok_s_l21Copy x0 a4 c5 x0.2.2.1.1.length rfl a8 c9 x0.2.2.2.2.2.2.2.2.2.2.1.length rfl a12 c13 x0.2.2.2.2.2.2.2.2.2.2.2.1.length rfl a16 c17 x0.2.2.2.2.2.2.2.2.2.2.2.2.2.1.1.length rfl a20 c21 x0.2.2.2.2.2.2.2.2.2.2.2.2.2.2.1.length rfl a24 c25 x0.2.2.2.2.2.2.2.2.2.2.2.2.2.2.2.2.1.length rfl _ hy127) rfl [0, 1, 2, 3, 4, 5] rfl rfl ?_
      rintro ⟨a128, c129, a130, c131, a132, c133, a134, c135, a136, c137, a138, c139⟩ -
      refine JO.regB ttOk 2 [] [153] [(11, .bp 153 0)] (.new 8 46 (cl46 x0 a4 c5 a8 c9 a12 c13 a16 c17 a20 c21 a24 c25) (.new 11 46 (cl46 (false, 0, ([], 0), 0, 0, 0, 0, 0, 0, 0, [], [], 0, ([], 0), [], 0, ([], 0)) none 0 none 0 none 0 none 0 none 0 none 0) (.new 153 46 (cl46 y126 a128 c129 a130 c131 a132 c133 a134 c135 a136 c137 a138 c139) .nil))) rfl ⟨⟨rfl, trivial⟩, (Bs rfl rfl)⟩ (JO.done rfl (JS.seq (JS.region (JO.reg ttOk 2 [] [] [(124, .v (.agg #[.slice a24 x0.2.2.2.2.2.2.2.2.2.2.2.2.2.2.2.2.1.length c25, .int .i64 x0.2.2.2.2.2.2.2.2.2.2.2.2.2.2.2.2.2]))] _ rfl ⟨⟨rfl, trivial⟩, rfl⟩ ?_))))
      obtain ⟨y140, hy141, h⟩ := bindO_some h
      refine JO.call rfl rfl rfl rfl (ok_s_l15Line x0.2.2.2.2.2.2.2.2.2.2.2.2.2.2.2.2 a24 c25 x0.2.2.2.2.2.2.2.2.2.2.2.2.2.2.2.2.1.length rfl _ hy141) rfl [5] rfl rfl ?_
      rintro ⟨a142, c143⟩ -
      refine JO.regB ttOk 2 [] [] [] (.new 11 46 (cl46 (false, 0, ([], 0), 0, 0, 0, 0, 0, 0, 0, [], [], 0, ([], 0), [], 0, ([], 0)) none 0 none 0 none 0 none 0 none 0 none 0) (.new 153 46 (cl46 (y126.1, y126.2.1, y140, y126.2.2.2.1, y126.2.2.2.2.1, y126.2.2.2.2.2.1, y126.2.2.2.2.2.2.1, y126.2.2.2.2.2.2.2.1, y126.2.2.2.2.2.2.2.2.1, y126.2.2.2.2.2.2.2.2.2.1, y126.2.2.2.2.2.2.2.2.2.2.1, y126.2.2.2.2.2.2.2.2.2.2.2.1, y126.2.2.2.2.2.2.2.2.2.2.2.2.1, y126.2.2.2.2.2.2.2.2.2.2.2.2.2.1, y126.2.2.2.2.2.2.2.2.2.2.2.2.2.2.1, y126.2.2.2.2.2.2.2.2.2.2.2.2.2.2.2.1, y126.2.2.2.2.2.2.2.2.2.2.2.2.2.2.2.2) a142 c143 a130 c131 a132 c133 a134 c135 a136 c137 a138 c139) .nil)) rfl ⟨trivial, (Bs rfl rfl)⟩ (JO.done rfl (JS.rgB ttOk 2 [] [] [] (.new 11 46 (cl46 (false, 0, ([], 0), 0, 0, 0, 0, 0, 0, 0, [], [], 0, ([], 0), [], 0, ([], 0)) none 0 none 0 none 0 none 0 none 0 none 0) (.new 153 46 (cl46 (y126.1, y126.2.1, y140, y126.2.2.2.1, y126.2.2.2.2.1, y126.2.2.2.2.2.1, y126.2.2.2.2.2.2.1, y126.2.2.2.2.2.2.2.1, y126.2.2.2.2.2.2.2.2.1, y126.2.2.2.2.2.2.2.2.2.1, y126.2.2.2.2.2.2.2.2.2.2.1, y126.2.2.2.2.2.2.2.2.2.2.2.1, 0, y126.2.2.2.2.2.2.2.2.2.2.2.2.2.1, y126.2.2.2.2.2.2.2.2.2.2.2.2.2.2.1, y126.2.2.2.2.2.2.2.2.2.2.2.2.2.2.2.1, y126.2.2.2.2.2.2.2.2.2.2.2.2.2.2.2.2) a142 c143 a130 c131 a132 c133 a134 c135 a136 c137 a138 c139) .nil)) ⟨trivial, (Bs rfl rfl)⟩ rfl rfl (JS.rgB ttOk 3 [] [] [] (.new 11 46 (cl46 (false, 0, ([], 0), 0, 0, 0, 0, 0, 0, 0, [], [], 0, ([], 0), [], 0, ([], 0)) none 0 none 0 none 0 none 0 none 0 none 0) (.new 153 46 (cl46 (y126.1, y126.2.1, y140, y126.2.2.2.1, y126.2.2.2.2.1, y126.2.2.2.2.2.1, y126.2.2.2.2.2.2.1, y126.2.2.2.2.2.2.2.1, y126.2.2.2.2.2.2.2.2.1, y126.2.2.2.2.2.2.2.2.2.1, y126.2.2.2.2.2.2.2.2.2.2.1, y126.2.2.2.2.2.2.2.2.2.2.2.1, 0, ([], 0), y126.2.2.2.2.2.2.2.2.2.2.2.2.2.2.1, y126.2.2.2.2.2.2.2.2.2.2.2.2.2.2.2.1, y126.2.2.2.2.2.2.2.2.2.2.2.2.2.2.2.2) a142 c143 a130 c131 a132 c133 none 0 a136 c137 a138 c139) .nil)) ⟨trivial, (Bs rfl rfl)⟩ rfl rfl (JS.seq (JS.region (JO.reg ttOk 1 [] [] [(130, .v (.agg (cl46 (y126.1, y126.2.1, y140, y126.2.2.2.1, y126.2.2.2.2.1, y126.2.2.2.2.2.1, y126.2.2.2.2.2.2.1, y126.2.2.2.2.2.2.2.1, y126.2.2.2.2.2.2.2.2.1, y126.2.2.2.2.2.2.2.2.2.1, y126.2.2.2.2.2.2.2.2.2.2.1, y126.2.2.2.2.2.2.2.2.2.2.2.1, 0, ([], 0), y126.2.2.2.2.2.2.2.2.2.2.2.2.2.2.1, y126.2.2.2.2.2.2.2.2.2.2.2.2.2.2.2.1, y126.2.2.2.2.2.2.2.2.2.2.2.2.2.2.2.2) a142 c143 a130 c131 a132 c133 none 0 a136 c137 a138 c139).toArray))] _ rfl ⟨⟨rfl, trivial⟩, rfl⟩ ?_))))))
      obtain ⟨y144, hy145, h⟩ := bindO_some h
      refine JO.nilR (.int .i64) Sl.nil rfl rfl (JO.call rfl rfl rfl rfl (ok_s_Leave (y126.1, y126.2.1, y140, y126.2.2.2.1, y126.2.2.2.2.1, y126.2.2.2.2.2.1, y126.2.2.2.2.2.2.1, y126.2.2.2.2.2.2.2.1, y126.2.2.2.2.2.2.2.2.1, y126.2.2.2.2.2.2.2.2.2.1, y126.2.2.2.2.2.2.2.2.2.2.1, y126.2.2.2.2.2.2.2.2.2.2.2.1, 0, (([] : List Int), 0), y126.2.2.2.2.2.2.2.2.2.2.2.2.2.2.1, y126.2.2.2.2.2.2.2.2.2.2.2.2.2.2.2.1, y126.2.2.2.2.2.2.2.2.2.2.2.2.2.2.2.2) a142 c143 y140.1.length rfl a130 c131 y126.2.2.2.2.2.2.2.2.2.2.1.length rfl a132 c133 y126.2.2.2.2.2.2.2.2.2.2.2.1.length rfl none 0 (([] : List Int).length) rfl a136 c137 y126.2.2.2.2.2.2.2.2.2.2.2.2.2.2.1.length rfl a138 c139 y126.2.2.2.2.2.2.2.2.2.2.2.2.2.2.2.2.1.length rfl _ hy145) rfl [8, 10, 11, 0, 13, 14] rfl rfl ?_)
      rintro ⟨a146, c147, a148, c149, a150, c151, a152, c153⟩ -
      refine JO.regB ttOk 2 [] [] [(7, .v (.int .i64 1))] (.new 11 46 (cl46 (y144.1, y144.2.1, y144.2.2.1, y144.2.2.2.1, y144.2.2.2.2.1, y144.2.2.2.2.2.1, y144.2.2.2.2.2.2.1, y144.2.2.2.2.2.2.2.1, y144.2.2.2.2.2.2.2.2.1, y144.2.2.2.2.2.2.2.2.2.1, y144.2.2.2.2.2.2.2.2.2.2.1, y144.2.2.2.2.2.2.2.2.2.2.2.1, y144.2.2.2.2.2.2.2.2.2.2.2.2.1, y144.2.2.2.2.2.2.2.2.2.2.2.2.2.1, [], y144.2.2.2.2.2.2.2.2.2.2.2.2.2.2.2.1, ([], y144.2.2.2.2.2.2.2.2.2.2.2.2.2.2.2.2.2)) a146 c147 a148 c149 a150 c151 a152 c153 none 0 none 0) .nil) rfl ⟨⟨rfl, trivial⟩, (Bs rfl rfl)⟩ (JO.done rfl ?_)
      cases h
      refine JS.nilO (.int .i64) Sl.nil rfl rfl (JS.nilO (.int .i64) Sl.nil rfl rfl (JS.ret ttOk (a146, c147, a148, c149, a150, c151, a152, c153, none, 0, none, 0) trivial rfl rfl [2, 2, 2, 2, 1, 0] rfl))
    have h := condF h ht176
    refine JS.skip (JS.endB (JS.seq (JS.region (JO.reg ttOk 1 [] [] [(132, .v (.agg (cl46 x0 a4 c5 a8 c9 a12 c13 a16 c17 a20 c21 a24 c25).toArray))] _ rfl ⟨⟨rfl, trivial⟩, rfl⟩ ?_))))
    obtain ⟨y154, hy155, h⟩ := bindO_some h
    refine JO.call rfl rfl rfl rfl (ok_s_Leave x0 a4 c5 x0.2.2.1.1.length rfl a8 c9 x0.2.2.2.2.2.2.2.2.2.2.1.length rfl a12 c13 x0.2.2.2.2.2.2.2.2.2.2.2.1.length rfl a16 c17 x0.2.2.2.2.2.2.2.2.2.2.2.2.2.1.1.length rfl a20 c21 x0.2.2.2.2.2.2.2.2.2.2.2.2.2.2.1.length rfl a24 c25 x0.2.2.2.2.2.2.2.2.2.2.2.2.2.2.2.2.1.length rfl _ hy155) rfl [0, 1, 2, 3, 4, 5] rfl rfl ?_
    rintro ⟨a156, c157, a158, c159, a160, c161, a162, c163⟩ -
    refine JO.regB ttOk 2 [] [] [(7, .v (.int .i64 0))] (.new 11 46 (cl46 (y154.1, y154.2.1, y154.2.2.1, y154.2.2.2.1, y154.2.2.2.2.1, y154.2.2.2.2.2.1, y154.2.2.2.2.2.2.1, y154.2.2.2.2.2.2.2.1, y154.2.2.2.2.2.2.2.2.1, y154.2.2.2.2.2.2.2.2.2.1, y154.2.2.2.2.2.2.2.2.2.2.1, y154.2.2.2.2.2.2.2.2.2.2.2.1, y154.2.2.2.2.2.2.2.2.2.2.2.2.1, y154.2.2.2.2.2.2.2.2.2.2.2.2.2.1, [], y154.2.2.2.2.2.2.2.2.2.2.2.2.2.2.2.1, ([], y154.2.2.2.2.2.2.2.2.2.2.2.2.2.2.2.2.2)) a156 c157 a158 c159 a160 c161 a162 c163 none 0 none 0) .nil) rfl ⟨⟨rfl, trivial⟩, (Bs rfl rfl)⟩ (JO.done rfl ?_)
    cases h
    refine JS.nilO (.int .i64) Sl.nil rfl rfl (JS.nilO (.int .i64) Sl.nil rfl rfl (JS.ret ttOk (a156, c157, a158, c159, a160, c161, a162, c163, none, 0, none, 0) trivial rfl rfl [2, 2, 2, 2, 1, 0] rfl))

def M_i_in (x0 : Int) (x1 : Int) (x2 : Int) : Option Bool :=
  some (bif (decide (x1 ≤ x0)) then (decide (x0 ≤ x2)) else false)

theorem ok_i_in (x0 : Int) (x1 : Int) (x2 : Int) (r : Bool) (h : M_i_in x0 x1 x2 = some r) :
    FC Tryz.prog 99 [.int .i64 x0, .int .i64 x1, .int .i64 x2] [] (fun _ : Unit => True) (fun _ => .bool r) (fun _ => []) :=
  by
    refine FC.of (T := TTx) Tryz.call99 Tryz.func99 rfl rfl fun w0 => ?_
    unfold M_i_in at h
    refine JS.rg0 ttOk 1 [] ⟨trivial, rfl⟩ rfl rfl (JS.rg0 ttOk 9 [(6, .v (.bool (bif (decide (x1 ≤ x0)) then (decide (x0 ≤ x2)) else false)))] ⟨⟨rfl, trivial⟩, rfl⟩ rfl rfl ?_)
    cases h
    exact JS.ret ttOk () trivial rfl rfl [] rfl

def M_i_RuneOk (x0 : Int) : Option Bool :=
  (bindO (M_i_in x0 0 1114111) fun (y2 : Bool) =>
  (callO (y2 = true) (M_i_in x0 55296 57343) false fun (y4 : Bool) =>
  some (bif y2 then (!y4) else false)))

theorem ok_i_RuneOk (x0 : Int) (r : Bool) (h : M_i_RuneOk x0 = some r) :
    FC Tryz.prog 141 [.int .i64 x0] [] (fun _ : Unit => True) (fun _ => .bool r) (fun _ => []) :=
  by
    refine FC.of (T := TTx) Tryz.call141 Tryz.func141 rfl rfl fun w0 => ?_
    unfold M_i_RuneOk at h
    refine JS.rg0 ttOk 1 [] ⟨trivial, rfl⟩ rfl rfl (JS.seq (JS.region (JO.reg ttOk 1 [] [] [(3, .v (.int .i64 x0))] _ rfl ⟨⟨rfl, trivial⟩, rfl⟩ ?_)))
    obtain ⟨y2, hy3, h⟩ := bindO_some h
    refine JO.call rfl rfl rfl rfl (ok_i_in x0 0 1114111 _ hy3) rfl [] rfl rfl fun _ _ => JO.reg ttOk 2 [] [] [(5, .v (.bool y2)), (6, .cd [(5, true)] (.v (.int .i64 x0)))] _ rfl ⟨(Es rfl), rfl⟩ ?_
    obtain ⟨y4, hy5, -, h⟩ := callO_some h
    refine JO.callg rfl rfl rfl rfl (fun q7 => ok_i_in x0 55296 57343 _ (hy5 q7)) rfl [] rfl rfl (JO.reg ttOk 3 [] [] [(2, .v (.bool (bif y2 then (!y4) else false)))] _ rfl ⟨⟨rfl, trivial⟩, rfl⟩ (JO.done rfl ?_))
    cases h
    exact JS.ret ttOk () trivial rfl rfl [] rfl

def M_i_Printable (x0 : Int) : Option Bool :=
  (bindO (M_i_RuneOk x0) fun (y2 : Bool) =>
  (callO ((bif y2 then (decide (32 ≤ x0)) else false) = true) (M_i_in x0 127 159) false fun (y4 : Bool) =>
  some (bif (bif y2 then (decide (32 ≤ x0)) else false) then (!y4) else false)))

theorem ok_i_Printable (x0 : Int) (r : Bool) (h : M_i_Printable x0 = some r) :
    FC Tryz.prog 57 [.int .i64 x0] [] (fun _ : Unit => True) (fun _ => .bool r) (fun _ => []) :=
  by
    refine FC.of (T := TTx) Tryz.call57 Tryz.func57 rfl rfl fun w0 => ?_
    unfold M_i_Printable at h
    refine JS.rg0 ttOk 1 [] ⟨trivial, rfl⟩ rfl rfl (JS.seq (JS.region (JO.reg ttOk 1 [] [] [(3, .v (.int .i64 x0))] _ rfl ⟨⟨rfl, trivial⟩, rfl⟩ ?_)))
    obtain ⟨y2, hy3, h⟩ := bindO_some h
    refine JO.call rfl rfl rfl rfl (ok_i_RuneOk x0 _ hy3) rfl [] rfl rfl fun _ _ => JO.reg ttOk 6 [] [] [(9, .v (.bool (bif y2 then (decide (32 ≤ x0)) else false))), (10, .cd [(9, true)] (.v (.int .i64 x0)))] _ rfl ⟨(Es rfl), rfl⟩ ?_
    obtain ⟨y4, hy5, -, h⟩ := callO_some h
    refine JO.callg rfl rfl rfl rfl (fun q7 => ok_i_in x0 127 159 _ (hy5 q7)) rfl [] rfl rfl (JO.reg ttOk 3 [] [] [(2, .v (.bool (bif (bif y2 then (decide (32 ≤ x0)) else false) then (!y4) else false)))] _ rfl ⟨⟨rfl, trivial⟩, rfl⟩ (JO.done rfl ?_))
    cases h
    exact JS.ret ttOk () trivial rfl rfl [] rfl

def M_i_admissible (x0 : Int) : Option Bool :=
  (bindO (M_i_Printable x0) fun (y2 : Bool) =>
  some (bif (bif y2 then true else (decide (x0 = 9))) then true else (decide (x0 = 10))))

theorem ok_i_admissible (x0 : Int) (r : Bool) (h : M_i_admissible x0 = some r) :
    FC Tryz.prog 248 [.int .i64 x0] [] (fun _ : Unit => True) (fun _ => .bool r) (fun _ => []) :=
  by
    refine FC.of (T := TTx) Tryz.call248 Tryz.func248 rfl rfl fun w0 => ?_
    unfold M_i_admissible at h
    refine JS.rg0 ttOk 1 [] ⟨trivial, rfl⟩ rfl rfl (JS.seq (JS.region (JO.reg ttOk 1 [] [] [(3, .v (.int .i64 x0))] _ rfl ⟨⟨rfl, trivial⟩, rfl⟩ ?_)))
    obtain ⟨y2, hy3, h⟩ := bindO_some h
    refine JO.call rfl rfl rfl rfl (ok_i_Printable x0 _ hy3) rfl [] rfl rfl fun _ _ => JO.reg ttOk 9 [] [] [(2, .v (.bool (bif (bif y2 then true else (decide (x0 = 9))) then true else (decide (x0 = 10)))))] _ rfl ⟨⟨rfl, trivial⟩, rfl⟩ (JO.done rfl ?_)
    cases h
    exact JS.ret ttOk () trivial rfl rfl [] rfl

def M_i_areAdmissible_L1 (x0 : List Int) (j20 : Unit → Option Bool) (k14 : Int → Option Bool) : Int → Option Bool := fun x6 =>
  (bif (decide (x6 < (x0.length : Int))) then
  (guardO (0 ≤ x6 ∧ x6 < (x0.length : Int)) <|
  (callO ((decide (400 ≤ x6)) = false) (M_i_admissible (at' x0 x6)) false fun (y9 : Bool) =>
  (bif (bif (decide (400 ≤ x6)) then true else (!y9)) then
  some false
  else
  k14 (W (x6 + 1)))))
  else
  j20 ())

def M_i_areAdmissible (x0 : List Int) : Option Bool :=
  (joinO (fun (_ : Unit) =>
  some true) fun j20 =>
  (fixF (M_i_areAdmissible_L1 x0 j20) FUEL 0))

theorem ok_i_areAdmissible (x0 : List Int) (a2 : Option Addr) (c3 : Nat) (l4 : Nat) (hl5 : x0.length = l4) (r : Bool) (h : M_i_areAdmissible x0 = some r) :
    FC Tryz.prog 179 [.slice a2 l4 c3] [⟨(.int .i64), ⟨a2, l4, c3⟩, x0⟩] (fun _ : Unit => True) (fun _ => .bool r) (fun _ => []) :=
  by
    subst hl5
    refine FC.of (T := TTx) Tryz.call179 Tryz.func179 rfl rfl fun w0 => ?_
    unfold M_i_areAdmissible at h
    refine JS.rg0 ttOk 1 [] ⟨trivial, rfl⟩ rfl rfl (JS.seq (JS.rg0 ttOk 3 [(5, .v (.slice a2 x0.length c3)), (6, .v (.int .i64 (x0.length : Int))), (7, .v (.int .i64 0))] ⟨(Es rfl), rfl⟩ rfl rfl ?_))
    obtain ⟨j20, hj30, h⟩ := joinO_some h
    refine JS.blockJ (ι := Unit) ⟨fun _ => j20 () = some r, fun _ => [], fun _ => .nil, fun _ => [], fun _ => [], fun _ => 0⟩ ?_ ?_
    · refine JS.loop (ι := Nat × Int) ⟨fun z => fixF (M_i_areAdmissible_L1 x0 j20) z.1 z.2 = some r, fun z => [(5, .v (.slice a2 x0.length c3)), (6, .v (.int .i64 (x0.length : Int))), (7, .v (.int .i64 z.2))], fun z => .nil, fun z => [⟨(.int .i64), ⟨a2, x0.length, c3⟩, x0⟩], fun z => [], fun z => z.1⟩ (FUEL, 0) h (Es rfl) trivial [0] rfl [] rfl ?_
      rintro ⟨n15, x6⟩ h
      obtain ⟨n15, rfl, h⟩ := fixF_some h
      rw [M_i_areAdmissible_L1] at h
      refine JS.rg0 ttOk 1 [(8, .v (.bool (decide (x6 < (x0.length : Int)))))] ⟨⟨rfl, trivial⟩, rfl⟩ rfl rfl (JS.seq ?_)
      refine JS.cond rfl (fun ht29 => ?_) (fun ht29 => ?_)
      · have h := condT h ht29
        refine JS.skip (JS.seq (JS.block (JS.seq (JS.region (JO.know 0 rfl fun hs26 => ?_)))))
        obtain ⟨g8, h⟩ := guardO_some h
        refine JO.reg ttOk 2 [] [] [(9, .v (.int .i64 x6)), (10, .ep ⟨a2, x0.length, c3⟩ (Int.toNat x6 * 1))] _ rfl ⟨hs26.ix g8, (Es rfl), rfl⟩ (JO.load ttOk rfl rfl rfl rfl rfl rfl rfl 0 rfl rfl (Int.toNat x6) 0 (at' x0 x6) ⟨at_some g8, rfl⟩ rfl rfl (JO.reg ttOk 2 [] [] [(3, .v (.int .i64 x6)), (4, .v (.int .i64 (at' x0 x6)))] _ rfl ⟨(Es rfl), rfl⟩ (JO.done rfl (JS.seq (JS.region (JO.reg ttOk 4 [] [] [(14, .v (.bool (decide (400 ≤ x6)))), (15, .cd [(14, false)] (.v (.int .i64 (at' x0 x6))))] _ rfl ⟨(Es rfl), rfl⟩ ?_))))))
        obtain ⟨y9, hy10, -, h⟩ := callO_some h
        refine JO.callg rfl rfl rfl rfl (fun q27 => ok_i_admissible (at' x0 x6) _ (hy10 q27)) rfl [] rfl rfl (JO.reg ttOk 2 [] [] [(18, .v (.bool (bif (decide (400 ≤ x6)) then true else (!y9))))] _ rfl ⟨⟨rfl, trivial⟩, rfl⟩ (JO.done rfl ?_))
        refine JS.cond rfl (fun ht28 => ?_) (fun ht28 => ?_)
        · have h := condT h ht28
          refine JS.rg0 ttOk 1 [(2, .v (.bool false))] ⟨⟨rfl, trivial⟩, rfl⟩ rfl rfl ?_
          cases h
          exact JS.ret ttOk () trivial rfl rfl [] rfl
        have h := condF h ht28
        refine JS.skip (JS.endB (JS.re ttOk 2 [(W (x6 + 1))] [] [(7, .v (.int .i64 (W (x6 + 1))))] _ ⟨⟨trivial, rfl⟩, ⟨rfl, trivial⟩, rfl⟩ rfl rfl (JS.endL (n15, (W (x6 + 1))) h (Nat.lt_succ_self _) (Es rfl) trivial [0] rfl [] rfl)))
      have h := condF h ht29
      refine JS.exit rfl (JS.endJ () h trivial trivial [] rfl [] rfl)
    rintro _ h
    subst hj30
    refine JS.rg0 ttOk 1 [(2, .v (.bool true))] ⟨⟨rfl, trivial⟩, rfl⟩ rfl rfl ?_
    cases h
    exact JS.ret ttOk () trivial rfl rfl [] rfl

def M_i_LineOk (x0 : List Int × Int) : Option Bool :=
  (bindO (M_i_areAdmissible x0.1) fun (y6 : Bool) =>
  (callO (y6 = true) (M_i_in x0.2 0 (x0.1.length : Int)) false fun (y8 : Bool) =>
  some (bif y6 then y8 else false)))

theorem ok_i_LineOk (x0 : List Int × Int) (a2 : Option Addr) (c3 : Nat) (l4 : Nat) (hl5 : x0.1.length = l4) (r : Bool) (h : M_i_LineOk x0 = some r) :
    FC Tryz.prog 98 [.agg #[.slice a2 l4 c3, .int .i64 x0.2]] [⟨(.int .i64), ⟨a2, l4, c3⟩, x0.1⟩] (fun _ : Unit => True) (fun _ => .bool r) (fun _ => []) :=
  by
    subst hl5
    refine FC.of (T := TTx) Tryz.call98 Tryz.func98 rfl rfl fun w0 => ?_
    unfold M_i_LineOk at h
    refine JS.rgB ttOk 2 [] [2] [(1, .bp 2 0)] (.new 2 38 [.slice a2 x0.1.length c3, .int .i64 x0.2] .nil) ⟨⟨rfl, trivial⟩, (Bs rfl rfl)⟩ rfl rfl (JS.seq (JS.region (JO.reg ttOk 2 [] [] [(4, .v (.slice a2 x0.1.length c3))] _ rfl ⟨⟨rfl, trivial⟩, rfl⟩ ?_)))
    obtain ⟨y6, hy7, h⟩ := bindO_some h
    refine JO.call rfl rfl rfl rfl (ok_i_areAdmissible x0.1 a2 c3 x0.1.length rfl _ hy7) rfl [0] rfl rfl fun _ _ => JO.reg ttOk 6 [] [] [(6, .v (.bool y6)), (8, .cd [(6, true)] (.v (.int .i64 x0.2))), (11, .cd [(6, true)] (.v (.int .i64 (x0.1.length : Int))))] _ rfl ⟨(Es rfl), rfl⟩ ?_
    obtain ⟨y8, hy9, -, h⟩ := callO_some h
    refine JO.callg rfl rfl rfl rfl (fun q11 => ok_i_in x0.2 0 (x0.1.length : Int) _ (hy9 q11)) rfl [] rfl rfl (JO.reg ttOk 2 [] [] [(2, .v (.bool (bif y6 then y8 else false)))] _ rfl ⟨⟨rfl, trivial⟩, rfl⟩ (JO.done rfl ?_))
    cases h
    exact JS.ret ttOk () trivial rfl rfl [] rfl

def M_i_isAtEnd (x0 : List Int × Int) : Option Bool :=
  some (bif (decide (0 < (x0.1.length : Int))) then (decide (x0.2 = (x0.1.length : Int))) else false)

theorem ok_i_isAtEnd (x0 : List Int × Int) (a2 : Option Addr) (c3 : Nat) (l4 : Nat) (hl5 : x0.1.length = l4) (r : Bool) (h : M_i_isAtEnd x0 = some r) :
    FC Tryz.prog 180 [.agg #[.slice a2 l4 c3, .int .i64 x0.2]] [⟨(.int .i64), ⟨a2, l4, c3⟩, x0.1⟩] (fun _ : Unit => True) (fun _ => .bool r) (fun _ => []) :=
  by
    subst hl5
    refine FC.of (T := TTx) Tryz.call180 Tryz.func180 rfl rfl fun w0 => ?_
    unfold M_i_isAtEnd at h
    refine JS.rgB ttOk 2 [] [2] [(1, .bp 2 0)] (.new 2 38 [.slice a2 x0.1.length c3, .int .i64 x0.2] .nil) ⟨⟨rfl, trivial⟩, (Bs rfl rfl)⟩ rfl rfl (JS.rg0 ttOk 13 [(2, .v (.bool (bif (decide (0 < (x0.1.length : Int))) then (decide (x0.2 = (x0.1.length : Int))) else false)))] ⟨⟨rfl, trivial⟩, rfl⟩ rfl rfl ?_)
    cases h
    exact JS.ret ttOk () trivial rfl rfl [] rfl

def M_i_isAmong_L1 (x0 : Int) (x1 : List UInt8) (j11 : Unit → Option Bool) (k7 : Int → Option Bool) : Int → Option Bool := fun x3 =>
  (bif (decide (x3 < (x1.length : Int))) then
  (guardO (0 ≤ x3 ∧ x3 < (x1.length : Int)) <|
  (bif (decide (((at' x1 x3).toNat : Int) = x0)) then
  some true
  else
  k7 (W (x3 + 1))))
  else
  j11 ())

def M_i_isAmong (x0 : Int) (x1 : List UInt8) : Option Bool :=
  (joinO (fun (_ : Unit) =>
  some false) fun j11 =>
  (fixF (M_i_isAmong_L1 x0 x1 j11) FUEL 0))

theorem ok_i_isAmong (x0 : Int) (x1 : List UInt8) (r : Bool) (h : M_i_isAmong x0 x1 = some r) :
    FC Tryz.prog 181 [.int .i64 x0, .string (bs x1)] [] (fun _ : Unit => True) (fun _ => .bool r) (fun _ => []) :=
  by
    refine FC.of (T := TTx) Tryz.call181 Tryz.func181 rfl rfl fun w0 => ?_
    unfold M_i_isAmong at h
    refine JS.rg0 ttOk 1 [] ⟨trivial, rfl⟩ rfl rfl (JS.seq (JS.rg0 ttOk 1 [(5, .v (.int .i64 0))] ⟨⟨rfl, trivial⟩, rfl⟩ rfl rfl ?_))
    obtain ⟨j11, hj17, h⟩ := joinO_some h
    refine JS.blockJ (ι := Unit) ⟨fun _ => j11 () = some r, fun _ => [], fun _ => .nil, fun _ => [], fun _ => [], fun _ => 0⟩ ?_ ?_
    · refine JS.loop (ι := Nat × Int) ⟨fun z => fixF (M_i_isAmong_L1 x0 x1 j11) z.1 z.2 = some r, fun z => [(0, .v (.int .i64 x0)), (1, .v (.string (bs x1))), (5, .v (.int .i64 z.2))], fun z => .nil, fun z => [], fun z => [], fun z => z.1⟩ (FUEL, 0) h (Es rfl) trivial [] rfl [] rfl ?_
      rintro ⟨n8, x3⟩ h
      obtain ⟨n8, rfl, h⟩ := fixF_some h
      rw [M_i_isAmong_L1] at h
      refine JS.seq (JS.rg0 ttOk 4 [(9, .v (.bool (decide (x3 < (x1.length : Int)))))] ⟨⟨rfl, trivial⟩, rfl⟩ rfl rfl ?_)
      refine JS.cond rfl (fun ht16 => ?_) (fun ht16 => ?_)
      · have h := condT h ht16
        refine JS.skip (JS.seq (JS.block (JS.seq (JS.region ?_))))
        obtain ⟨g4, h⟩ := guardO_some h
        refine JO.reg ttOk 6 [((at' x1 x3).toNat : Int)] [] [(17, .v (.bool (decide (((at' x1 x3).toNat : Int) = x0))))] _ rfl ⟨g4, ⟨trivial, W_byte _⟩, ⟨rfl, trivial⟩, rfl⟩ (JO.done rfl ?_)
        refine JS.cond rfl (fun ht15 => ?_) (fun ht15 => ?_)
        · have h := condT h ht15
          refine JS.rg0 ttOk 1 [(4, .v (.bool true))] ⟨⟨rfl, trivial⟩, rfl⟩ rfl rfl ?_
          cases h
          exact JS.ret ttOk () trivial rfl rfl [] rfl
        have h := condF h ht15
        refine JS.skip (JS.endB (JS.re ttOk 3 [(W (x3 + 1))] [] [(5, .v (.int .i64 (W (x3 + 1))))] _ ⟨⟨trivial, rfl⟩, ⟨rfl, trivial⟩, rfl⟩ rfl rfl (JS.endL (n8, (W (x3 + 1))) h (Nat.lt_succ_self _) (Es rfl) trivial [] rfl [] rfl)))
      have h := condF h ht16
      refine JS.exit rfl (JS.endJ () h trivial trivial [] rfl [] rfl)
    rintro _ h
    subst hj17
    refine JS.rg0 ttOk 1 [(4, .v (.bool false))] ⟨⟨rfl, trivial⟩, rfl⟩ rfl rfl ?_
    cases h
    exact JS.ret ttOk () trivial rfl rfl [] rfl

def M_i_modeOk (x0 : Bool × Int × (List Int × Int) × Int × Int × Int × Int × Int × Int × Int × List (List Int) × (List (List Int × Int)) × Int × (List Int × Int) × List Int × Int × List Int × Int) : Option Bool :=
  (joinO (fun (_ : Unit) =>
  (callO ((decide (x0.2.1 = 2)) = true) (M_i_isAtEnd x0.2.2.1) false fun (y44 : Bool) =>
  (bif (bif (decide (x0.2.1 = 2)) then y44 else false) then
  some false
  else
  (bif (bif (bif (!(decide (x0.2.1 = 2))) then (bif (bif (!(decide (x0.2.2.2.2.1 = 0))) then true else (!(decide (x0.2.2.2.2.2.2.1 = 0)))) then true else (!(decide (x0.2.2.2.2.2.1 = 0)))) else false) then true else (bif (decide (x0.2.2.2.2.1 = 0)) then (!(decide (x0.2.2.2.2.2.1 = 0))) else false)) then
  some false
  else
  (callO ((decide (x0.2.2.2.2.1 = 0)) = false) (M_i_isAmong x0.2.2.2.2.1 ([100, 99, 121] : List UInt8)) false fun (y47 : Bool) =>
  (callO ((decide (x0.2.2.2.2.2.2.1 = 0)) = false ∧ (bif (decide (x0.2.2.2.2.1 = 0)) then true else y47) = true) (M_i_isAmong x0.2.2.2.2.2.2.1 ([102, 70, 116, 84, 114] : List UInt8)) false fun (y50 : Bool) =>
  some (bif (bif (decide (x0.2.2.2.2.1 = 0)) then true else y47) then (bif (decide (x0.2.2.2.2.2.2.1 = 0)) then true else y50) else false))))))) fun j36 =>
  (bif (decide (x0.2.1 = 0)) then
  (bif x0.1 then
  some false
  else
  j36 ())
  else
  (joinO (fun (x28 : Bool) =>
  (bif x28 then
  (bif (!x0.1) then
  some false
  else
  j36 ())
  else
  (bif (decide (x0.2.1 = 3)) then
  j36 ()
  else
  some false))) fun j29 =>
  (bif (decide (x0.2.1 = 1)) then
  j29 (decide (x0.2.1 = 1))
  else
  j29 (decide (x0.2.1 = 2))))))

theorem ok_i_modeOk (x0 : Bool × Int × (List Int × Int) × Int × Int × Int × Int × Int × Int × Int × List (List Int) × (List (List Int × Int)) × Int × (List Int × Int) × List Int × Int × List Int × Int) (a2 : Option Addr) (c3 : Nat) (l4 : Nat) (hl5 : x0.2.2.1.1.length = l4) (a6 : Option Addr) (c7 : Nat) (l8 : Nat) (hl9 : x0.2.2.2.2.2.2.2.2.2.2.1.length = l8) (a10 : Option Addr) (c11 : Nat) (l12 : Nat) (hl13 : x0.2.2.2.2.2.2.2.2.2.2.2.1.length = l12) (a14 : Option Addr) (c15 : Nat) (l16 : Nat) (hl17 : x0.2.2.2.2.2.2.2.2.2.2.2.2.2.1.1.length = l16) (a18 : Option Addr) (c19 : Nat) (l20 : Nat) (hl21 : x0.2.2.2.2.2.2.2.2.2.2.2.2.2.2.1.length = l20) (a22 : Option Addr) (c23 : Nat) (l24 : Nat) (hl25 : x0.2.2.2.2.2.2.2.2.2.2.2.2.2.2.2.2.1.length = l24) (r : Bool) (h : M_i_modeOk x0 = some r) :
    FC Tryz.prog 100 [.agg #[.bool x0.1, .int .i64 x0.2.1, .slice a2 l4 c3, .int .i64 x0.2.2.1.2, .int .i64 x0.2.2.2.1, .int .i64 x0.2.2.2.2.1, .int .i64 x0.2.2.2.2.2.1, .int .i64 x0.2.2.2.2.2.2.1, .int .i64 x0.2.2.2.2.2.2.2.1, .int .i64 x0.2.2.2.2.2.2.2.2.1, .int .i64 x0.2.2.2.2.2.2.2.2.2.1, .slice a6 l8 c7, .slice a10 l12 c11, .int .i64 x0.2.2.2.2.2.2.2.2.2.2.2.2.1, .slice a14 l16 c15, .int .i64 x0.2.2.2.2.2.2.2.2.2.2.2.2.2.1.2, .slice a18 l20 c19, .int .i64 x0.2.2.2.2.2.2.2.2.2.2.2.2.2.2.2.1, .slice a22 l24 c23, .int .i64 x0.2.2.2.2.2.2.2.2.2.2.2.2.2.2.2.2.2]] [⟨(.int .i64), ⟨a2, l4, c3⟩, x0.2.2.1.1⟩, ⟨(.sl (.int .i64)), ⟨a6, l8, c7⟩, x0.2.2.2.2.2.2.2.2.2.2.1⟩, ⟨(.pair (.sl (.int .i64)) (.int .i64)), ⟨a10, l12, c11⟩, x0.2.2.2.2.2.2.2.2.2.2.2.1⟩, ⟨(.int .i64), ⟨a14, l16, c15⟩, x0.2.2.2.2.2.2.2.2.2.2.2.2.2.1.1⟩, ⟨(.int .i64), ⟨a18, l20, c19⟩, x0.2.2.2.2.2.2.2.2.2.2.2.2.2.2.1⟩, ⟨(.int .i64), ⟨a22, l24, c23⟩, x0.2.2.2.2.2.2.2.2.2.2.2.2.2.2.2.2.1⟩] (fun _ : Unit => True) (fun _ => .bool r) (fun _ => []) :=
  by
    subst hl5
    subst hl9
    subst hl13
    subst hl17
    subst hl21
    subst hl25
    refine FC.of (T := TTx) Tryz.call100 Tryz.func100 rfl rfl fun w0 => ?_
    unfold M_i_modeOk at h
    refine JS.rgB ttOk 2 [] [7] [(1, .bp 7 0)] (.new 7 46 (cl46 x0 a2 c3 a6 c7 a10 c11 a14 c15 a18 c19 a22 c23) .nil) ⟨⟨rfl, trivial⟩, (Bs rfl rfl)⟩ rfl rfl (JS.seq (JS.rg0 ttOk 2 [(4, .v (.int .i64 x0.2.1))] ⟨⟨rfl, trivial⟩, rfl⟩ rfl rfl ?_))
    obtain ⟨j36, hj70, h⟩ := joinO_some h
    refine JS.blockJ (ι := Unit) ⟨fun _ => j36 () = some r, fun _ => [(1, .bp 7 0)], fun _ => (.new 7 46 (cl46 x0 a2 c3 a6 c7 a10 c11 a14 c15 a18 c19 a22 c23) .nil), fun _ => [⟨(.int .i64), ⟨a2, x0.2.2.1.1.length, c3⟩, x0.2.2.1.1⟩, ⟨(.sl (.int .i64)), ⟨a6, x0.2.2.2.2.2.2.2.2.2.2.1.length, c7⟩, x0.2.2.2.2.2.2.2.2.2.2.1⟩, ⟨(.pair (.sl (.int .i64)) (.int .i64)), ⟨a10, x0.2.2.2.2.2.2.2.2.2.2.2.1.length, c11⟩, x0.2.2.2.2.2.2.2.2.2.2.2.1⟩, ⟨(.int .i64), ⟨a14, x0.2.2.2.2.2.2.2.2.2.2.2.2.2.1.1.length, c15⟩, x0.2.2.2.2.2.2.2.2.2.2.2.2.2.1.1⟩, ⟨(.int .i64), ⟨a18, x0.2.2.2.2.2.2.2.2.2.2.2.2.2.2.1.length, c19⟩, x0.2.2.2.2.2.2.2.2.2.2.2.2.2.2.1⟩, ⟨(.int .i64), ⟨a22, x0.2.2.2.2.2.2.2.2.2.2.2.2.2.2.2.2.1.length, c23⟩, x0.2.2.2.2.2.2.2.2.2.2.2.2.2.2.2.2.1⟩], fun _ => [], fun _ => 0⟩ ?_ ?_
    · refine JS.rg0 ttOk 2 [(5, .v (.bool (decide (x0.2.1 = 0))))] ⟨⟨rfl, trivial⟩, rfl⟩ rfl rfl ?_
      refine JS.cond rfl (fun ht63 => ?_) (fun ht63 => ?_)
      · have h := condT h ht63
        refine JS.rg0 ttOk 2 [(8, .v (.bool x0.1))] ⟨⟨rfl, trivial⟩, rfl⟩ rfl rfl ?_
        refine JS.cond rfl (fun ht57 => ?_) (fun ht57 => ?_)
        · have h := condT h ht57
          refine JS.rg0 ttOk 1 [(2, .v (.bool false))] ⟨⟨rfl, trivial⟩, rfl⟩ rfl rfl ?_
          cases h
          exact JS.ret ttOk () trivial rfl rfl [] rfl
        have h := condF h ht57
        refine JS.skip (JS.endB (JS.endJ () h ⟨rfl, trivial⟩ (Bs rfl rfl) [0, 1, 2, 3, 4, 5] rfl [] rfl))
      have h := condF h ht63
      obtain ⟨j29, hj62, h⟩ := joinO_some h
      refine JS.seqJ (ι := Bool) ⟨fun z => j29 z = some r, fun z => [(1, .bp 7 0), (4, .v (.int .i64 x0.2.1)), (9, .v (.bool z))], fun z => (.new 7 46 (cl46 x0 a2 c3 a6 c7 a10 c11 a14 c15 a18 c19 a22 c23) .nil), fun z => [⟨(.int .i64), ⟨a2, x0.2.2.1.1.length, c3⟩, x0.2.2.1.1⟩, ⟨(.sl (.int .i64)), ⟨a6, x0.2.2.2.2.2.2.2.2.2.2.1.length, c7⟩, x0.2.2.2.2.2.2.2.2.2.2.1⟩, ⟨(.pair (.sl (.int .i64)) (.int .i64)), ⟨a10, x0.2.2.2.2.2.2.2.2.2.2.2.1.length, c11⟩, x0.2.2.2.2.2.2.2.2.2.2.2.1⟩, ⟨(.int .i64), ⟨a14, x0.2.2.2.2.2.2.2.2.2.2.2.2.2.1.1.length, c15⟩, x0.2.2.2.2.2.2.2.2.2.2.2.2.2.1.1⟩, ⟨(.int .i64), ⟨a18, x0.2.2.2.2.2.2.2.2.2.2.2.2.2.2.1.length, c19⟩, x0.2.2.2.2.2.2.2.2.2.2.2.2.2.2.1⟩, ⟨(.int .i64), ⟨a22, x0.2.2.2.2.2.2.2.2.2.2.2.2.2.2.2.2.1.length, c23⟩, x0.2.2.2.2.2.2.2.2.2.2.2.2.2.2.2.2.1⟩], fun z => [], fun z => 0⟩ ?_ ?_
      · refine JS.rg0 ttOk 2 [(9, .v (.bool (decide (x0.2.1 = 1))))] ⟨⟨rfl, trivial⟩, rfl⟩ rfl rfl ?_
        refine JS.cond rfl (fun ht58 => ?_) (fun ht58 => ?_)
        · have h := condT h ht58
          refine JS.skip (JS.endJ (decide (x0.2.1 = 1)) h (Es rfl) (Bs rfl rfl) [0, 1, 2, 3, 4, 5] rfl [] rfl)
        have h := condF h ht58
        refine JS.re0 ttOk 2 [(9, .v (.bool (decide (x0.2.1 = 2))))] ⟨⟨rfl, trivial⟩, rfl⟩ rfl rfl (JS.endJ (decide (x0.2.1 = 2)) h (Es rfl) (Bs rfl rfl) [0, 1, 2, 3, 4, 5] rfl [] rfl)
      rintro x28 h
      subst hj62
      refine JS.cond rfl (fun ht61 => ?_) (fun ht61 => ?_)
      · have h := condT h ht61
        refine JS.rg0 ttOk 3 [(14, .v (.bool (!x0.1)))] ⟨⟨rfl, trivial⟩, rfl⟩ rfl rfl ?_
        refine JS.cond rfl (fun ht59 => ?_) (fun ht59 => ?_)
        · have h := condT h ht59
          refine JS.rg0 ttOk 1 [(2, .v (.bool false))] ⟨⟨rfl, trivial⟩, rfl⟩ rfl rfl ?_
          cases h
          exact JS.ret ttOk () trivial rfl rfl [] rfl
        have h := condF h ht59
        refine JS.skip (JS.endB (JS.endJ () h ⟨rfl, trivial⟩ (Bs rfl rfl) [0, 1, 2, 3, 4, 5] rfl [] rfl))
      have h := condF h ht61
      refine JS.rg0 ttOk 2 [(15, .v (.bool (decide (x0.2.1 = 3))))] ⟨⟨rfl, trivial⟩, rfl⟩ rfl rfl ?_
      refine JS.cond rfl (fun ht60 => ?_) (fun ht60 => ?_)
      · have h := condT h ht60
        refine JS.skip (JS.endB (JS.endJ () h ⟨rfl, trivial⟩ (Bs rfl rfl) [0, 1, 2, 3, 4, 5] rfl [] rfl))
      have h := condF h ht60
      refine JS.rg0 ttOk 1 [(2, .v (.bool false))] ⟨⟨rfl, trivial⟩, rfl⟩ rfl rfl ?_
      cases h
      exact JS.ret ttOk () trivial rfl rfl [] rfl
    rintro _ h
    subst hj70
    refine JS.seq (JS.seq (JS.region (JO.reg ttOk 6 [] [] [(20, .v (.bool (decide (x0.2.1 = 2)))), (22, .cd [(20, true)] (.v (.agg #[.slice a2 x0.2.2.1.1.length c3, .int .i64 x0.2.2.1.2])))] _ rfl ⟨(Es rfl), rfl⟩ ?_)))
    obtain ⟨y44, hy45, -, h⟩ := callO_some h
    refine JO.callg rfl rfl rfl rfl (fun q64 => ok_i_isAtEnd x0.2.2.1 a2 c3 x0.2.2.1.1.length rfl _ (hy45 q64)) rfl [0] rfl rfl (JO.reg ttOk 1 [] [] [(24, .v (.bool (bif (decide (x0.2.1 = 2)) then y44 else false)))] _ rfl ⟨⟨rfl, trivial⟩, rfl⟩ (JO.done rfl ?_))
    refine JS.cond rfl (fun ht69 => ?_) (fun ht69 => ?_)
    · have h := condT h ht69
      refine JS.rg0 ttOk 1 [(2, .v (.bool false))] ⟨⟨rfl, trivial⟩, rfl⟩ rfl rfl ?_
      cases h
      exact JS.ret ttOk () trivial rfl rfl [] rfl
    have h := condF h ht69
    refine JS.skip (JS.seq (JS.rg0 ttOk 28 [(52, .v (.bool (bif (bif (!(decide (x0.2.1 = 2))) then (bif (bif (!(decide (x0.2.2.2.2.1 = 0))) then true else (!(decide (x0.2.2.2.2.2.2.1 = 0)))) then true else (!(decide (x0.2.2.2.2.2.1 = 0)))) else false) then true else (bif (decide (x0.2.2.2.2.1 = 0)) then (!(decide (x0.2.2.2.2.2.1 = 0))) else false))))] ⟨⟨rfl, trivial⟩, rfl⟩ rfl rfl ?_))
    refine JS.cond rfl (fun ht68 => ?_) (fun ht68 => ?_)
    · have h := condT h ht68
      refine JS.rg0 ttOk 1 [(2, .v (.bool false))] ⟨⟨rfl, trivial⟩, rfl⟩ rfl rfl ?_
      cases h
      exact JS.ret ttOk () trivial rfl rfl [] rfl
    have h := condF h ht68
    refine JS.skip (JS.seq (JS.region (JO.reg ttOk 6 [] [] [(56, .v (.bool (decide (x0.2.2.2.2.1 = 0)))), (58, .cd [(56, false)] (.v (.int .i64 x0.2.2.2.2.1)))] _ rfl ⟨(Es rfl), rfl⟩ ?_)))
    obtain ⟨y47, hy48, -, h⟩ := callO_some h
    refine JO.callg rfl rfl rfl rfl (fun q65 => ok_i_isAmong x0.2.2.2.2.1 ([100, 99, 121] : List UInt8) _ (hy48 q65)) rfl [] rfl rfl (JO.reg ttOk 8 [] [] [(61, .v (.bool (bif (decide (x0.2.2.2.2.1 = 0)) then true else y47))), (65, .cd [(61, true)] (.v (.bool (decide (x0.2.2.2.2.2.2.1 = 0))))), (67, .cd [(65, false), (61, true)] (.v (.int .i64 x0.2.2.2.2.2.2.1)))] _ rfl ⟨(Es rfl), rfl⟩ ?_)
    obtain ⟨y50, hy51, -, h⟩ := callO_some h
    refine JO.callg rfl rfl rfl rfl (fun q66 q67 => ok_i_isAmong x0.2.2.2.2.2.2.1 ([102, 70, 116, 84, 114] : List UInt8) _ (hy51 ⟨q66, q67⟩)) rfl [] rfl rfl (JO.reg ttOk 3 [] [] [(2, .v (.bool (bif (bif (decide (x0.2.2.2.2.1 = 0)) then true else y47) then (bif (decide (x0.2.2.2.2.2.2.1 = 0)) then true else y50) else false)))] _ rfl ⟨⟨rfl, trivial⟩, rfl⟩ (JO.done rfl ?_))
    cases h
    exact JS.ret ttOk () trivial rfl rfl [] rfl

def M_i_RingOk_L1 (x0 : List (List Int)) (j32 : Unit → Option Bool) (k26 : Int → Option Bool) : Int → Option Bool := fun x6 =>
  (bif (decide (x6 < (x0.length : Int))) then
  (guardO (0 ≤ x6 ∧ x6 < (x0.length : Int)) <|
  (callO ((decide (((at' x0 x6).length : Int) = 0)) = false) (M_i_areAdmissible (at' x0 x6)) false fun (y17 : Bool) =>
  (bif (bif (decide (((at' x0 x6).length : Int) = 0)) then true else (!y17)) then
  some false
  else
  k26 (W (x6 + 1)))))
  else
  j32 ())

def M_i_RingOk (x0 : List (List Int)) : Option Bool :=
  (joinO (fun (_ : Unit) =>
  some (decide ((x0.length : Int) ≤ 6))) fun j32 =>
  (fixF (M_i_RingOk_L1 x0 j32) FUEL 0))

theorem ok_i_RingOk (x0 : List (List Int)) (a2 : Option Addr) (c3 : Nat) (l4 : Nat) (hl5 : x0.length = l4) (r : Bool) (h : M_i_RingOk x0 = some r) :
    FC Tryz.prog 101 [.agg #[.slice a2 l4 c3]] [⟨(.sl (.int .i64)), ⟨a2, l4, c3⟩, x0⟩] (fun _ : Unit => True) (fun _ => .bool r) (fun _ => []) :=
  by
    subst hl5
    refine FC.of (T := TTx) Tryz.call101 Tryz.func101 rfl rfl fun w0 => ?_
    unfold M_i_RingOk at h
    refine JS.rgB ttOk 2 [] [2] [(1, .bp 2 0)] (.new 2 41 [.slice a2 x0.length c3] .nil) ⟨⟨rfl, trivial⟩, (Bs rfl rfl)⟩ rfl rfl (JS.seq (JS.rg0 ttOk 4 [(6, .v (.slice a2 x0.length c3)), (7, .v (.int .i64 (x0.length : Int))), (8, .v (.int .i64 0))] ⟨(Es rfl), rfl⟩ rfl rfl ?_))
    obtain ⟨j32, hj42, h⟩ := joinO_some h
    refine JS.blockJ (ι := Unit) ⟨fun _ => j32 () = some r, fun _ => [(1, .bp 2 0)], fun _ => (.new 2 41 [.slice a2 x0.length c3] .nil), fun _ => [⟨(.sl (.int .i64)), ⟨a2, x0.length, c3⟩, x0⟩], fun _ => [], fun _ => 0⟩ ?_ ?_
    · refine JS.loop (ι := Nat × Int) ⟨fun z => fixF (M_i_RingOk_L1 x0 j32) z.1 z.2 = some r, fun z => [(1, .bp 2 0), (6, .v (.slice a2 x0.length c3)), (7, .v (.int .i64 (x0.length : Int))), (8, .v (.int .i64 z.2))], fun z => (.new 2 41 [.slice a2 x0.length c3] .nil), fun z => [⟨(.sl (.int .i64)), ⟨a2, x0.length, c3⟩, x0⟩], fun z => [], fun z => z.1⟩ (FUEL, 0) h (Es rfl) (Bs rfl rfl) [0] rfl [] rfl ?_
      rintro ⟨n27, x6⟩ h
      obtain ⟨n27, rfl, h⟩ := fixF_some h
      rw [M_i_RingOk_L1] at h
      refine JS.rg0 ttOk 1 [(9, .v (.bool (decide (x6 < (x0.length : Int)))))] ⟨⟨rfl, trivial⟩, rfl⟩ rfl rfl (JS.seq ?_)
      refine JS.cond rfl (fun ht41 => ?_) (fun ht41 => ?_)
      · have h := condT h ht41
        refine JS.skip (JS.seq (JS.block (JS.seq (JS.region (JO.know 0 rfl fun hs38 => ?_)))))
        obtain ⟨g11, h⟩ := guardO_some h
        refine JO.reg ttOk 1 [] [] [(10, .ep ⟨a2, x0.length, c3⟩ (Int.toNat x6 * 1))] _ rfl ⟨hs38.ix g11, ⟨rfl, trivial⟩, rfl⟩ (JO.openR 0 rfl (Int.toNat x6) (at' x0 x6) rfl fun a12 c13 ys14 hl15 hy16 => JO.loadV ttOk rfl rfl rfl rfl rfl rfl 0 rfl rfl (Int.toNat x6) 0 (Sl.v ⟨a12, (at' x0 x6).length, c13⟩) ⟨hy16 (ltNat g11), rfl⟩ rfl rfl rfl (JO.regB ttOk 2 [] [16] [(4, .bp 16 0)] (.new 2 41 [.slice a2 x0.length c3] (.new 16 174 [.slice a12 (at' x0 x6).length c13] .nil)) rfl ⟨⟨rfl, trivial⟩, (Bs rfl rfl)⟩ (JO.done rfl (JS.seq (JS.region (JO.reg ttOk 7 [] [] [(16, .v (.bool (decide (((at' x0 x6).length : Int) = 0)))), (18, .cd [(16, false)] (.v (.slice a12 (at' x0 x6).length c13)))] _ rfl ⟨(Es rfl), rfl⟩ ?_))))))
        obtain ⟨y17, hy18, -, h⟩ := callO_some h
        refine JO.callg rfl rfl rfl rfl (fun q39 => ok_i_areAdmissible (at' x0 x6) a12 c13 ((at' x0 x6).length) rfl _ (hy18 q39)) rfl [1] rfl rfl (JO.reg ttOk 2 [] [] [(21, .v (.bool (bif (decide (((at' x0 x6).length : Int) = 0)) then true else (!y17))))] _ rfl ⟨⟨rfl, trivial⟩, rfl⟩ (JO.done rfl ?_))
        refine JS.cond rfl (fun ht40 => ?_) (fun ht40 => ?_)
        · have h := condT h ht40
          refine JS.rg0 ttOk 1 [(2, .v (.bool false))] ⟨⟨rfl, trivial⟩, rfl⟩ rfl rfl ?_
          cases h
          exact JS.ret ttOk () trivial rfl rfl [] rfl
        have h := condF h ht40
        refine JS.skip (JS.endB (JS.re ttOk 2 [(W (x6 + 1))] [] [(8, .v (.int .i64 (W (x6 + 1))))] _ ⟨⟨trivial, rfl⟩, ⟨rfl, trivial⟩, rfl⟩ rfl rfl (JS.endL (n27, (W (x6 + 1))) h (Nat.lt_succ_self _) (Es rfl) (Bs rfl rfl) [2] rfl [] rfl)))
      have h := condF h ht41
      refine JS.exit rfl (JS.endJ () h ⟨rfl, trivial⟩ (Bs rfl rfl) [0] rfl [] rfl)
    rintro _ h
    subst hj42
    refine JS.rg0 ttOk 5 [(2, .v (.bool (decide ((x0.length : Int) ≤ 6))))] ⟨⟨rfl, trivial⟩, rfl⟩ rfl rfl ?_
    cases h
    exact JS.ret ttOk () trivial rfl rfl [] rfl

def M_i_UndoOk_L1 (x0 : List (List Int × Int)) (j29 : Unit → Option Bool) (k24 : Int → Option Bool) : Int → Option Bool := fun x6 =>
  (bif (decide (x6 < (x0.length : Int))) then
  (guardO (0 ≤ x6 ∧ x6 < (x0.length : Int)) <|
  (bindO (M_i_LineOk ((at' x0 x6).1, (at' x0 x6).2)) fun (y17 : Bool) =>
  (bif (!y17) then
  some false
  else
  k24 (W (x6 + 1)))))
  else
  j29 ())

def M_i_UndoOk (x0 : List (List Int × Int)) : Option Bool :=
  (joinO (fun (_ : Unit) =>
  some (decide ((x0.length : Int) ≤ 20))) fun j29 =>
  (fixF (M_i_UndoOk_L1 x0 j29) FUEL 0))

theorem ok_i_UndoOk (x0 : List (List Int × Int)) (a2 : Option Addr) (c3 : Nat) (l4 : Nat) (hl5 : x0.length = l4) (r : Bool) (h : M_i_UndoOk x0 = some r) :
    FC Tryz.prog 102 [.agg #[.slice a2 l4 c3]] [⟨(.pair (.sl (.int .i64)) (.int .i64)), ⟨a2, l4, c3⟩, x0⟩] (fun _ : Unit => True) (fun _ => .bool r) (fun _ => []) :=
  by
    subst hl5
    refine FC.of (T := TTx) Tryz.call102 Tryz.func102 rfl rfl fun w0 => ?_
    unfold M_i_UndoOk at h
    refine JS.rgB ttOk 2 [] [2] [(1, .bp 2 0)] (.new 2 44 [.slice a2 x0.length c3] .nil) ⟨⟨rfl, trivial⟩, (Bs rfl rfl)⟩ rfl rfl (JS.seq (JS.rg0 ttOk 4 [(6, .v (.slice a2 x0.length c3)), (7, .v (.int .i64 (x0.length : Int))), (8, .v (.int .i64 0))] ⟨(Es rfl), rfl⟩ rfl rfl ?_))
    obtain ⟨j29, hj37, h⟩ := joinO_some h
    refine JS.blockJ (ι := Unit) ⟨fun _ => j29 () = some r, fun _ => [(1, .bp 2 0)], fun _ => (.new 2 44 [.slice a2 x0.length c3] .nil), fun _ => [⟨(.pair (.sl (.int .i64)) (.int .i64)), ⟨a2, x0.length, c3⟩, x0⟩], fun _ => [], fun _ => 0⟩ ?_ ?_
    · refine JS.loop (ι := Nat × Int) ⟨fun z => fixF (M_i_UndoOk_L1 x0 j29) z.1 z.2 = some r, fun z => [(1, .bp 2 0), (6, .v (.slice a2 x0.length c3)), (7, .v (.int .i64 (x0.length : Int))), (8, .v (.int .i64 z.2))], fun z => (.new 2 44 [.slice a2 x0.length c3] .nil), fun z => [⟨(.pair (.sl (.int .i64)) (.int .i64)), ⟨a2, x0.length, c3⟩, x0⟩], fun z => [], fun z => z.1⟩ (FUEL, 0) h (Es rfl) (Bs rfl rfl) [0] rfl [] rfl ?_
      rintro ⟨n25, x6⟩ h
      obtain ⟨n25, rfl, h⟩ := fixF_some h
      rw [M_i_UndoOk_L1] at h
      refine JS.rg0 ttOk 1 [(9, .v (.bool (decide (x6 < (x0.length : Int)))))] ⟨⟨rfl, trivial⟩, rfl⟩ rfl rfl (JS.seq ?_)
      refine JS.cond rfl (fun ht36 => ?_) (fun ht36 => ?_)
      · have h := condT h ht36
        refine JS.skip (JS.seq (JS.block (JS.seq (JS.region (JO.know 0 rfl fun hs34 => ?_)))))
        obtain ⟨g11, h⟩ := guardO_some h
        refine JO.reg ttOk 1 [] [] [(10, .ep ⟨a2, x0.length, c3⟩ (Int.toNat x6 * 2))] _ rfl ⟨hs34.ix g11, ⟨rfl, trivial⟩, rfl⟩ (JO.openR 0 rfl (Int.toNat x6) (at' x0 x6) rfl fun a12 c13 ys14 hl15 hy16 => JO.loadV ttOk rfl rfl rfl rfl rfl rfl 0 rfl rfl (Int.toNat x6) 0 ((Sl.v ⟨a12, ((at' x0 x6).1).length, c13⟩), (at' x0 x6).2) ⟨hy16 (ltNat g11), rfl⟩ rfl rfl rfl (JO.regB ttOk 2 [] [16] [(4, .bp 16 0)] (.new 2 44 [.slice a2 x0.length c3] (.new 16 38 [.slice a12 ((at' x0 x6).1).length c13, .int .i64 (at' x0 x6).2] .nil)) rfl ⟨⟨rfl, trivial⟩, (Bs rfl rfl)⟩ (JO.done rfl (JS.seq (JS.region (JO.reg ttOk 1 [] [] [(12, .v (.agg #[.slice a12 ((at' x0 x6).1).length c13, .int .i64 (at' x0 x6).2]))] _ rfl ⟨⟨rfl, trivial⟩, rfl⟩ ?_))))))
        obtain ⟨y17, hy18, h⟩ := bindO_some h
        refine JO.call rfl rfl rfl rfl (ok_i_LineOk ((at' x0 x6).1, (at' x0 x6).2) a12 c13 (((at' x0 x6).1).length) rfl _ hy18) rfl [1] rfl rfl fun _ _ => JO.reg ttOk 1 [] [] [(14, .v (.bool (!y17)))] _ rfl ⟨⟨rfl, trivial⟩, rfl⟩ (JO.done rfl ?_)
        refine JS.cond rfl (fun ht35 => ?_) (fun ht35 => ?_)
        · have h := condT h ht35
          refine JS.rg0 ttOk 1 [(2, .v (.bool false))] ⟨⟨rfl, trivial⟩, rfl⟩ rfl rfl ?_
          cases h
          exact JS.ret ttOk () trivial rfl rfl [] rfl
        have h := condF h ht35
        refine JS.skip (JS.endB (JS.re ttOk 2 [(W (x6 + 1))] [] [(8, .v (.int .i64 (W (x6 + 1))))] _ ⟨⟨trivial, rfl⟩, ⟨rfl, trivial⟩, rfl⟩ rfl rfl (JS.endL (n25, (W (x6 + 1))) h (Nat.lt_succ_self _) (Es rfl) (Bs rfl rfl) [2] rfl [] rfl)))
      have h := condF h ht36
      refine JS.exit rfl (JS.endJ () h ⟨rfl, trivial⟩ (Bs rfl rfl) [0] rfl [] rfl)
    rintro _ h
    subst hj37
    refine JS.rg0 ttOk 5 [(2, .v (.bool (decide ((x0.length : Int) ≤ 20))))] ⟨⟨rfl, trivial⟩, rfl⟩ rfl rfl ?_
    cases h
    exact JS.ret ttOk () trivial rfl rfl [] rfl

def M_i_emptyLine (x0 : List Int × Int) : Option Bool :=
  some (bif (decide ((x0.1.length : Int) = 0)) then (decide (x0.2 = 0)) else false)

theorem ok_i_emptyLine (x0 : List Int × Int) (a2 : Option Addr) (c3 : Nat) (l4 : Nat) (hl5 : x0.1.length = l4) (r : Bool) (h : M_i_emptyLine x0 = some r) :
    FC Tryz.prog 103 [.agg #[.slice a2 l4 c3, .int .i64 x0.2]] [⟨(.int .i64), ⟨a2, l4, c3⟩, x0.1⟩] (fun _ : Unit => True) (fun _ => .bool r) (fun _ => []) :=
  by
    subst hl5
    refine FC.of (T := TTx) Tryz.call103 Tryz.func103 rfl rfl fun w0 => ?_
    unfold M_i_emptyLine at h
    refine JS.rgB ttOk 2 [] [2] [(1, .bp 2 0)] (.new 2 38 [.slice a2 x0.1.length c3, .int .i64 x0.2] .nil) ⟨⟨rfl, trivial⟩, (Bs rfl rfl)⟩ rfl rfl (JS.rg0 ttOk 10 [(2, .v (.bool (bif (decide ((x0.1.length : Int) = 0)) then (decide (x0.2 = 0)) else false)))] ⟨⟨rfl, trivial⟩, rfl⟩ rfl rfl ?_)
    cases h
    exact JS.ret ttOk () trivial rfl rfl [] rfl

def M_i_EdOk_L1 (x0 : Bool × Int × (List Int × Int) × Int × Int × Int × Int × Int × Int × Int × List (List Int) × (List (List Int × Int)) × Int × (List Int × Int) × List Int × Int × List Int × Int) (j116 : Unit → Option Bool) (k111 : Int → Option Bool) : Int → Option Bool := fun x69 =>
  (bif (decide (x69 < (x0.2.2.2.2.2.2.2.2.2.2.2.2.2.2.1.length : Int))) then
  (guardO (0 ≤ x69 ∧ x69 < (x0.2.2.2.2.2.2.2.2.2.2.2.2.2.2.1.length : Int)) <|
  (bindO (M_i_Printable (at' x0.2.2.2.2.2.2.2.2.2.2.2.2.2.2.1 x69)) fun (y104 : Bool) =>
  (bif (!y104) then
  some false
  else
  k111 (W (x69 + 1)))))
  else
  j116 ())

def M_i_EdOk (x0 : Bool × Int × (List Int × Int) × Int × Int × Int × Int × Int × Int × Int × List (List Int) × (List (List Int × Int)) × Int × (List Int × Int) × List Int × Int × List Int × Int) : Option Bool :=
  (bindO (M_i_LineOk x0.2.2.1) fun (y26 : Bool) =>
  (callO ((!y26) = false) (M_i_LineOk x0.2.2.2.2.2.2.2.2.2.2.2.2.2.1) false fun (y28 : Bool) =>
  (callO ((bif (!y26) then true else (!y28)) = false) (M_i_LineOk x0.2.2.2.2.2.2.2.2.2.2.2.2.2.2.2.2) false fun (y31 : Bool) =>
  (callO ((bif (bif (!y26) then true else (!y28)) then true else (!y31)) = false) (M_i_in x0.2.2.2.1 0 999) false fun (y34 : Bool) =>
  (callO ((bif (bif (bif (!y26) then true else (!y28)) then true else (!y31)) then true else (!y34)) = false) (M_i_in x0.2.2.2.2.2.1 0 999) false fun (y37 : Bool) =>
  (callO ((bif (bif (bif (bif (!y26) then true else (!y28)) then true else (!y31)) then true else (!y34)) then true else (!y37)) = false) (M_i_modeOk x0) false fun (y40 : Bool) =>
  (bif (bif (bif (bif (bif (bif (!y26) then true else (!y28)) then true else (!y31)) then true else (!y34)) then true else (!y37)) then true else (!y40)) then
  some false
  else
  (callO ((!(decide (x0.2.2.2.2.2.2.2.1 = 0))) = true ∧ (bif (decide (x0.2.2.2.2.2.2.2.1 = 0)) then (!(decide (x0.2.2.2.2.2.2.2.2.1 = 0))) else false) = false) (M_i_Printable x0.2.2.2.2.2.2.2.1) false fun (y43 : Bool) =>
  (callO ((!y43) = false ∧ (!(decide (x0.2.2.2.2.2.2.2.1 = 0))) = true ∧ (bif (decide (x0.2.2.2.2.2.2.2.1 = 0)) then (!(decide (x0.2.2.2.2.2.2.2.2.1 = 0))) else false) = false) (M_i_in x0.2.2.2.2.2.2.2.2.1 0 3) false fun (y47 : Bool) =>
  (bif (bif (bif (decide (x0.2.2.2.2.2.2.2.1 = 0)) then (!(decide (x0.2.2.2.2.2.2.2.2.1 = 0))) else false) then true else (bif (!(decide (x0.2.2.2.2.2.2.2.1 = 0))) then (bif (!y43) then true else (!y47)) else false)) then
  some false
  else
  (bindO (M_i_in x0.2.2.2.2.2.2.2.2.2.1 0 3) fun (y52 : Bool) =>
  (callO ((!y52) = false) (M_i_RingOk x0.2.2.2.2.2.2.2.2.2.2.1) false fun (y54 : Bool) =>
  (callO ((bif (!y52) then true else (!y54)) = false) (M_i_UndoOk x0.2.2.2.2.2.2.2.2.2.2.2.1) false fun (y57 : Bool) =>
  (callO ((bif (bif (!y52) then true else (!y54)) then true else (!y57)) = false) (M_i_in x0.2.2.2.2.2.2.2.2.2.2.2.2.1 0 1000000060) false fun (y60 : Bool) =>
  (callO ((bif (bif (bif (!y52) then true else (!y54)) then true else (!y57)) then true else (!y60)) = false) (M_i_in x0.2.2.2.2.2.2.2.2.2.2.2.2.2.2.2.1 0 1000000060) false fun (y63 : Bool) =>
  (bif (bif (bif (bif (bif (!y52) then true else (!y54)) then true else (!y57)) then true else (!y60)) then true else (!y63)) then
  some false
  else
  (callO ((decide (x0.2.2.2.2.2.2.2.2.2.2.2.2.1 = 0)) = true) (M_i_emptyLine x0.2.2.2.2.2.2.2.2.2.2.2.2.2.1) false fun (y66 : Bool) =>
  (bif (bif (bif (decide (x0.2.2.2.2.2.2.2.2.2.2.2.2.1 = 0)) then (!y66) else false) then true else (decide (40 < (x0.2.2.2.2.2.2.2.2.2.2.2.2.2.2.1.length : Int)))) then
  some false
  else
  (joinO (fun (_ : Unit) =>
  (callO ((bif (decide ((x0.2.2.2.2.2.2.2.2.2.2.2.2.2.2.1.length : Int) = 0)) then (decide (x0.2.2.2.2.2.2.2.2.2.2.2.2.2.2.2.1 = 0)) else false) = true ∧ (decide (x0.2.1 = 3)) = false) (M_i_emptyLine x0.2.2.2.2.2.2.2.2.2.2.2.2.2.2.2.2) false fun (y120 : Bool) =>
  some (bif (decide (x0.2.1 = 3)) then true else (bif (bif (decide ((x0.2.2.2.2.2.2.2.2.2.2.2.2.2.2.1.length : Int) = 0)) then (decide (x0.2.2.2.2.2.2.2.2.2.2.2.2.2.2.2.1 = 0)) else false) then y120 else false)))) fun j116 =>
  (fixF (M_i_EdOk_L1 x0 j116) FUEL 0))))))))))))))))))))

theorem ok_i_EdOk (x0 : Bool × Int × (List Int × Int) × Int × Int × Int × Int × Int × Int × Int × List (List Int) × (List (List Int × Int)) × Int × (List Int × Int) × List Int × Int × List Int × Int) (a2 : Option Addr) (c3 : Nat) (l4 : Nat) (hl5 : x0.2.2.1.1.length = l4) (a6 : Option Addr) (c7 : Nat) (l8 : Nat) (hl9 : x0.2.2.2.2.2.2.2.2.2.2.1.length = l8) (a10 : Option Addr) (c11 : Nat) (l12 : Nat) (hl13 : x0.2.2.2.2.2.2.2.2.2.2.2.1.length = l12) (a14 : Option Addr) (c15 : Nat) (l16 : Nat) (hl17 : x0.2.2.2.2.2.2.2.2.2.2.2.2.2.1.1.length = l16) (a18 : Option Addr) (c19 : Nat) (l20 : Nat) (hl21 : x0.2.2.2.2.2.2.2.2.2.2.2.2.2.2.1.length = l20) (a22 : Option Addr) (c23 : Nat) (l24 : Nat) (hl25 : x0.2.2.2.2.2.2.2.2.2.2.2.2.2.2.2.2.1.length = l24) (r : Bool) (h : M_i_EdOk x0 = some r) :
    FC Tryz.prog 34 [.agg #[.bool x0.1, .int .i64 x0.2.1, .slice a2 l4 c3, .int .i64 x0.2.2.1.2, .int .i64 x0.2.2.2.1, .int .i64 x0.2.2.2.2.1, .int .i64 x0.2.2.2.2.2.1, .int .i64 x0.2.2.2.2.2.2.1, .int .i64 x0.2.2.2.2.2.2.2.1, .int .i64 x0.2.2.2.2.2.2.2.2.1, .int .i64 x0.2.2.2.2.2.2.2.2.2.1, .slice a6 l8 c7, .slice a10 l12 c11, .int .i64 x0.2.2.2.2.2.2.2.2.2.2.2.2.1, .slice a14 l16 c15, .int .i64 x0.2.2.2.2.2.2.2.2.2.2.2.2.2.1.2, .slice a18 l20 c19, .int .i64 x0.2.2.2.2.2.2.2.2.2.2.2.2.2.2.2.1, .slice a22 l24 c23, .int .i64 x0.2.2.2.2.2.2.2.2.2.2.2.2.2.2.2.2.2]] [⟨(.int .i64), ⟨a2, l4, c3⟩, x0.2.2.1.1⟩, ⟨(.sl (.int .i64)), ⟨a6, l8, c7⟩, x0.2.2.2.2.2.2.2.2.2.2.1⟩, ⟨(.pair (.sl (.int .i64)) (.int .i64)), ⟨a10, l12, c11⟩, x0.2.2.2.2.2.2.2.2.2.2.2.1⟩, ⟨(.int .i64), ⟨a14, l16, c15⟩, x0.2.2.2.2.2.2.2.2.2.2.2.2.2.1.1⟩, ⟨(.int .i64), ⟨a18, l20, c19⟩, x0.2.2.2.2.2.2.2.2.2.2.2.2.2.2.1⟩, ⟨(.int .i64), ⟨a22, l24, c23⟩, x0.2.2.2.2.2.2.2.2.2.2.2.2.2.2.2.2.1⟩] (fun _ : Unit => True) (fun _ => .bool r) (fun _ => []) :=
  by
    subst hl5
    subst hl9
    subst hl13
    subst hl17
    subst hl21
    subst hl25
    refine FC.of (T := TTx) Tryz.call34 Tryz.func34 rfl rfl fun w0 => ?_
    unfold M_i_EdOk at h
    refine JS.rgB ttOk 2 [] [7] [(1, .bp 7 0)] (.new 7 46 (cl46 x0 a2 c3 a6 c7 a10 c11 a14 c15 a18 c19 a22 c23) .nil) ⟨⟨rfl, trivial⟩, (Bs rfl rfl)⟩ rfl rfl (JS.seq (JS.seq (JS.region (JO.reg ttOk 2 [] [] [(6, .v (.agg #[.slice a2 x0.2.2.1.1.length c3, .int .i64 x0.2.2.1.2]))] _ rfl ⟨⟨rfl, trivial⟩, rfl⟩ ?_))))
    obtain ⟨y26, hy27, h⟩ := bindO_some h
    refine JO.call rfl rfl rfl rfl (ok_i_LineOk x0.2.2.1 a2 c3 x0.2.2.1.1.length rfl _ hy27) rfl [0] rfl rfl fun _ _ => JO.reg ttOk 4 [] [] [(9, .v (.bool (!y26))), (11, .cd [(9, false)] (.v (.agg #[.slice a14 x0.2.2.2.2.2.2.2.2.2.2.2.2.2.1.1.length c15, .int .i64 x0.2.2.2.2.2.2.2.2.2.2.2.2.2.1.2])))] _ rfl ⟨(Es rfl), rfl⟩ ?_
    obtain ⟨y28, hy29, -, h⟩ := callO_some h
    refine JO.callg rfl rfl rfl rfl (fun q129 => ok_i_LineOk x0.2.2.2.2.2.2.2.2.2.2.2.2.2.1 a14 c15 x0.2.2.2.2.2.2.2.2.2.2.2.2.2.1.1.length rfl _ (hy29 q129)) rfl [3] rfl rfl (JO.reg ttOk 5 [] [] [(15, .v (.bool (bif (!y26) then true else (!y28)))), (17, .cd [(15, false)] (.v (.agg #[.slice a22 x0.2.2.2.2.2.2.2.2.2.2.2.2.2.2.2.2.1.length c23, .int .i64 x0.2.2.2.2.2.2.2.2.2.2.2.2.2.2.2.2.2])))] _ rfl ⟨(Es rfl), rfl⟩ ?_)
    obtain ⟨y31, hy32, -, h⟩ := callO_some h
    refine JO.callg rfl rfl rfl rfl (fun q130 => ok_i_LineOk x0.2.2.2.2.2.2.2.2.2.2.2.2.2.2.2.2 a22 c23 x0.2.2.2.2.2.2.2.2.2.2.2.2.2.2.2.2.1.length rfl _ (hy32 q130)) rfl [5] rfl rfl (JO.reg ttOk 5 [] [] [(21, .v (.bool (bif (bif (!y26) then true else (!y28)) then true else (!y31)))), (23, .cd [(21, false)] (.v (.int .i64 x0.2.2.2.1)))] _ rfl ⟨(Es rfl), rfl⟩ ?_)
    obtain ⟨y34, hy35, -, h⟩ := callO_some h
    refine JO.callg rfl rfl rfl rfl (fun q131 => ok_i_in x0.2.2.2.1 0 999 _ (hy35 q131)) rfl [] rfl rfl (JO.reg ttOk 5 [] [] [(27, .v (.bool (bif (bif (bif (!y26) then true else (!y28)) then true else (!y31)) then true else (!y34)))), (29, .cd [(27, false)] (.v (.int .i64 x0.2.2.2.2.2.1)))] _ rfl ⟨(Es rfl), rfl⟩ ?_)
    obtain ⟨y37, hy38, -, h⟩ := callO_some h
    refine JO.callg rfl rfl rfl rfl (fun q132 => ok_i_in x0.2.2.2.2.2.1 0 999 _ (hy38 q132)) rfl [] rfl rfl (JO.reg ttOk 4 [] [] [(33, .v (.bool (bif (bif (bif (bif (!y26) then true else (!y28)) then true else (!y31)) then true else (!y34)) then true else (!y37)))), (34, .cd [(33, false)] (.v (.agg (cl46 x0 a2 c3 a6 c7 a10 c11 a14 c15 a18 c19 a22 c23).toArray)))] _ rfl ⟨(Es rfl), rfl⟩ ?_)
    obtain ⟨y40, hy41, -, h⟩ := callO_some h
    refine JO.callg rfl rfl rfl rfl (fun q133 => ok_i_modeOk x0 a2 c3 x0.2.2.1.1.length rfl a6 c7 x0.2.2.2.2.2.2.2.2.2.2.1.length rfl a10 c11 x0.2.2.2.2.2.2.2.2.2.2.2.1.length rfl a14 c15 x0.2.2.2.2.2.2.2.2.2.2.2.2.2.1.1.length rfl a18 c19 x0.2.2.2.2.2.2.2.2.2.2.2.2.2.2.1.length rfl a22 c23 x0.2.2.2.2.2.2.2.2.2.2.2.2.2.2.2.2.1.length rfl _ (hy41 q133)) rfl [0, 1, 2, 3, 4, 5] rfl rfl (JO.reg ttOk 2 [] [] [(37, .v (.bool (bif (bif (bif (bif (bif (!y26) then true else (!y28)) then true else (!y31)) then true else (!y34)) then true else (!y37)) then true else (!y40))))] _ rfl ⟨⟨rfl, trivial⟩, rfl⟩ (JO.done rfl ?_))
    refine JS.cond rfl (fun ht153 => ?_) (fun ht153 => ?_)
    · have h := condT h ht153
      refine JS.rg0 ttOk 1 [(2, .v (.bool false))] ⟨⟨rfl, trivial⟩, rfl⟩ rfl rfl ?_
      cases h
      exact JS.ret ttOk () trivial rfl rfl [] rfl
    have h := condF h ht153
    refine JS.skip (JS.seq (JS.seq (JS.region (JO.reg ttOk 15 [] [] [(46, .v (.bool (bif (decide (x0.2.2.2.2.2.2.2.1 = 0)) then (!(decide (x0.2.2.2.2.2.2.2.2.1 = 0))) else false))), (50, .cd [(46, false)] (.v (.bool (!(decide (x0.2.2.2.2.2.2.2.1 = 0)))))), (52, .cd [(50, true), (46, false)] (.v (.int .i64 x0.2.2.2.2.2.2.2.1)))] _ rfl ⟨(Es rfl), rfl⟩ ?_))))
    obtain ⟨y43, hy44, -, h⟩ := callO_some h
    refine JO.callg rfl rfl rfl rfl (fun q134 q135 => ok_i_Printable x0.2.2.2.2.2.2.2.1 _ (hy44 ⟨q134, q135⟩)) rfl [] rfl rfl (JO.reg ttOk 4 [] [] [(55, .cd [(50, true), (46, false)] (.v (.bool (!y43)))), (57, .cd [(55, false), (50, true), (46, false)] (.v (.int .i64 x0.2.2.2.2.2.2.2.2.1)))] _ rfl ⟨(Es rfl), rfl⟩ ?_)
    obtain ⟨y47, hy48, -, h⟩ := callO_some h
    refine JO.callg rfl rfl rfl rfl (fun q136 q137 q138 => ok_i_in x0.2.2.2.2.2.2.2.2.1 0 3 _ (hy48 ⟨q136, q137, q138⟩)) rfl [] rfl rfl (JO.reg ttOk 4 [] [] [(62, .v (.bool (bif (bif (decide (x0.2.2.2.2.2.2.2.1 = 0)) then (!(decide (x0.2.2.2.2.2.2.2.2.1 = 0))) else false) then true else (bif (!(decide (x0.2.2.2.2.2.2.2.1 = 0))) then (bif (!y43) then true else (!y47)) else false))))] _ rfl ⟨⟨rfl, trivial⟩, rfl⟩ (JO.done rfl ?_))
    refine JS.cond rfl (fun ht152 => ?_) (fun ht152 => ?_)
    · have h := condT h ht152
      refine JS.rg0 ttOk 1 [(2, .v (.bool false))] ⟨⟨rfl, trivial⟩, rfl⟩ rfl rfl ?_
      cases h
      exact JS.ret ttOk () trivial rfl rfl [] rfl
    have h := condF h ht152
    refine JS.skip (JS.seq (JS.seq (JS.region (JO.reg ttOk 2 [] [] [(64, .v (.int .i64 x0.2.2.2.2.2.2.2.2.2.1))] _ rfl ⟨⟨rfl, trivial⟩, rfl⟩ ?_))))
    obtain ⟨y52, hy53, h⟩ := bindO_some h
    refine JO.call rfl rfl rfl rfl (ok_i_in x0.2.2.2.2.2.2.2.2.2.1 0 3 _ hy53) rfl [] rfl rfl fun _ _ => JO.reg ttOk 4 [] [] [(67, .v (.bool (!y52))), (69, .cd [(67, false)] (.v (.agg #[.slice a6 x0.2.2.2.2.2.2.2.2.2.2.1.length c7])))] _ rfl ⟨(Es rfl), rfl⟩ ?_
    obtain ⟨y54, hy55, -, h⟩ := callO_some h
    refine JO.callg rfl rfl rfl rfl (fun q139 => ok_i_RingOk x0.2.2.2.2.2.2.2.2.2.2.1 a6 c7 x0.2.2.2.2.2.2.2.2.2.2.1.length rfl _ (hy55 q139)) rfl [1] rfl rfl (JO.reg ttOk 5 [] [] [(73, .v (.bool (bif (!y52) then true else (!y54)))), (75, .cd [(73, false)] (.v (.agg #[.slice a10 x0.2.2.2.2.2.2.2.2.2.2.2.1.length c11])))] _ rfl ⟨(Es rfl), rfl⟩ ?_)
    obtain ⟨y57, hy58, -, h⟩ := callO_some h
    refine JO.callg rfl rfl rfl rfl (fun q140 => ok_i_UndoOk x0.2.2.2.2.2.2.2.2.2.2.2.1 a10 c11 x0.2.2.2.2.2.2.2.2.2.2.2.1.length rfl _ (hy58 q140)) rfl [2] rfl rfl (JO.reg ttOk 5 [] [] [(79, .v (.bool (bif (bif (!y52) then true else (!y54)) then true else (!y57)))), (81, .cd [(79, false)] (.v (.int .i64 x0.2.2.2.2.2.2.2.2.2.2.2.2.1)))] _ rfl ⟨(Es rfl), rfl⟩ ?_)
    obtain ⟨y60, hy61, -, h⟩ := callO_some h
    refine JO.callg rfl rfl rfl rfl (fun q141 => ok_i_in x0.2.2.2.2.2.2.2.2.2.2.2.2.1 0 1000000060 _ (hy61 q141)) rfl [] rfl rfl (JO.reg ttOk 5 [] [] [(85, .v (.bool (bif (bif (bif (!y52) then true else (!y54)) then true else (!y57)) then true else (!y60)))), (87, .cd [(85, false)] (.v (.int .i64 x0.2.2.2.2.2.2.2.2.2.2.2.2.2.2.2.1)))] _ rfl ⟨(Es rfl), rfl⟩ ?_)
    obtain ⟨y63, hy64, -, h⟩ := callO_some h
    refine JO.callg rfl rfl rfl rfl (fun q142 => ok_i_in x0.2.2.2.2.2.2.2.2.2.2.2.2.2.2.2.1 0 1000000060 _ (hy64 q142)) rfl [] rfl rfl (JO.reg ttOk 2 [] [] [(90, .v (.bool (bif (bif (bif (bif (!y52) then true else (!y54)) then true else (!y57)) then true else (!y60)) then true else (!y63))))] _ rfl ⟨⟨rfl, trivial⟩, rfl⟩ (JO.done rfl ?_))
    refine JS.cond rfl (fun ht151 => ?_) (fun ht151 => ?_)
    · have h := condT h ht151
      refine JS.rg0 ttOk 1 [(2, .v (.bool false))] ⟨⟨rfl, trivial⟩, rfl⟩ rfl rfl ?_
      cases h
      exact JS.ret ttOk () trivial rfl rfl [] rfl
    have h := condF h ht151
    refine JS.skip (JS.seq (JS.seq (JS.region (JO.reg ttOk 6 [] [] [(94, .v (.bool (decide (x0.2.2.2.2.2.2.2.2.2.2.2.2.1 = 0)))), (96, .cd [(94, true)] (.v (.agg #[.slice a14 x0.2.2.2.2.2.2.2.2.2.2.2.2.2.1.1.length c15, .int .i64 x0.2.2.2.2.2.2.2.2.2.2.2.2.2.1.2])))] _ rfl ⟨(Es rfl), rfl⟩ ?_))))
    obtain ⟨y66, hy67, -, h⟩ := callO_some h
    refine JO.callg rfl rfl rfl rfl (fun q143 => ok_i_emptyLine x0.2.2.2.2.2.2.2.2.2.2.2.2.2.1 a14 c15 x0.2.2.2.2.2.2.2.2.2.2.2.2.2.1.1.length rfl _ (hy67 q143)) rfl [3] rfl rfl (JO.reg ttOk 8 [] [] [(105, .v (.bool (bif (bif (decide (x0.2.2.2.2.2.2.2.2.2.2.2.2.1 = 0)) then (!y66) else false) then true else (decide (40 < (x0.2.2.2.2.2.2.2.2.2.2.2.2.2.2.1.length : Int))))))] _ rfl ⟨⟨rfl, trivial⟩, rfl⟩ (JO.done rfl ?_))
    refine JS.cond rfl (fun ht150 => ?_) (fun ht150 => ?_)
    · have h := condT h ht150
      refine JS.rg0 ttOk 1 [(2, .v (.bool false))] ⟨⟨rfl, trivial⟩, rfl⟩ rfl rfl ?_
      cases h
      exact JS.ret ttOk () trivial rfl rfl [] rfl
    have h := condF h ht150
    refine JS.skip (JS.seq (JS.rg0 ttOk 4 [(107, .v (.slice a18 x0.2.2.2.2.2.2.2.2.2.2.2.2.2.2.1.length c19)), (108, .v (.int .i64 (x0.2.2.2.2.2.2.2.2.2.2.2.2.2.2.1.length : Int))), (109, .v (.int .i64 0))] ⟨(Es rfl), rfl⟩ rfl rfl ?_))
    obtain ⟨j116, hj149, h⟩ := joinO_some h
    refine JS.blockJ (ι := Unit) ⟨fun _ => j116 () = some r, fun _ => [(1, .bp 7 0)], fun _ => (.new 7 46 (cl46 x0 a2 c3 a6 c7 a10 c11 a14 c15 a18 c19 a22 c23) .nil), fun _ => [⟨(.int .i64), ⟨a2, x0.2.2.1.1.length, c3⟩, x0.2.2.1.1⟩, ⟨(.sl (.int .i64)), ⟨a6, x0.2.2.2.2.2.2.2.2.2.2.1.length, c7⟩, x0.2.2.2.2.2.2.2.2.2.2.1⟩, ⟨(.pair (.sl (.int .i64)) (.int .i64)), ⟨a10, x0.2.2.2.2.2.2.2.2.2.2.2.1.length, c11⟩, x0.2.2.2.2.2.2.2.2.2.2.2.1⟩, ⟨(.int .i64), ⟨a14, x0.2.2.2.2.2.2.2.2.2.2.2.2.2.1.1.length, c15⟩, x0.2.2.2.2.2.2.2.2.2.2.2.2.2.1.1⟩, ⟨(.int .i64), ⟨a18, x0.2.2.2.2.2.2.2.2.2.2.2.2.2.2.1.length, c19⟩, x0.2.2.2.2.2.2.2.2.2.2.2.2.2.2.1⟩, ⟨(.int .i64), ⟨a22, x0.2.2.2.2.2.2.2.2.2.2.2.2.2.2.2.2.1.length, c23⟩, x0.2.2.2.2.2.2.2.2.2.2.2.2.2.2.2.2.1⟩], fun _ => [], fun _ => 0⟩ ?_ ?_
    · refine JS.loop (ι := Nat × Int) ⟨fun z => fixF (M_i_EdOk_L1 x0 j116) z.1 z.2 = some r, fun z => [(1, .bp 7 0), (107, .v (.slice a18 x0.2.2.2.2.2.2.2.2.2.2.2.2.2.2.1.length c19)), (108, .v (.int .i64 (x0.2.2.2.2.2.2.2.2.2.2.2.2.2.2.1.length : Int))), (109, .v (.int .i64 z.2))], fun z => (.new 7 46 (cl46 x0 a2 c3 a6 c7 a10 c11 a14 c15 a18 c19 a22 c23) .nil), fun z => [⟨(.int .i64), ⟨a18, x0.2.2.2.2.2.2.2.2.2.2.2.2.2.2.1.length, c19⟩, x0.2.2.2.2.2.2.2.2.2.2.2.2.2.2.1⟩, ⟨(.int .i64), ⟨a2, x0.2.2.1.1.length, c3⟩, x0.2.2.1.1⟩, ⟨(.sl (.int .i64)), ⟨a6, x0.2.2.2.2.2.2.2.2.2.2.1.length, c7⟩, x0.2.2.2.2.2.2.2.2.2.2.1⟩, ⟨(.pair (.sl (.int .i64)) (.int .i64)), ⟨a10, x0.2.2.2.2.2.2.2.2.2.2.2.1.length, c11⟩, x0.2.2.2.2.2.2.2.2.2.2.2.1⟩, ⟨(.int .i64), ⟨a14, x0.2.2.2.2.2.2.2.2.2.2.2.2.2.1.1.length, c15⟩, x0.2.2.2.2.2.2.2.2.2.2.2.2.2.1.1⟩, ⟨(.int .i64), ⟨a22, x0.2.2.2.2.2.2.2.2.2.2.2.2.2.2.2.2.1.length, c23⟩, x0.2.2.2.2.2.2.2.2.2.2.2.2.2.2.2.2.1⟩], fun z => [], fun z => z.1⟩ (FUEL, 0) h (Es rfl) (Bs rfl rfl) [4, 0, 1, 2, 3, 5] rfl [] rfl ?_
      rintro ⟨n112, x69⟩ h
      obtain ⟨n112, rfl, h⟩ := fixF_some h
      rw [M_i_EdOk_L1] at h
      refine JS.rg0 ttOk 1 [(110, .v (.bool (decide (x69 < (x0.2.2.2.2.2.2.2.2.2.2.2.2.2.2.1.length : Int)))))] ⟨⟨rfl, trivial⟩, rfl⟩ rfl rfl (JS.seq ?_)
      refine JS.cond rfl (fun ht146 => ?_) (fun ht146 => ?_)
      · have h := condT h ht146
        refine JS.skip (JS.seq (JS.block (JS.seq (JS.region (JO.know 0 rfl fun hs144 => ?_)))))
        obtain ⟨g103, h⟩ := guardO_some h
        refine JO.reg ttOk 1 [] [] [(111, .ep ⟨a18, x0.2.2.2.2.2.2.2.2.2.2.2.2.2.2.1.length, c19⟩ (Int.toNat x69 * 1))] _ rfl ⟨hs144.ix g103, ⟨rfl, trivial⟩, rfl⟩ (JO.load ttOk rfl rfl rfl rfl rfl rfl rfl 0 rfl rfl (Int.toNat x69) 0 (at' x0.2.2.2.2.2.2.2.2.2.2.2.2.2.2.1 x69) ⟨at_some g103, rfl⟩ rfl rfl (JO.reg ttOk 1 [] [] [(4, .v (.int .i64 (at' x0.2.2.2.2.2.2.2.2.2.2.2.2.2.2.1 x69)))] _ rfl ⟨⟨rfl, trivial⟩, rfl⟩ (JO.done rfl (JS.seq (JS.region (JO.reg ttOk 1 [] [] [(113, .v (.int .i64 (at' x0.2.2.2.2.2.2.2.2.2.2.2.2.2.2.1 x69)))] _ rfl ⟨⟨rfl, trivial⟩, rfl⟩ ?_))))))
        obtain ⟨y104, hy105, h⟩ := bindO_some h
        refine JO.call rfl rfl rfl rfl (ok_i_Printable (at' x0.2.2.2.2.2.2.2.2.2.2.2.2.2.2.1 x69) _ hy105) rfl [] rfl rfl fun _ _ => JO.reg ttOk 1 [] [] [(115, .v (.bool (!y104)))] _ rfl ⟨⟨rfl, trivial⟩, rfl⟩ (JO.done rfl ?_)
        refine JS.cond rfl (fun ht145 => ?_) (fun ht145 => ?_)
        · have h := condT h ht145
          refine JS.rg0 ttOk 1 [(2, .v (.bool false))] ⟨⟨rfl, trivial⟩, rfl⟩ rfl rfl ?_
          cases h
          exact JS.ret ttOk () trivial rfl rfl [] rfl
        have h := condF h ht145
        refine JS.skip (JS.endB (JS.re ttOk 2 [(W (x69 + 1))] [] [(109, .v (.int .i64 (W (x69 + 1))))] _ ⟨⟨trivial, rfl⟩, ⟨rfl, trivial⟩, rfl⟩ rfl rfl (JS.endL (n112, (W (x69 + 1))) h (Nat.lt_succ_self _) (Es rfl) (Bs rfl rfl) [0, 1, 2, 3, 4, 5] rfl [] rfl)))
      have h := condF h ht146
      refine JS.exit rfl (JS.endJ () h ⟨rfl, trivial⟩ (Bs rfl rfl) [1, 2, 3, 4, 0, 5] rfl [] rfl)
    rintro _ h
    subst hj149
    refine JS.seq (JS.region (JO.reg ttOk 16 [] [] [(120, .v (.bool (decide (x0.2.1 = 3)))), (130, .cd [(120, false)] (.v (.bool (bif (decide ((x0.2.2.2.2.2.2.2.2.2.2.2.2.2.2.1.length : Int) = 0)) then (decide (x0.2.2.2.2.2.2.2.2.2.2.2.2.2.2.2.1 = 0)) else false)))), (132, .cd [(130, true), (120, false)] (.v (.agg #[.slice a22 x0.2.2.2.2.2.2.2.2.2.2.2.2.2.2.2.2.1.length c23, .int .i64 x0.2.2.2.2.2.2.2.2.2.2.2.2.2.2.2.2.2])))] _ rfl ⟨(Es rfl), rfl⟩ ?_))
    obtain ⟨y120, hy121, -, h⟩ := callO_some h
    refine JO.callg rfl rfl rfl rfl (fun q147 q148 => ok_i_emptyLine x0.2.2.2.2.2.2.2.2.2.2.2.2.2.2.2.2 a22 c23 x0.2.2.2.2.2.2.2.2.2.2.2.2.2.2.2.2.1.length rfl _ (hy121 ⟨q147, q148⟩)) rfl [5] rfl rfl (JO.reg ttOk 3 [] [] [(2, .v (.bool (bif (decide (x0.2.1 = 3)) then true else (bif (bif (decide ((x0.2.2.2.2.2.2.2.2.2.2.2.2.2.2.1.length : Int) = 0)) then (decide (x0.2.2.2.2.2.2.2.2.2.2.2.2.2.2.2.1 = 0)) else false) then y120 else false))))] _ rfl ⟨⟨rfl, trivial⟩, rfl⟩ (JO.done rfl ?_))
    cases h
    exact JS.ret ttOk () trivial rfl rfl [] rfl

def M_i_HistOk_L1 (x0 : Int × List (List UInt8)) (j20 : Unit → Option Bool) (k15 : Int → Option Bool) : Int → Option Bool := fun x8 =>
  (bif (decide (x8 < (x0.2.length : Int))) then
  (guardO (0 ≤ x8 ∧ x8 < (x0.2.length : Int)) <|
  (bindO (M_i_in ((at' x0.2 x8).length : Int) 1 1000) fun (y11 : Bool) =>
  (bif (!y11) then
  some false
  else
  k15 (W (x8 + 1)))))
  else
  j20 ())

def M_i_HistOk (x0 : Int × List (List UInt8)) : Option Bool :=
  (bindO (M_i_in x0.1 1 1000000000) fun (y6 : Bool) =>
  (bif (bif (!y6) then true else (decide (60 < (x0.2.length : Int)))) then
  some false
  else
  (joinO (fun (_ : Unit) =>
  some true) fun j20 =>
  (fixF (M_i_HistOk_L1 x0 j20) FUEL 0))))

theorem ok_i_HistOk (x0 : Int × List (List UInt8)) (a2 : Option Addr) (c3 : Nat) (l4 : Nat) (hl5 : x0.2.length = l4) (r : Bool) (h : M_i_HistOk x0 = some r) :
    FC Tryz.prog 96 [.agg #[.int .i64 x0.1, .slice a2 l4 c3]] [⟨.str, ⟨a2, l4, c3⟩, x0.2⟩] (fun _ : Unit => True) (fun _ => .bool r) (fun _ => []) :=
  by
    subst hl5
    refine FC.of (T := TTx) Tryz.call96 Tryz.func96 rfl rfl fun w0 => ?_
    unfold M_i_HistOk at h
    refine JS.rgB ttOk 2 [] [2] [(1, .bp 2 0)] (.new 2 50 [.int .i64 x0.1, .slice a2 x0.2.length c3] .nil) ⟨⟨rfl, trivial⟩, (Bs rfl rfl)⟩ rfl rfl (JS.seq (JS.seq (JS.region (JO.reg ttOk 2 [] [] [(6, .v (.int .i64 x0.1))] _ rfl ⟨⟨rfl, trivial⟩, rfl⟩ ?_))))
    obtain ⟨y6, hy7, h⟩ := bindO_some h
    refine JO.call rfl rfl rfl rfl (ok_i_in x0.1 1 1000000000 _ hy7) rfl [] rfl rfl fun _ _ => JO.reg ttOk 7 [] [] [(14, .v (.bool (bif (!y6) then true else (decide (60 < (x0.2.length : Int))))))] _ rfl ⟨⟨rfl, trivial⟩, rfl⟩ (JO.done rfl ?_)
    refine JS.cond rfl (fun ht30 => ?_) (fun ht30 => ?_)
    · have h := condT h ht30
      refine JS.rg0 ttOk 1 [(2, .v (.bool false))] ⟨⟨rfl, trivial⟩, rfl⟩ rfl rfl ?_
      cases h
      exact JS.ret ttOk () trivial rfl rfl [] rfl
    have h := condF h ht30
    refine JS.skip (JS.seq (JS.rg0 ttOk 4 [(16, .v (.slice a2 x0.2.length c3)), (17, .v (.int .i64 (x0.2.length : Int))), (18, .v (.int .i64 0))] ⟨(Es rfl), rfl⟩ rfl rfl ?_))
    obtain ⟨j20, hj29, h⟩ := joinO_some h
    refine JS.blockJ (ι := Unit) ⟨fun _ => j20 () = some r, fun _ => [], fun _ => .nil, fun _ => [], fun _ => [], fun _ => 0⟩ ?_ ?_
    · refine JS.loop (ι := Nat × Int) ⟨fun z => fixF (M_i_HistOk_L1 x0 j20) z.1 z.2 = some r, fun z => [(16, .v (.slice a2 x0.2.length c3)), (17, .v (.int .i64 (x0.2.length : Int))), (18, .v (.int .i64 z.2))], fun z => .nil, fun z => [⟨.str, ⟨a2, x0.2.length, c3⟩, x0.2⟩], fun z => [], fun z => z.1⟩ (FUEL, 0) h (Es rfl) trivial [0] rfl [] rfl ?_
      rintro ⟨n16, x8⟩ h
      obtain ⟨n16, rfl, h⟩ := fixF_some h
      rw [M_i_HistOk_L1] at h
      refine JS.rg0 ttOk 1 [(19, .v (.bool (decide (x8 < (x0.2.length : Int)))))] ⟨⟨rfl, trivial⟩, rfl⟩ rfl rfl (JS.seq ?_)
      refine JS.cond rfl (fun ht28 => ?_) (fun ht28 => ?_)
      · have h := condT h ht28
        refine JS.skip (JS.seq (JS.block (JS.seq (JS.region (JO.know 0 rfl fun hs26 => ?_)))))
        obtain ⟨g10, h⟩ := guardO_some h
        refine JO.reg ttOk 1 [] [] [(20, .ep ⟨a2, x0.2.length, c3⟩ (Int.toNat x8 * 1))] _ rfl ⟨hs26.ix g10, ⟨rfl, trivial⟩, rfl⟩ (JO.load ttOk rfl rfl rfl rfl rfl rfl rfl 0 rfl rfl (Int.toNat x8) 0 (at' x0.2 x8) ⟨at_some g10, rfl⟩ rfl rfl (JO.reg ttOk 1 [] [] [(4, .v (.string (bs (at' x0.2 x8))))] _ rfl ⟨⟨rfl, trivial⟩, rfl⟩ (JO.done rfl (JS.seq (JS.region (JO.reg ttOk 2 [] [] [(23, .v (.int .i64 ((at' x0.2 x8).length : Int)))] _ rfl ⟨⟨rfl, trivial⟩, rfl⟩ ?_))))))
        obtain ⟨y11, hy12, h⟩ := bindO_some h
        refine JO.call rfl rfl rfl rfl (ok_i_in ((at' x0.2 x8).length : Int) 1 1000 _ hy12) rfl [] rfl rfl fun _ _ => JO.reg ttOk 1 [] [] [(25, .v (.bool (!y11)))] _ rfl ⟨⟨rfl, trivial⟩, rfl⟩ (JO.done rfl ?_)
        refine JS.cond rfl (fun ht27 => ?_) (fun ht27 => ?_)
        · have h := condT h ht27
          refine JS.rg0 ttOk 1 [(2, .v (.bool false))] ⟨⟨rfl, trivial⟩, rfl⟩ rfl rfl ?_
          cases h
          exact JS.ret ttOk () trivial rfl rfl [] rfl
        have h := condF h ht27
        refine JS.skip (JS.endB (JS.re ttOk 2 [(W (x8 + 1))] [] [(18, .v (.int .i64 (W (x8 + 1))))] _ ⟨⟨trivial, rfl⟩, ⟨rfl, trivial⟩, rfl⟩ rfl rfl (JS.endL (n16, (W (x8 + 1))) h (Nat.lt_succ_self _) (Es rfl) trivial [0] rfl [] rfl)))
      have h := condF h ht28
      refine JS.exit rfl (JS.endJ () h trivial trivial [] rfl [] rfl)
    rintro _ h
    subst hj29
    refine JS.rg0 ttOk 1 [(2, .v (.bool true))] ⟨⟨rfl, trivial⟩, rfl⟩ rfl rfl ?_
    cases h
    exact JS.ret ttOk () trivial rfl rfl [] rfl

def M_i_isLower (x0 : Int) : Option Bool :=
  (bindO (M_i_in x0 97 122) fun (y2 : Bool) =>
  some y2)

theorem ok_i_isLower (x0 : Int) (r : Bool) (h : M_i_isLower x0 = some r) :
    FC Tryz.prog 178 [.int .i64 x0] [] (fun _ : Unit => True) (fun _ => .bool r) (fun _ => []) :=
  by
    refine FC.of (T := TTx) Tryz.call178 Tryz.func178 rfl rfl fun w0 => ?_
    unfold M_i_isLower at h
    refine JS.rg0 ttOk 1 [] ⟨trivial, rfl⟩ rfl rfl (JS.seq (JS.region (JO.reg ttOk 1 [] [] [(3, .v (.int .i64 x0))] _ rfl ⟨⟨rfl, trivial⟩, rfl⟩ ?_)))
    obtain ⟨y2, hy3, h⟩ := bindO_some h
    refine JO.call rfl rfl rfl rfl (ok_i_in x0 97 122 _ hy3) rfl [] rfl rfl fun _ _ => JO.reg ttOk 1 [] [] [(2, .v (.bool y2))] _ rfl ⟨⟨rfl, trivial⟩, rfl⟩ (JO.done rfl ?_)
    cases h
    exact JS.ret ttOk () trivial rfl rfl [] rfl

def M_i_KeyOk (x0 : Int × Int) : Option Bool :=
  (bif (decide (x0.1 = 1)) then
  (bindO (M_i_Printable x0.2) fun (y2 : Bool) =>
  some y2)
  else
  (bif (decide (x0.1 = 2)) then
  (callO ((decide (x0.2 = 95)) = false) (M_i_isLower x0.2) false fun (y4 : Bool) =>
  some (bif (decide (x0.2 = 95)) then true else (bif (bif (bif (bif y4 then (!(decide (x0.2 = 104))) else false) then (!(decide (x0.2 = 105))) else false) then (!(decide (x0.2 = 106))) else false) then (!(decide (x0.2 = 109))) else false)))
  else
  (bif (decide (x0.1 = 3)) then
  (bindO (M_i_in x0.2 33 126) fun (y7 : Bool) =>
  some y7)
  else
  (bindO (M_i_in x0.1 4 16) fun (y9 : Bool) =>
  some (bif y9 then (decide (x0.2 = 0)) else false)))))

theorem ok_i_KeyOk (x0 : Int × Int) (r : Bool) (h : M_i_KeyOk x0 = some r) :
    FC Tryz.prog 97 [.agg #[.int .i64 x0.1, .int .i64 x0.2]] [] (fun _ : Unit => True) (fun _ => .bool r) (fun _ => []) :=
  by
    refine FC.of (T := TTx) Tryz.call97 Tryz.func97 rfl rfl fun w0 => ?_
    unfold M_i_KeyOk at h
    refine JS.rgB ttOk 2 [] [1] [(1, .bp 1 0)] (.new 1 64 [.int .i64 x0.1, .int .i64 x0.2] .nil) ⟨⟨rfl, trivial⟩, (Bs rfl rfl)⟩ rfl rfl (JS.seq (JS.rg0 ttOk 2 [(4, .v (.int .i64 x0.1))] ⟨⟨rfl, trivial⟩, rfl⟩ rfl rfl (JS.block (JS.rg0 ttOk 2 [(5, .v (.bool (decide (x0.1 = 1))))] ⟨⟨rfl, trivial⟩, rfl⟩ rfl rfl ?_))))
    refine JS.cond rfl (fun ht17 => ?_) (fun ht17 => ?_)
    · have h := condT h ht17
      refine JS.seq (JS.region (JO.reg ttOk 2 [] [] [(8, .v (.int .i64 x0.2))] _ rfl ⟨⟨rfl, trivial⟩, rfl⟩ ?_))
      obtain ⟨y2, hy3, h⟩ := bindO_some h
      refine JO.call rfl rfl rfl rfl (ok_i_Printable x0.2 _ hy3) rfl [] rfl rfl fun _ _ => JO.reg ttOk 1 [] [] [(2, .v (.bool y2))] _ rfl ⟨⟨rfl, trivial⟩, rfl⟩ (JO.done rfl ?_)
      cases h
      exact JS.ret ttOk () trivial rfl rfl [] rfl
    have h := condF h ht17
    refine JS.rg0 ttOk 2 [(10, .v (.bool (decide (x0.1 = 2))))] ⟨⟨rfl, trivial⟩, rfl⟩ rfl rfl ?_
    refine JS.cond rfl (fun ht16 => ?_) (fun ht16 => ?_)
    · have h := condT h ht16
      refine JS.seq (JS.region (JO.reg ttOk 6 [] [] [(15, .v (.bool (decide (x0.2 = 95)))), (17, .cd [(15, false)] (.v (.int .i64 x0.2)))] _ rfl ⟨(Es rfl), rfl⟩ ?_))
      obtain ⟨y4, hy5, -, h⟩ := callO_some h
      refine JO.callg rfl rfl rfl rfl (fun q14 => ok_i_isLower x0.2 _ (hy5 q14)) rfl [] rfl rfl (JO.reg ttOk 22 [] [] [(2, .v (.bool (bif (decide (x0.2 = 95)) then true else (bif (bif (bif (bif y4 then (!(decide (x0.2 = 104))) else false) then (!(decide (x0.2 = 105))) else false) then (!(decide (x0.2 = 106))) else false) then (!(decide (x0.2 = 109))) else false))))] _ rfl ⟨⟨rfl, trivial⟩, rfl⟩ (JO.done rfl ?_))
      cases h
      exact JS.ret ttOk () trivial rfl rfl [] rfl
    have h := condF h ht16
    refine JS.rg0 ttOk 2 [(40, .v (.bool (decide (x0.1 = 3))))] ⟨⟨rfl, trivial⟩, rfl⟩ rfl rfl ?_
    refine JS.cond rfl (fun ht15 => ?_) (fun ht15 => ?_)
    · have h := condT h ht15
      refine JS.seq (JS.region (JO.reg ttOk 2 [] [] [(43, .v (.int .i64 x0.2))] _ rfl ⟨⟨rfl, trivial⟩, rfl⟩ ?_))
      obtain ⟨y7, hy8, h⟩ := bindO_some h
      refine JO.call rfl rfl rfl rfl (ok_i_in x0.2 33 126 _ hy8) rfl [] rfl rfl fun _ _ => JO.reg ttOk 1 [] [] [(2, .v (.bool y7))] _ rfl ⟨⟨rfl, trivial⟩, rfl⟩ (JO.done rfl ?_)
      cases h
      exact JS.ret ttOk () trivial rfl rfl [] rfl
    have h := condF h ht15
    refine JS.skip (JS.endB (JS.seq (JS.region (JO.reg ttOk 2 [] [] [(46, .v (.int .i64 x0.1))] _ rfl ⟨⟨rfl, trivial⟩, rfl⟩ ?_))))
    obtain ⟨y9, hy10, h⟩ := bindO_some h
    refine JO.call rfl rfl rfl rfl (ok_i_in x0.1 4 16 _ hy10) rfl [] rfl rfl fun _ _ => JO.reg ttOk 6 [] [] [(2, .v (.bool (bif y9 then (decide (x0.2 = 0)) else false)))] _ rfl ⟨⟨rfl, trivial⟩, rfl⟩ (JO.done rfl ?_)
    cases h
    exact JS.ret ttOk () trivial rfl rfl [] rfl

def M_i_canKey (x0 : Bool × Int × (List Int × Int) × Int × Int × Int × Int × Int × Int × Int × List (List Int) × (List (List Int × Int)) × Int × (List Int × Int) × List Int × Int × List Int × Int) (x1 : Int × List (List UInt8)) (x2 : Int × Int) : Option Bool :=
  (bindO (M_i_EdOk x0) fun (y32 : Bool) =>
  (callO (y32 = true) (M_i_HistOk x1) false fun (y34 : Bool) =>
  (callO ((bif y32 then y34 else false) = true) (M_i_KeyOk x2) false fun (y37 : Bool) =>
  some (bif (bif y32 then y34 else false) then y37 else false))))

theorem ok_i_canKey (x0 : Bool × Int × (List Int × Int) × Int × Int × Int × Int × Int × Int × Int × List (List Int) × (List (List Int × Int)) × Int × (List Int × Int) × List Int × Int × List Int × Int) (x1 : Int × List (List UInt8)) (x2 : Int × Int) (a4 : Option Addr) (c5 : Nat) (l6 : Nat) (hl7 : x0.2.2.1.1.length = l6) (a8 : Option Addr) (c9 : Nat) (l10 : Nat) (hl11 : x0.2.2.2.2.2.2.2.2.2.2.1.length = l10) (a12 : Option Addr) (c13 : Nat) (l14 : Nat) (hl15 : x0.2.2.2.2.2.2.2.2.2.2.2.1.length = l14) (a16 : Option Addr) (c17 : Nat) (l18 : Nat) (hl19 : x0.2.2.2.2.2.2.2.2.2.2.2.2.2.1.1.length = l18) (a20 : Option Addr) (c21 : Nat) (l22 : Nat) (hl23 : x0.2.2.2.2.2.2.2.2.2.2.2.2.2.2.1.length = l22) (a24 : Option Addr) (c25 : Nat) (l26 : Nat) (hl27 : x0.2.2.2.2.2.2.2.2.2.2.2.2.2.2.2.2.1.length = l26) (a28 : Option Addr) (c29 : Nat) (l30 : Nat) (hl31 : x1.2.length = l30) (r : Bool) (h : M_i_canKey x0 x1 x2 = some r) :
    FC Tryz.prog 84 [.agg #[.bool x0.1, .int .i64 x0.2.1, .slice a4 l6 c5, .int .i64 x0.2.2.1.2, .int .i64 x0.2.2.2.1, .int .i64 x0.2.2.2.2.1, .int .i64 x0.2.2.2.2.2.1, .int .i64 x0.2.2.2.2.2.2.1, .int .i64 x0.2.2.2.2.2.2.2.1, .int .i64 x0.2.2.2.2.2.2.2.2.1, .int .i64 x0.2.2.2.2.2.2.2.2.2.1, .slice a8 l10 c9, .slice a12 l14 c13, .int .i64 x0.2.2.2.2.2.2.2.2.2.2.2.2.1, .slice a16 l18 c17, .int .i64 x0.2.2.2.2.2.2.2.2.2.2.2.2.2.1.2, .slice a20 l22 c21, .int .i64 x0.2.2.2.2.2.2.2.2.2.2.2.2.2.2.2.1, .slice a24 l26 c25, .int .i64 x0.2.2.2.2.2.2.2.2.2.2.2.2.2.2.2.2.2], .agg #[.int .i64 x1.1, .slice a28 l30 c29], .agg #[.int .i64 x2.1, .int .i64 x2.2]] [⟨(.int .i64), ⟨a4, l6, c5⟩, x0.2.2.1.1⟩, ⟨(.sl (.int .i64)), ⟨a8, l10, c9⟩, x0.2.2.2.2.2.2.2.2.2.2.1⟩, ⟨(.pair (.sl (.int .i64)) (.int .i64)), ⟨a12, l14, c13⟩, x0.2.2.2.2.2.2.2.2.2.2.2.1⟩, ⟨(.int .i64), ⟨a16, l18, c17⟩, x0.2.2.2.2.2.2.2.2.2.2.2.2.2.1.1⟩, ⟨(.int .i64), ⟨a20, l22, c21⟩, x0.2.2.2.2.2.2.2.2.2.2.2.2.2.2.1⟩, ⟨(.int .i64), ⟨a24, l26, c25⟩, x0.2.2.2.2.2.2.2.2.2.2.2.2.2.2.2.2.1⟩, ⟨.str, ⟨a28, l30, c29⟩, x1.2⟩] (fun _ : Unit => True) (fun _ => .bool r) (fun _ => []) :=
  by
    subst hl7
    subst hl11
    subst hl15
    subst hl19
    subst hl23
    subst hl27
    subst hl31
    refine FC.of (T := TTx) Tryz.call84 Tryz.func84 rfl rfl fun w0 => ?_
    unfold M_i_canKey at h
    refine JS.rgB ttOk 4 [] [8, 9, 10] [(3, .bp 8 0), (4, .bp 9 0), (5, .bp 10 0)] (.new 8 46 (cl46 x0 a4 c5 a8 c9 a12 c13 a16 c17 a20 c21 a24 c25) (.new 9 50 [.int .i64 x1.1, .slice a28 x1.2.length c29] (.new 10 64 [.int .i64 x2.1, .int .i64 x2.2] .nil))) ⟨(Es rfl), (Bs rfl rfl)⟩ rfl rfl (JS.seq (JS.region (JO.reg ttOk 1 [] [] [(7, .v (.agg (cl46 x0 a4 c5 a8 c9 a12 c13 a16 c17 a20 c21 a24 c25).toArray))] _ rfl ⟨⟨rfl, trivial⟩, rfl⟩ ?_)))
    obtain ⟨y32, hy33, h⟩ := bindO_some h
    refine JO.call rfl rfl rfl rfl (ok_i_EdOk x0 a4 c5 x0.2.2.1.1.length rfl a8 c9 x0.2.2.2.2.2.2.2.2.2.2.1.length rfl a12 c13 x0.2.2.2.2.2.2.2.2.2.2.2.1.length rfl a16 c17 x0.2.2.2.2.2.2.2.2.2.2.2.2.2.1.1.length rfl a20 c21 x0.2.2.2.2.2.2.2.2.2.2.2.2.2.2.1.length rfl a24 c25 x0.2.2.2.2.2.2.2.2.2.2.2.2.2.2.2.2.1.length rfl _ hy33) rfl [0, 1, 2, 3, 4, 5] rfl rfl fun _ _ => JO.reg ttOk 2 [] [] [(9, .v (.bool y32)), (10, .cd [(9, true)] (.v (.agg #[.int .i64 x1.1, .slice a28 x1.2.length c29])))] _ rfl ⟨(Es rfl), rfl⟩ ?_
    obtain ⟨y34, hy35, -, h⟩ := callO_some h
    refine JO.callg rfl rfl rfl rfl (fun q40 => ok_i_HistOk x1 a28 c29 x1.2.length rfl _ (hy35 q40)) rfl [6] rfl rfl (JO.reg ttOk 3 [] [] [(13, .v (.bool (bif y32 then y34 else false))), (14, .cd [(13, true)] (.v (.agg #[.int .i64 x2.1, .int .i64 x2.2])))] _ rfl ⟨(Es rfl), rfl⟩ ?_)
    obtain ⟨y37, hy38, -, h⟩ := callO_some h
    refine JO.callg rfl rfl rfl rfl (fun q41 => ok_i_KeyOk x2 _ (hy38 q41)) rfl [] rfl rfl (JO.reg ttOk 2 [] [] [(6, .v (.bool (bif (bif y32 then y34 else false) then y37 else false)))] _ rfl ⟨⟨rfl, trivial⟩, rfl⟩ (JO.done rfl ?_))
    cases h
    exact JS.ret ttOk () trivial rfl rfl [] rfl

def M_i_copyInts (x0 : List Int) : Option (List Int) :=
  (guardO (([] : List Int).length + x0.length ≤ 536870912) <|
  some (([] : List Int) ++ x0))

theorem ok_i_copyInts (x0 : List Int) (a2 : Option Addr) (c3 : Nat) (l4 : Nat) (hl5 : x0.length = l4) (r : List Int) (h : M_i_copyInts x0 = some r) :
    FC Tryz.prog 65 [.slice a2 l4 c3] [⟨(.int .i64), ⟨a2, l4, c3⟩, x0⟩] (fun _ : Option Addr × Nat => True) (fun q => .slice q.1 r.length q.2) (fun q => [⟨(.int .i64), ⟨q.1, r.length, q.2⟩, r⟩]) :=
  by
    subst hl5
    refine FC.of (T := TTx) Tryz.call65 Tryz.func65 rfl rfl fun w0 => ?_
    unfold M_i_copyInts at h
    refine JS.rg0 ttOk 1 [] ⟨trivial, rfl⟩ rfl rfl (JS.seq (JS.region (JO.reg ttOk 1 [] [] [(3, .v (.slice a2 x0.length c3))] _ rfl ⟨⟨rfl, trivial⟩, rfl⟩ ?_)))
    obtain ⟨g6, h⟩ := guardO_some h
    refine JO.nilO (.int .i64) Sl.nil rfl rfl (JO.appendR' ttOk rfl rfl rfl rfl ⟨rfl, rfl, rfl, rfl, trivial, rfl, rfl, rfl, rfl⟩ rfl rfl rfl [0] rfl 0 rfl g6 rfl fun a7 c8 => JO.reg ttOk 1 [] [] [(2, .v (.slice a7 (([] : List Int) ++ x0).length c8))] _ rfl ⟨⟨rfl, trivial⟩, rfl⟩ (JO.done rfl ?_))
    cases h
    exact JS.ret ttOk (a7, c8) trivial rfl rfl [0] rfl

def M_i_copyLine (x0 : List Int × Int) : Option (List Int × Int) :=
  (bindO (M_i_copyInts x0.1) fun (y6 : List Int) =>
  some (y6, x0.2))

theorem ok_i_copyLine (x0 : List Int × Int) (a2 : Option Addr) (c3 : Nat) (l4 : Nat) (hl5 : x0.1.length = l4) (r : List Int × Int) (h : M_i_copyLine x0 = some r) :
    FC Tryz.prog 64 [.agg #[.slice a2 l4 c3, .int .i64 x0.2]] [⟨(.int .i64), ⟨a2, l4, c3⟩, x0.1⟩] (fun _ : Option Addr × Nat => True) (fun q => .agg #[.slice q.1 r.1.length q.2, .int .i64 r.2]) (fun q => [⟨(.int .i64), ⟨q.1, r.1.length, q.2⟩, r.1⟩]) :=
  by
    subst hl5
    refine FC.of (T := TTx) Tryz.call64 Tryz.func64 rfl rfl fun w0 => ?_
    unfold M_i_copyLine at h
    refine JS.rgB ttOk 2 [] [2, 3] [(1, .bp 2 0), (2, .bp 3 0)] (.new 2 38 [.slice a2 x0.1.length c3, .int .i64 x0.2] (.new 3 38 [.slice none 0 0, .int .i64 0] .nil)) ⟨(Es rfl), (Bs rfl rfl)⟩ rfl rfl (JS.seq ?_)
    obtain ⟨y6, hy7, h⟩ := bindO_some h
    refine JS.regionA rfl (.new 2 38 [.slice a2 x0.1.length c3, .int .i64 x0.2] .nil) [] [5, 6] ⟨rfl, rfl, rfl, rfl, trivial⟩ rfl (fun be10 => ?_)
    refine JA.reg ttOk panic_cx true 3 [0, 1, 3, 4] rfl (by kernel_rfl) [] [(4, .v (.slice a2 x0.1.length c3)), (7, .v (.int .i64 x0.2))] ⟨rfl, rfl, rfl, rfl, trivial⟩ [] rfl rfl (Es rfl) (JA.one 2 (by kernel_rfl) (JK.call rfl rfl rfl rfl (ok_i_copyInts x0.1 a2 c3 x0.1.length rfl _ hy7) rfl [0] rfl rfl ?_))
    rintro ⟨a8, c9⟩ -
    refine JA.next ⟨rfl, rfl, rfl, rfl, trivial⟩ [] rfl (JA.regL ttOk panic_cx 1 [5] rfl (by kernel_rfl) [] [(8, .v (.agg #[.slice a8 y6.length c9, .int .i64 x0.2]))] rfl ⟨rfl, trivial⟩ (JA.one 6 (by kernel_rfl) (JK.stBox ttOk rfl rfl rfl rfl rfl rfl rfl rfl (JA.nextL rfl (JA.done (by kernel_rfl) (JS.boxes (B' := (.new 3 38 [.slice a8 y6.length c9, .int .i64 x0.2] .nil)) (Bs rfl rfl) ?_))))))
    cases h
    exact JS.ret ttOk (a8, c9) trivial rfl rfl [0] rfl

def M_i_copyRing_L1 (x0 : List (List Int)) (j39 : (List (List Int)) → Option (List (List Int))) (k32 : (Int × List (List Int)) → Option (List (List Int))) : (Int × List (List Int)) → Option (List (List Int)) := fun (x6, x10) =>
  (bif (decide (x6 < (x0.length : Int))) then
  (guardO (0 ≤ x6 ∧ x6 < (x0.length : Int)) <|
  (bindO (M_i_copyInts (at' x0 x6)) fun (y20 : List Int) =>
  (guardO (x10.length + ([y20] : List (List Int)).length ≤ 536870912) <|
  k32 ((W (x6 + 1)), (x10 ++ ([y20] : List (List Int)))))))
  else
  j39 x10)

def M_i_copyRing (x0 : List (List Int)) : Option (List (List Int)) :=
  (joinO (fun (x36 : List (List Int)) =>
  some x36) fun j39 =>
  (fixF (M_i_copyRing_L1 x0 j39) FUEL (0, ([] : List (List Int)))))

theorem ok_i_copyRing (x0 : List (List Int)) (a2 : Option Addr) (c3 : Nat) (l4 : Nat) (hl5 : x0.length = l4) (r : List (List Int)) (h : M_i_copyRing x0 = some r) :
    FC Tryz.prog 145 [.agg #[.slice a2 l4 c3]] [⟨(.sl (.int .i64)), ⟨a2, l4, c3⟩, x0⟩] (fun _ : Option Addr × Nat => True) (fun q => .agg #[.slice q.1 r.length q.2]) (fun q => [⟨(.sl (.int .i64)), ⟨q.1, r.length, q.2⟩, r⟩]) :=
  by
    subst hl5
    refine FC.of (T := TTx) Tryz.call145 Tryz.func145 rfl rfl fun w0 => ?_
    unfold M_i_copyRing at h
    refine JS.rgB ttOk 2 [] [2, 3] [(1, .bp 2 0), (2, .bp 3 0)] (.new 2 41 [.slice a2 x0.length c3] (.new 3 41 [.slice none 0 0] .nil)) ⟨(Es rfl), (Bs rfl rfl)⟩ rfl rfl (JS.rgB ttOk 1 [] [4] [(3, .bp 4 0)] (.new 2 41 [.slice a2 x0.length c3] (.new 3 41 [.slice none 0 0] (.new 4 41 [.slice none 0 0] .nil))) ⟨⟨rfl, trivial⟩, (Bs rfl rfl)⟩ rfl rfl (JS.seq (JS.rg0 ttOk 4 [(7, .v (.slice a2 x0.length c3)), (8, .v (.int .i64 (x0.length : Int))), (9, .v (.int .i64 0))] ⟨(Es rfl), rfl⟩ rfl rfl ?_)))
    obtain ⟨j39, hj45, h⟩ := joinO_some h
    refine JS.blockJ (ι := List (List Int) × Option Addr × Nat) ⟨fun z => j39 z.1 = some r, fun z => [(2, .bp 3 0), (3, .bp 4 0)], fun z => (.new 3 41 [.slice none 0 0] (.new 4 41 [.slice z.2.1 z.1.length z.2.2] .nil)), fun z => [], fun z => [⟨(.sl (.int .i64)), ⟨z.2.1, z.1.length, z.2.2⟩, z.1⟩], fun z => 0⟩ ?_ ?_
    · refine JS.nilO (.sl (.int .i64)) Sl.nil rfl rfl (JS.loop (ι := Nat × Int × List (List Int) × Option Addr × Nat) ⟨fun z => fixF (M_i_copyRing_L1 x0 j39) z.1 (z.2.1, z.2.2.1) = some r, fun z => [(2, .bp 3 0), (3, .bp 4 0), (7, .v (.slice a2 x0.length c3)), (8, .v (.int .i64 (x0.length : Int))), (9, .v (.int .i64 z.2.1))], fun z => (.new 3 41 [.slice none 0 0] (.new 4 41 [.slice z.2.2.2.1 z.2.2.1.length z.2.2.2.2] .nil)), fun z => [⟨(.sl (.int .i64)), ⟨a2, x0.length, c3⟩, x0⟩], fun z => [⟨(.sl (.int .i64)), ⟨z.2.2.2.1, z.2.2.1.length, z.2.2.2.2⟩, z.2.2.1⟩], fun z => z.1⟩ (FUEL, 0, ([] : List (List Int)), none, 0) h (Es rfl) (Bs rfl rfl) [0] rfl [0] rfl ?_)
      rintro ⟨n33, x6, x10, a11, c12⟩ h
      obtain ⟨n33, rfl, h⟩ := fixF_some h
      rw [M_i_copyRing_L1] at h
      refine JS.rg0 ttOk 1 [(10, .v (.bool (decide (x6 < (x0.length : Int)))))] ⟨⟨rfl, trivial⟩, rfl⟩ rfl rfl (JS.seq ?_)
      refine JS.cond rfl (fun ht44 => ?_) (fun ht44 => ?_)
      · have h := condT h ht44
        refine JS.skip (JS.seq (JS.block (JS.seq (JS.region (JO.know 0 rfl fun hs43 => ?_)))))
        obtain ⟨g14, h⟩ := guardO_some h
        refine JO.reg ttOk 1 [] [] [(11, .ep ⟨a2, x0.length, c3⟩ (Int.toNat x6 * 1))] _ rfl ⟨hs43.ix g14, ⟨rfl, trivial⟩, rfl⟩ (JO.openR 0 rfl (Int.toNat x6) (at' x0 x6) rfl fun a15 c16 ys17 hl18 hy19 => JO.loadV ttOk rfl rfl rfl rfl rfl rfl 0 rfl rfl (Int.toNat x6) 0 (Sl.v ⟨a15, (at' x0 x6).length, c16⟩) ⟨hy19 (ltNat g14), rfl⟩ rfl rfl rfl (JO.regB ttOk 2 [] [22] [(5, .bp 22 0)] (.new 3 41 [.slice none 0 0] (.new 4 41 [.slice a11 x10.length c12] (.new 22 174 [.slice a15 (at' x0 x6).length c16] .nil))) rfl ⟨⟨rfl, trivial⟩, (Bs rfl rfl)⟩ (JO.done rfl ?_)))
        obtain ⟨y20, hy21, h⟩ := bindO_some h
        obtain ⟨g25, h⟩ := guardO_some h
        refine JS.regionA rfl (.new 4 41 [.slice a11 x10.length c12] (.new 22 174 [.slice a15 (at' x0 x6).length c16] .nil)) [] [7, 8, 9] ⟨rfl, rfl, rfl, rfl, rfl, rfl, rfl, rfl, trivial⟩ rfl (fun be28 => ?_)
        refine JA.reg ttOk panic_cx true 6 [0, 1, 2, 3] rfl (by kernel_rfl) [] [(14, .v (.slice a11 x10.length c12)), (16, .v (.slice a15 (at' x0 x6).length c16))] ⟨rfl, rfl, rfl, rfl, rfl, rfl, rfl, rfl, trivial⟩ [] rfl rfl (Es rfl) (JA.one 4 (by kernel_rfl) (JK.call rfl rfl rfl rfl (ok_i_copyInts (at' x0 x6) a15 c16 ((at' x0 x6).length) rfl _ hy21) rfl [1] rfl rfl ?_))
        rintro ⟨a22, c23⟩ -
        refine JA.next ⟨rfl, rfl, rfl, rfl, rfl, rfl, rfl, rfl, trivial⟩ [] rfl (JA.reg ttOk panic_cx true 4 [5] rfl (by kernel_rfl) [] [(18, .v (.agg #[.slice a22 y20.length c23]))] ⟨rfl, rfl, rfl, rfl, rfl, rfl, rfl, rfl, trivial⟩ [] rfl rfl ⟨rfl, trivial⟩ (JA.one 6 (by kernel_rfl) (JK.buildSlice ttOk rfl rfl rfl rfl rfl rfl rfl rfl rfl rfl rfl [0] rfl (.sl (.int .i64)) [y20] ⟨rfl, rfl, rfl⟩ rfl rfl fun a24 => JA.next ⟨rfl, rfl, rfl, rfl, rfl, rfl, rfl, rfl, trivial⟩ [] rfl (JA.one 7 (by kernel_rfl) (JK.appendO' ttOk rfl rfl rfl rfl ⟨rfl, rfl, rfl, rfl, trivial, rfl, rfl, rfl, rfl⟩ rfl rfl [1, 0] rfl g25 rfl fun a26 c27 => JA.nextL rfl (JA.regL ttOk panic_cx 1 [8] rfl (by kernel_rfl) [] [(21, .bp 4 0)] rfl ⟨rfl, trivial⟩ (JA.one 9 (by kernel_rfl) (JK.stBox ttOk rfl rfl rfl rfl rfl rfl rfl rfl (JA.nextL rfl (JA.done (by kernel_rfl) (JS.boxes (B' := (.new 3 41 [.slice none 0 0] (.new 4 41 [.slice a26 (x10 ++ ([y20] : List (List Int))).length c27] .nil))) (Bs rfl rfl) (JS.endB (JS.re ttOk 2 [(W (x6 + 1))] [] [(9, .v (.int .i64 (W (x6 + 1))))] _ ⟨⟨trivial, rfl⟩, ⟨rfl, trivial⟩, rfl⟩ rfl rfl (JS.endL (n33, (W (x6 + 1)), (x10 ++ ([y20] : List (List Int))), a26, c27) h (Nat.lt_succ_self _) (Es rfl) (Bs rfl rfl) [2] rfl [0] rfl))))))))))))))
      have h := condF h ht44
      refine JS.exit rfl (JS.endJ (x10, a11, c12) h (Es rfl) (Bs rfl rfl) [] rfl [0] rfl)
    rintro ⟨x36, a37, c38⟩ h
    subst hj45
    refine JS.rgB ttOk 2 [] [] [] (.new 3 41 [.slice a37 x36.length c38] .nil) ⟨trivial, (Bs rfl rfl)⟩ rfl rfl ?_
    cases h
    exact JS.ret ttOk (a37, c38) trivial rfl rfl [0] rfl

def M_i_copyUndo_L1 (x0 : List (List Int × Int)) (j39 : (List (List Int × Int)) → Option (List (List Int × Int))) (k32 : (Int × (List (List Int × Int))) → Option (List (List Int × Int))) : (Int × (List (List Int × Int))) → Option (List (List Int × Int)) := fun (x6, x10) =>
  (bif (decide (x6 < (x0.length : Int))) then
  (guardO (0 ≤ x6 ∧ x6 < (x0.length : Int)) <|
  (bindO (M_i_copyLine ((at' x0 x6).1, (at' x0 x6).2)) fun (y20 : List Int × Int) =>
  (guardO (x10.length + ([y20] : List (List Int × Int)).length ≤ 536870912) <|
  k32 ((W (x6 + 1)), (x10 ++ ([y20] : List (List Int × Int)))))))
  else
  j39 x10)

def M_i_copyUndo (x0 : List (List Int × Int)) : Option (List (List Int × Int)) :=
  (joinO (fun (x36 : List (List Int × Int)) =>
  some x36) fun j39 =>
  (fixF (M_i_copyUndo_L1 x0 j39) FUEL (0, ([] : List (List Int × Int)))))

theorem ok_i_copyUndo (x0 : List (List Int × Int)) (a2 : Option Addr) (c3 : Nat) (l4 : Nat) (hl5 : x0.length = l4) (r : List (List Int × Int)) (h : M_i_copyUndo x0 = some r) :
    FC Tryz.prog 146 [.agg #[.slice a2 l4 c3]] [⟨(.pair (.sl (.int .i64)) (.int .i64)), ⟨a2, l4, c3⟩, x0⟩] (fun _ : Option Addr × Nat => True) (fun q => .agg #[.slice q.1 r.length q.2]) (fun q => [⟨(.pair (.sl (.int .i64)) (.int .i64)), ⟨q.1, r.length, q.2⟩, r⟩]) :=
  by
    subst hl5
    refine FC.of (T := TTx) Tryz.call146 Tryz.func146 rfl rfl fun w0 => ?_
    unfold M_i_copyUndo at h
    refine JS.rgB ttOk 2 [] [2, 3] [(1, .bp 2 0), (2, .bp 3 0)] (.new 2 44 [.slice a2 x0.length c3] (.new 3 44 [.slice none 0 0] .nil)) ⟨(Es rfl), (Bs rfl rfl)⟩ rfl rfl (JS.rgB ttOk 1 [] [4] [(3, .bp 4 0)] (.new 2 44 [.slice a2 x0.length c3] (.new 3 44 [.slice none 0 0] (.new 4 44 [.slice none 0 0] .nil))) ⟨⟨rfl, trivial⟩, (Bs rfl rfl)⟩ rfl rfl (JS.seq (JS.rg0 ttOk 4 [(7, .v (.slice a2 x0.length c3)), (8, .v (.int .i64 (x0.length : Int))), (9, .v (.int .i64 0))] ⟨(Es rfl), rfl⟩ rfl rfl ?_)))
    obtain ⟨j39, hj45, h⟩ := joinO_some h
    refine JS.blockJ (ι := (List (List Int × Int)) × Option Addr × Nat) ⟨fun z => j39 z.1 = some r, fun z => [(2, .bp 3 0), (3, .bp 4 0)], fun z => (.new 3 44 [.slice none 0 0] (.new 4 44 [.slice z.2.1 z.1.length z.2.2] .nil)), fun z => [], fun z => [⟨(.pair (.sl (.int .i64)) (.int .i64)), ⟨z.2.1, z.1.length, z.2.2⟩, z.1⟩], fun z => 0⟩ ?_ ?_
    · refine JS.nilO (.pair (.sl (.int .i64)) (.int .i64)) Sl.nil rfl rfl (JS.loop (ι := Nat × Int × (List (List Int × Int)) × Option Addr × Nat) ⟨fun z => fixF (M_i_copyUndo_L1 x0 j39) z.1 (z.2.1, z.2.2.1) = some r, fun z => [(2, .bp 3 0), (3, .bp 4 0), (7, .v (.slice a2 x0.length c3)), (8, .v (.int .i64 (x0.length : Int))), (9, .v (.int .i64 z.2.1))], fun z => (.new 3 44 [.slice none 0 0] (.new 4 44 [.slice z.2.2.2.1 z.2.2.1.length z.2.2.2.2] .nil)), fun z => [⟨(.pair (.sl (.int .i64)) (.int .i64)), ⟨a2, x0.length, c3⟩, x0⟩], fun z => [⟨(.pair (.sl (.int .i64)) (.int .i64)), ⟨z.2.2.2.1, z.2.2.1.length, z.2.2.2.2⟩, z.2.2.1⟩], fun z => z.1⟩ (FUEL, 0, ([] : List (List Int × Int)), none, 0) h (Es rfl) (Bs rfl rfl) [0] rfl [0] rfl ?_)
      rintro ⟨n33, x6, x10, a11, c12⟩ h
      obtain ⟨n33, rfl, h⟩ := fixF_some h
      rw [M_i_copyUndo_L1] at h
      refine JS.rg0 ttOk 1 [(10, .v (.bool (decide (x6 < (x0.length : Int)))))] ⟨⟨rfl, trivial⟩, rfl⟩ rfl rfl (JS.seq ?_)
      refine JS.cond rfl (fun ht44 => ?_) (fun ht44 => ?_)
      · have h := condT h ht44
        refine JS.skip (JS.seq (JS.block (JS.seq (JS.region (JO.know 0 rfl fun hs43 => ?_)))))
        obtain ⟨g14, h⟩ := guardO_some h
        refine JO.reg ttOk 1 [] [] [(11, .ep ⟨a2, x0.length, c3⟩ (Int.toNat x6 * 2))] _ rfl ⟨hs43.ix g14, ⟨rfl, trivial⟩, rfl⟩ (JO.openR 0 rfl (Int.toNat x6) (at' x0 x6) rfl fun a15 c16 ys17 hl18 hy19 => JO.loadV ttOk rfl rfl rfl rfl rfl rfl 0 rfl rfl (Int.toNat x6) 0 ((Sl.v ⟨a15, ((at' x0 x6).1).length, c16⟩), (at' x0 x6).2) ⟨hy19 (ltNat g14), rfl⟩ rfl rfl rfl (JO.regB ttOk 2 [] [22] [(5, .bp 22 0)] (.new 3 44 [.slice none 0 0] (.new 4 44 [.slice a11 x10.length c12] (.new 22 38 [.slice a15 ((at' x0 x6).1).length c16, .int .i64 (at' x0 x6).2] .nil))) rfl ⟨⟨rfl, trivial⟩, (Bs rfl rfl)⟩ (JO.done rfl ?_)))
        obtain ⟨y20, hy21, h⟩ := bindO_some h
        obtain ⟨g25, h⟩ := guardO_some h
        refine JS.regionA rfl (.new 4 44 [.slice a11 x10.length c12] (.new 22 38 [.slice a15 ((at' x0 x6).1).length c16, .int .i64 (at' x0 x6).2] .nil)) [] [5, 6, 7] ⟨rfl, rfl, rfl, rfl, rfl, rfl, rfl, rfl, trivial⟩ rfl (fun be28 => ?_)
        refine JA.reg ttOk panic_cx true 5 [0, 1, 2] rfl (by kernel_rfl) [] [(14, .v (.slice a11 x10.length c12)), (15, .v (.agg #[.slice a15 ((at' x0 x6).1).length c16, .int .i64 (at' x0 x6).2]))] ⟨rfl, rfl, rfl, rfl, rfl, rfl, rfl, rfl, trivial⟩ [] rfl rfl (Es rfl) (JA.one 3 (by kernel_rfl) (JK.call rfl rfl rfl rfl (ok_i_copyLine ((at' x0 x6).1, (at' x0 x6).2) a15 c16 (((at' x0 x6).1).length) rfl _ hy21) rfl [1] rfl rfl ?_))
        rintro ⟨a22, c23⟩ -
        refine JA.next ⟨rfl, rfl, rfl, rfl, rfl, rfl, rfl, rfl, trivial⟩ [] rfl (JA.one 4 (by kernel_rfl) (JK.buildSlice ttOk rfl rfl rfl rfl rfl rfl rfl rfl rfl rfl rfl [0] rfl (.pair (.sl (.int .i64)) (.int .i64)) [y20] ⟨rfl, rfl, rfl⟩ rfl rfl fun a24 => JA.next ⟨rfl, rfl, rfl, rfl, rfl, rfl, rfl, rfl, trivial⟩ [] rfl (JA.one 5 (by kernel_rfl) (JK.appendO' ttOk rfl rfl rfl rfl ⟨rfl, rfl, rfl, rfl, trivial, rfl, rfl, rfl, rfl⟩ rfl rfl [1, 0] rfl g25 rfl fun a26 c27 => JA.nextL rfl (JA.regL ttOk panic_cx 1 [6] rfl (by kernel_rfl) [] [(19, .bp 4 0)] rfl ⟨rfl, trivial⟩ (JA.one 7 (by kernel_rfl) (JK.stBox ttOk rfl rfl rfl rfl rfl rfl rfl rfl (JA.nextL rfl (JA.done (by kernel_rfl) (JS.boxes (B' := (.new 3 44 [.slice none 0 0] (.new 4 44 [.slice a26 (x10 ++ ([y20] : List (List Int × Int))).length c27] .nil))) (Bs rfl rfl) (JS.endB (JS.re ttOk 2 [(W (x6 + 1))] [] [(9, .v (.int .i64 (W (x6 + 1))))] _ ⟨⟨trivial, rfl⟩, ⟨rfl, trivial⟩, rfl⟩ rfl rfl (JS.endL (n33, (W (x6 + 1)), (x10 ++ ([y20] : List (List Int × Int))), a26, c27) h (Nat.lt_succ_self _) (Es rfl) (Bs rfl rfl) [2] rfl [0] rfl)))))))))))))
      have h := condF h ht44
      refine JS.exit rfl (JS.endJ (x10, a11, c12) h (Es rfl) (Bs rfl rfl) [] rfl [0] rfl)
    rintro ⟨x36, a37, c38⟩ h
    subst hj45
    refine JS.rgB ttOk 2 [] [] [] (.new 3 44 [.slice a37 x36.length c38] .nil) ⟨trivial, (Bs rfl rfl)⟩ rfl rfl ?_
    cases h
    exact JS.ret ttOk (a37, c38) trivial rfl rfl [0] rfl

def M_i_copyEd (x0 : Bool × Int × (List Int × Int) × Int × Int × Int × Int × Int × Int × Int × List (List Int) × (List (List Int × Int)) × Int × (List Int × Int) × List Int × Int × List Int × Int) : Option (Bool × Int × (List Int × Int) × Int × Int × Int × Int × Int × Int × Int × List (List Int) × (List (List Int × Int)) × Int × (List Int × Int) × List Int × Int × List Int × Int) :=
  (bindO (M_i_copyLine x0.2.2.1) fun (y26 : List Int × Int) =>
  (bindO (M_i_copyLine x0.2.2.2.2.2.2.2.2.2.2.2.2.2.1) fun (y30 : List Int × Int) =>
  (bindO (M_i_copyLine x0.2.2.2.2.2.2.2.2.2.2.2.2.2.2.2.2) fun (y34 : List Int × Int) =>
  (bindO (M_i_copyRing x0.2.2.2.2.2.2.2.2.2.2.1) fun (y39 : List (List Int)) =>
  (bindO (M_i_copyUndo x0.2.2.2.2.2.2.2.2.2.2.2.1) fun (y43 : List (List Int × Int)) =>
  (bindO (M_i_copyInts x0.2.2.2.2.2.2.2.2.2.2.2.2.2.2.1) fun (y48 : List Int) =>
  some (x0.1, x0.2.1, y26, x0.2.2.2.1, x0.2.2.2.2.1, x0.2.2.2.2.2.1, x0.2.2.2.2.2.2.1, x0.2.2.2.2.2.2.2.1, x0.2.2.2.2.2.2.2.2.1, x0.2.2.2.2.2.2.2.2.2.1, y39, y43, x0.2.2.2.2.2.2.2.2.2.2.2.2.1, y30, y48, x0.2.2.2.2.2.2.2.2.2.2.2.2.2.2.2.1, y34)))))))

theorem ok_i_copyEd (x0 : Bool × Int × (List Int × Int) × Int × Int × Int × Int × Int × Int × Int × List (List Int) × (List (List Int × Int)) × Int × (List Int × Int) × List Int × Int × List Int × Int) (a2 : Option Addr) (c3 : Nat) (l4 : Nat) (hl5 : x0.2.2.1.1.length = l4) (a6 : Option Addr) (c7 : Nat) (l8 : Nat) (hl9 : x0.2.2.2.2.2.2.2.2.2.2.1.length = l8) (a10 : Option Addr) (c11 : Nat) (l12 : Nat) (hl13 : x0.2.2.2.2.2.2.2.2.2.2.2.1.length = l12) (a14 : Option Addr) (c15 : Nat) (l16 : Nat) (hl17 : x0.2.2.2.2.2.2.2.2.2.2.2.2.2.1.1.length = l16) (a18 : Option Addr) (c19 : Nat) (l20 : Nat) (hl21 : x0.2.2.2.2.2.2.2.2.2.2.2.2.2.2.1.length = l20) (a22 : Option Addr) (c23 : Nat) (l24 : Nat) (hl25 : x0.2.2.2.2.2.2.2.2.2.2.2.2.2.2.2.2.1.length = l24) (r : Bool × Int × (List Int × Int) × Int × Int × Int × Int × Int × Int × Int × List (List Int) × (List (List Int × Int)) × Int × (List Int × Int) × List Int × Int × List Int × Int) (h : M_i_copyEd x0 = some r) :
    FC Tryz.prog 63 [.agg #[.bool x0.1, .int .i64 x0.2.1, .slice a2 l4 c3, .int .i64 x0.2.2.1.2, .int .i64 x0.2.2.2.1, .int .i64 x0.2.2.2.2.1, .int .i64 x0.2.2.2.2.2.1, .int .i64 x0.2.2.2.2.2.2.1, .int .i64 x0.2.2.2.2.2.2.2.1, .int .i64 x0.2.2.2.2.2.2.2.2.1, .int .i64 x0.2.2.2.2.2.2.2.2.2.1, .slice a6 l8 c7, .slice a10 l12 c11, .int .i64 x0.2.2.2.2.2.2.2.2.2.2.2.2.1, .slice a14 l16 c15, .int .i64 x0.2.2.2.2.2.2.2.2.2.2.2.2.2.1.2, .slice a18 l20 c19, .int .i64 x0.2.2.2.2.2.2.2.2.2.2.2.2.2.2.2.1, .slice a22 l24 c23, .int .i64 x0.2.2.2.2.2.2.2.2.2.2.2.2.2.2.2.2.2]] [⟨(.int .i64), ⟨a2, l4, c3⟩, x0.2.2.1.1⟩, ⟨(.sl (.int .i64)), ⟨a6, l8, c7⟩, x0.2.2.2.2.2.2.2.2.2.2.1⟩, ⟨(.pair (.sl (.int .i64)) (.int .i64)), ⟨a10, l12, c11⟩, x0.2.2.2.2.2.2.2.2.2.2.2.1⟩, ⟨(.int .i64), ⟨a14, l16, c15⟩, x0.2.2.2.2.2.2.2.2.2.2.2.2.2.1.1⟩, ⟨(.int .i64), ⟨a18, l20, c19⟩, x0.2.2.2.2.2.2.2.2.2.2.2.2.2.2.1⟩, ⟨(.int .i64), ⟨a22, l24, c23⟩, x0.2.2.2.2.2.2.2.2.2.2.2.2.2.2.2.2.1⟩] (fun _ : Option Addr × Nat × Option Addr × Nat × Option Addr × Nat × Option Addr × Nat × Option Addr × Nat × Option Addr × Nat => True) (fun q => .agg (cl46 r q.1 q.2.1 q.2.2.1 q.2.2.2.1 q.2.2.2.2.1 q.2.2.2.2.2.1 q.2.2.2.2.2.2.1 q.2.2.2.2.2.2.2.1 q.2.2.2.2.2.2.2.2.1 q.2.2.2.2.2.2.2.2.2.1 q.2.2.2.2.2.2.2.2.2.2.1 q.2.2.2.2.2.2.2.2.2.2.2).toArray) (fun q => [⟨(.int .i64), ⟨q.1, r.2.2.1.1.length, q.2.1⟩, r.2.2.1.1⟩, ⟨(.sl (.int .i64)), ⟨q.2.2.1, r.2.2.2.2.2.2.2.2.2.2.1.length, q.2.2.2.1⟩, r.2.2.2.2.2.2.2.2.2.2.1⟩, ⟨(.pair (.sl (.int .i64)) (.int .i64)), ⟨q.2.2.2.2.1, r.2.2.2.2.2.2.2.2.2.2.2.1.length, q.2.2.2.2.2.1⟩, r.2.2.2.2.2.2.2.2.2.2.2.1⟩, ⟨(.int .i64), ⟨q.2.2.2.2.2.2.1, r.2.2.2.2.2.2.2.2.2.2.2.2.2.1.1.length, q.2.2.2.2.2.2.2.1⟩, r.2.2.2.2.2.2.2.2.2.2.2.2.2.1.1⟩, ⟨(.int .i64), ⟨q.2.2.2.2.2.2.2.2.1, r.2.2.2.2.2.2.2.2.2.2.2.2.2.2.1.length, q.2.2.2.2.2.2.2.2.2.1⟩, r.2.2.2.2.2.2.2.2.2.2.2.2.2.2.1⟩, ⟨(.int .i64), ⟨q.2.2.2.2.2.2.2.2.2.2.1, r.2.2.2.2.2.2.2.2.2.2.2.2.2.2.2.2.1.length, q.2.2.2.2.2.2.2.2.2.2.2⟩, r.2.2.2.2.2.2.2.2.2.2.2.2.2.2.2.2.1⟩]) :=
  by
    subst hl5
    subst hl9
    subst hl13
    subst hl17
    subst hl21
    subst hl25
    refine FC.of (T := TTx) Tryz.call63 Tryz.func63 rfl rfl fun w0 => ?_
    unfold M_i_copyEd at h
    refine JS.rgB ttOk 2 [] [7, 8] [(1, .bp 7 0), (2, .bp 8 0)] (.new 7 46 (cl46 x0 a2 c3 a6 c7 a10 c11 a14 c15 a18 c19 a22 c23) (.new 8 46 (cl46 (false, 0, ([], 0), 0, 0, 0, 0, 0, 0, 0, [], [], 0, ([], 0), [], 0, ([], 0)) none 0 none 0 none 0 none 0 none 0 none 0) .nil)) ⟨(Es rfl), (Bs rfl rfl)⟩ rfl rfl (JS.seq ?_)
    obtain ⟨y26, hy27, h⟩ := bindO_some h
    obtain ⟨y30, hy31, h⟩ := bindO_some h
    obtain ⟨y34, hy35, h⟩ := bindO_some h
    refine JS.regionA rfl (.new 7 46 (cl46 x0 a2 c3 a6 c7 a10 c11 a14 c15 a18 c19 a22 c23) .nil) [] [8, 9, 10, 11, 12, 13, 14] ⟨rfl, rfl, rfl, rfl, trivial⟩ rfl (fun be38 => ?_)
    refine JA.reg ttOk panic_cx true 9 [0, 1, 3, 4, 6, 7] rfl (by kernel_rfl) [] [(4, .v (.agg #[.slice a2 x0.2.2.1.1.length c3, .int .i64 x0.2.2.1.2])), (7, .v (.agg #[.slice a14 x0.2.2.2.2.2.2.2.2.2.2.2.2.2.1.1.length c15, .int .i64 x0.2.2.2.2.2.2.2.2.2.2.2.2.2.1.2])), (10, .v (.agg #[.slice a22 x0.2.2.2.2.2.2.2.2.2.2.2.2.2.2.2.2.1.length c23, .int .i64 x0.2.2.2.2.2.2.2.2.2.2.2.2.2.2.2.2.2]))] ⟨rfl, rfl, rfl, rfl, trivial⟩ [] rfl rfl (Es rfl) (JA.one 2 (by kernel_rfl) (JK.call rfl rfl rfl rfl (ok_i_copyLine x0.2.2.1 a2 c3 x0.2.2.1.1.length rfl _ hy27) rfl [0] rfl rfl ?_))
    rintro ⟨a28, c29⟩ -
    refine JA.next ⟨rfl, rfl, rfl, rfl, trivial⟩ [] rfl (JA.regL ttOk panic_cx 7 [9] rfl (by kernel_rfl) [] [(12, .bp 7 2)] rfl ⟨rfl, trivial⟩ (JA.one 5 (by kernel_rfl) (JK.call rfl rfl rfl rfl (ok_i_copyLine x0.2.2.2.2.2.2.2.2.2.2.2.2.2.1 a14 c15 x0.2.2.2.2.2.2.2.2.2.2.2.2.2.1.1.length rfl _ hy31) rfl [3] rfl rfl ?_)))
    rintro ⟨a32, c33⟩ -
    refine JA.next ⟨rfl, rfl, rfl, rfl, trivial⟩ [] rfl (JA.one 8 (by kernel_rfl) (JK.call rfl rfl rfl rfl (ok_i_copyLine x0.2.2.2.2.2.2.2.2.2.2.2.2.2.2.2.2 a22 c23 x0.2.2.2.2.2.2.2.2.2.2.2.2.2.2.2.2.1.length rfl _ hy35) rfl [5] rfl rfl ?_))
    rintro ⟨a36, c37⟩ -
    refine JA.nextL rfl (JA.one 10 (by kernel_rfl) (JK.stBox ttOk rfl rfl rfl rfl rfl rfl rfl rfl (JA.nextL rfl (JA.regL ttOk panic_cx 3 [11] rfl (by kernel_rfl) [] [(13, .bp 7 14)] rfl ⟨rfl, trivial⟩ (JA.one 12 (by kernel_rfl) (JK.stBox ttOk rfl rfl rfl rfl rfl rfl rfl rfl (JA.nextL rfl (JA.regL ttOk panic_cx 1 [13] rfl (by kernel_rfl) [] [(14, .bp 7 18)] rfl ⟨rfl, trivial⟩ (JA.one 14 (by kernel_rfl) (JK.stBox ttOk rfl rfl rfl rfl rfl rfl rfl rfl (JA.nextL rfl (JA.done (by kernel_rfl) (JS.boxes (B' := (.new 7 46 (cl46 (x0.1, x0.2.1, y26, x0.2.2.2.1, x0.2.2.2.2.1, x0.2.2.2.2.2.1, x0.2.2.2.2.2.2.1, x0.2.2.2.2.2.2.2.1, x0.2.2.2.2.2.2.2.2.1, x0.2.2.2.2.2.2.2.2.2.1, x0.2.2.2.2.2.2.2.2.2.2.1, x0.2.2.2.2.2.2.2.2.2.2.2.1, x0.2.2.2.2.2.2.2.2.2.2.2.2.1, y30, x0.2.2.2.2.2.2.2.2.2.2.2.2.2.2.1, x0.2.2.2.2.2.2.2.2.2.2.2.2.2.2.2.1, y34) a28 c29 a6 c7 a10 c11 a32 c33 a18 c19 a36 c37) (.new 8 46 (cl46 (false, 0, ([], 0), 0, 0, 0, 0, 0, 0, 0, [], [], 0, ([], 0), [], 0, ([], 0)) none 0 none 0 none 0 none 0 none 0 none 0) .nil))) (Bs rfl rfl) (JS.seq ?_))))))))))))))
    obtain ⟨y39, hy40, h⟩ := bindO_some h
    obtain ⟨y43, hy44, h⟩ := bindO_some h
    refine JS.regionA rfl (.new 7 46 (cl46 (x0.1, x0.2.1, y26, x0.2.2.2.1, x0.2.2.2.2.1, x0.2.2.2.2.2.1, x0.2.2.2.2.2.2.1, x0.2.2.2.2.2.2.2.1, x0.2.2.2.2.2.2.2.2.1, x0.2.2.2.2.2.2.2.2.2.1, x0.2.2.2.2.2.2.2.2.2.2.1, x0.2.2.2.2.2.2.2.2.2.2.2.1, x0.2.2.2.2.2.2.2.2.2.2.2.2.1, y30, x0.2.2.2.2.2.2.2.2.2.2.2.2.2.2.1, x0.2.2.2.2.2.2.2.2.2.2.2.2.2.2.2.1, y34) a28 c29 a6 c7 a10 c11 a32 c33 a18 c19 a36 c37) .nil) [] [5, 6, 7, 8, 9] ⟨rfl, rfl, rfl, rfl, trivial⟩ rfl (fun be47 => ?_)
    refine JA.reg ttOk panic_cx true 6 [0, 1, 3, 4] rfl (by kernel_rfl) [] [(16, .v (.agg #[.slice a6 x0.2.2.2.2.2.2.2.2.2.2.1.length c7])), (19, .v (.agg #[.slice a10 x0.2.2.2.2.2.2.2.2.2.2.2.1.length c11]))] ⟨rfl, rfl, rfl, rfl, trivial⟩ [] rfl rfl (Es rfl) (JA.one 2 (by kernel_rfl) (JK.call rfl rfl rfl rfl (ok_i_copyRing x0.2.2.2.2.2.2.2.2.2.2.1 a6 c7 x0.2.2.2.2.2.2.2.2.2.2.1.length rfl _ hy40) rfl [1] rfl rfl ?_))
    rintro ⟨a41, c42⟩ -
    refine JA.next ⟨rfl, rfl, rfl, rfl, trivial⟩ [] rfl (JA.regL ttOk panic_cx 4 [6] rfl (by kernel_rfl) [] [(21, .bp 7 11)] rfl ⟨rfl, trivial⟩ (JA.one 5 (by kernel_rfl) (JK.call rfl rfl rfl rfl (ok_i_copyUndo x0.2.2.2.2.2.2.2.2.2.2.2.1 a10 c11 x0.2.2.2.2.2.2.2.2.2.2.2.1.length rfl _ hy44) rfl [2] rfl rfl ?_)))
    rintro ⟨a45, c46⟩ -
    refine JA.nextL rfl (JA.one 7 (by kernel_rfl) (JK.stBox ttOk rfl rfl rfl rfl rfl rfl rfl rfl (JA.nextL rfl (JA.regL ttOk panic_cx 1 [8] rfl (by kernel_rfl) [] [(22, .bp 7 12)] rfl ⟨rfl, trivial⟩ (JA.one 9 (by kernel_rfl) (JK.stBox ttOk rfl rfl rfl rfl rfl rfl rfl rfl (JA.nextL rfl (JA.done (by kernel_rfl) (JS.boxes (B' := (.new 7 46 (cl46 (x0.1, x0.2.1, y26, x0.2.2.2.1, x0.2.2.2.2.1, x0.2.2.2.2.2.1, x0.2.2.2.2.2.2.1, x0.2.2.2.2.2.2.2.1, x0.2.2.2.2.2.2.2.2.1, x0.2.2.2.2.2.2.2.2.2.1, y39, y43, x0.2.2.2.2.2.2.2.2.2.2.2.2.1, y30, x0.2.2.2.2.2.2.2.2.2.2.2.2.2.2.1, x0.2.2.2.2.2.2.2.2.2.2.2.2.2.2.2.1, y34) a28 c29 a41 c42 a45 c46 a32 c33 a18 c19 a36 c37) (.new 8 46 (cl46 (false, 0, ([], 0), 0, 0, 0, 0, 0, 0, 0, [], [], 0, ([], 0), [], 0, ([], 0)) none 0 none 0 none 0 none 0 none 0 none 0) .nil))) (Bs rfl rfl) (JS.seq (JS.region (JO.reg ttOk 2 [] [] [(24, .v (.slice a18 x0.2.2.2.2.2.2.2.2.2.2.2.2.2.2.1.length c19))] _ rfl ⟨⟨rfl, trivial⟩, rfl⟩ ?_))))))))))))
    obtain ⟨y48, hy49, h⟩ := bindO_some h
    refine JO.call rfl rfl rfl rfl (ok_i_copyInts x0.2.2.2.2.2.2.2.2.2.2.2.2.2.2.1 a18 c19 x0.2.2.2.2.2.2.2.2.2.2.2.2.2.2.1.length rfl _ hy49) rfl [4] rfl rfl ?_
    rintro ⟨a50, c51⟩ -
    refine JO.regB ttOk 2 [] [] [] (.new 7 46 (cl46 (x0.1, x0.2.1, y26, x0.2.2.2.1, x0.2.2.2.2.1, x0.2.2.2.2.2.1, x0.2.2.2.2.2.2.1, x0.2.2.2.2.2.2.2.1, x0.2.2.2.2.2.2.2.2.1, x0.2.2.2.2.2.2.2.2.2.1, y39, y43, x0.2.2.2.2.2.2.2.2.2.2.2.2.1, y30, y48, x0.2.2.2.2.2.2.2.2.2.2.2.2.2.2.2.1, y34) a28 c29 a41 c42 a45 c46 a32 c33 a50 c51 a36 c37) (.new 8 46 (cl46 (false, 0, ([], 0), 0, 0, 0, 0, 0, 0, 0, [], [], 0, ([], 0), [], 0, ([], 0)) none 0 none 0 none 0 none 0 none 0 none 0) .nil)) rfl ⟨trivial, (Bs rfl rfl)⟩ (JO.done rfl (JS.rgB ttOk 2 [] [] [] (.new 8 46 (cl46 (x0.1, x0.2.1, y26, x0.2.2.2.1, x0.2.2.2.2.1, x0.2.2.2.2.2.1, x0.2.2.2.2.2.2.1, x0.2.2.2.2.2.2.2.1, x0.2.2.2.2.2.2.2.2.1, x0.2.2.2.2.2.2.2.2.2.1, y39, y43, x0.2.2.2.2.2.2.2.2.2.2.2.2.1, y30, y48, x0.2.2.2.2.2.2.2.2.2.2.2.2.2.2.2.1, y34) a28 c29 a41 c42 a45 c46 a32 c33 a50 c51 a36 c37) .nil) ⟨trivial, (Bs rfl rfl)⟩ rfl rfl ?_))
    cases h
    exact JS.ret ttOk (a28, c29, a41, c42, a45, c46, a32, c33, a50, c51, a36, c37) trivial rfl rfl [5, 2, 1, 2, 0, 0] rfl

def M_i_inCommand (x0 : List Int × Int) (x1 : Int) : Option (List Int × Int) :=
  (joinO (fun (x11 : Int) =>
  some (x0.1, x11)) fun j12 =>
  (callO ((decide (x1 = 2)) = true) (M_i_isAtEnd x0) false fun (y7 : Bool) =>
  (bif (bif (decide (x1 = 2)) then y7 else false) then
  j12 (W (x0.2 - 1))
  else
  j12 x0.2)))

theorem ok_i_inCommand (x0 : List Int × Int) (x1 : Int) (a3 : Option Addr) (c4 : Nat) (l5 : Nat) (hl6 : x0.1.length = l5) (r : List Int × Int) (h : M_i_inCommand x0 x1 = some r) :
    FC Tryz.prog 158 [.agg #[.slice a3 l5 c4, .int .i64 x0.2], .int .i64 x1] [⟨(.int .i64), ⟨a3, l5, c4⟩, x0.1⟩] (fun _ : Unit => True) (fun _ => .agg #[.slice a3 l5 c4, .int .i64 r.2]) (fun _ => []) :=
  by
    subst hl6
    refine FC.of (T := TTx) Tryz.call158 Tryz.func158 rfl rfl fun w0 => ?_
    unfold M_i_inCommand at h
    refine JS.rgB ttOk 2 [] [2, 3] [(2, .bp 2 0), (4, .bp 3 0)] (.new 2 38 [.slice a3 x0.1.length c4, .int .i64 x0.2] (.new 3 38 [.slice none 0 0, .int .i64 0] .nil)) ⟨(Es rfl), (Bs rfl rfl)⟩ rfl rfl ?_
    obtain ⟨j12, hj18, h⟩ := joinO_some h
    refine JS.seqJ (ι := Int) ⟨fun z => j12 z = some r, fun z => [(2, .bp 2 0), (4, .bp 3 0)], fun z => (.new 2 38 [.slice a3 x0.1.length c4, .int .i64 z] (.new 3 38 [.slice none 0 0, .int .i64 0] .nil)), fun z => [⟨(.int .i64), ⟨a3, x0.1.length, c4⟩, x0.1⟩], fun z => [], fun z => 0⟩ ?_ ?_
    · refine JS.seq (JS.region (JO.reg ttOk 4 [] [] [(7, .v (.bool (decide (x1 = 2)))), (8, .cd [(7, true)] (.v (.agg #[.slice a3 x0.1.length c4, .int .i64 x0.2])))] _ rfl ⟨(Es rfl), rfl⟩ ?_))
      obtain ⟨y7, hy8, -, h⟩ := callO_some h
      refine JO.callg rfl rfl rfl rfl (fun q16 => ok_i_isAtEnd x0 a3 c4 x0.1.length rfl _ (hy8 q16)) rfl [0] rfl rfl (JO.reg ttOk 1 [] [] [(10, .v (.bool (bif (decide (x1 = 2)) then y7 else false)))] _ rfl ⟨⟨rfl, trivial⟩, rfl⟩ (JO.done rfl ?_))
      refine JS.cond rfl (fun ht17 => ?_) (fun ht17 => ?_)
      · have h := condT h ht17
        refine JS.reB ttOk 5 [(W (x0.2 - 1))] [] [] (.new 2 38 [.slice a3 x0.1.length c4, .int .i64 (W (x0.2 - 1))] (.new 3 38 [.slice none 0 0, .int .i64 0] .nil)) ⟨⟨trivial, rfl⟩, trivial, (Bs rfl rfl)⟩ rfl rfl (JS.endJ (W (x0.2 - 1)) h (Es rfl) (Bs rfl rfl) [0] rfl [] rfl)
      have h := condF h ht17
      refine JS.skip (JS.endJ x0.2 h (Es rfl) (Bs rfl rfl) [0] rfl [] rfl)
    rintro x11 h
    subst hj18
    refine JS.rgB ttOk 2 [] [] [] (.new 3 38 [.slice a3 x0.1.length c4, .int .i64 x11] .nil) ⟨trivial, (Bs rfl rfl)⟩ rfl rfl ?_
    cases h
    exact JS.ret ttOk () trivial rfl rfl [] rfl

def M_i_left (x0 : Bool × Int × (List Int × Int) × Int × Int × Int × Int × Int × Int × Int × List (List Int) × (List (List Int × Int)) × Int × (List Int × Int) × List Int × Int × List Int × Int) : Option (Bool × Int × (List Int × Int) × Int × Int × Int × Int × Int × Int × Int × List (List Int) × (List (List Int × Int)) × Int × (List Int × Int) × List Int × Int × List Int × Int) :=
  (bindO (M_i_copyEd x0) fun (y26 : Bool × Int × (List Int × Int) × Int × Int × Int × Int × Int × Int × Int × List (List Int) × (List (List Int × Int)) × Int × (List Int × Int) × List Int × Int × List Int × Int) =>
  (joinO (fun (x41 : Int) =>
  (bindO (M_i_inCommand y26.2.2.1 x41) fun (y44 : List Int × Int) =>
  some (y26.1, x41, (y26.2.2.1.1, y44.2), y26.2.2.2.1, y26.2.2.2.2.1, y26.2.2.2.2.2.1, y26.2.2.2.2.2.2.1, y26.2.2.2.2.2.2.2.1, y26.2.2.2.2.2.2.2.2.1, y26.2.2.2.2.2.2.2.2.2.1, y26.2.2.2.2.2.2.2.2.2.2.1, y26.2.2.2.2.2.2.2.2.2.2.2.1, y26.2.2.2.2.2.2.2.2.2.2.2.2.1, y26.2.2.2.2.2.2.2.2.2.2.2.2.2.1, [], 0, ([], 0)))) fun j42 =>
  (bif x0.1 then
  j42 2
  else
  j42 0)))

theorem ok_i_left (x0 : Bool × Int × (List Int × Int) × Int × Int × Int × Int × Int × Int × Int × List (List Int) × (List (List Int × Int)) × Int × (List Int × Int) × List Int × Int × List Int × Int) (a2 : Option Addr) (c3 : Nat) (l4 : Nat) (hl5 : x0.2.2.1.1.length = l4) (a6 : Option Addr) (c7 : Nat) (l8 : Nat) (hl9 : x0.2.2.2.2.2.2.2.2.2.2.1.length = l8) (a10 : Option Addr) (c11 : Nat) (l12 : Nat) (hl13 : x0.2.2.2.2.2.2.2.2.2.2.2.1.length = l12) (a14 : Option Addr) (c15 : Nat) (l16 : Nat) (hl17 : x0.2.2.2.2.2.2.2.2.2.2.2.2.2.1.1.length = l16) (a18 : Option Addr) (c19 : Nat) (l20 : Nat) (hl21 : x0.2.2.2.2.2.2.2.2.2.2.2.2.2.2.1.length = l20) (a22 : Option Addr) (c23 : Nat) (l24 : Nat) (hl25 : x0.2.2.2.2.2.2.2.2.2.2.2.2.2.2.2.2.1.length = l24) (r : Bool × Int × (List Int × Int) × Int × Int × Int × Int × Int × Int × Int × List (List Int) × (List (List Int × Int)) × Int × (List Int × Int) × List Int × Int × List Int × Int) (h : M_i_left x0 = some r) :
    FC Tryz.prog 86 [.agg #[.bool x0.1, .int .i64 x0.2.1, .slice a2 l4 c3, .int .i64 x0.2.2.1.2, .int .i64 x0.2.2.2.1, .int .i64 x0.2.2.2.2.1, .int .i64 x0.2.2.2.2.2.1, .int .i64 x0.2.2.2.2.2.2.1, .int .i64 x0.2.2.2.2.2.2.2.1, .int .i64 x0.2.2.2.2.2.2.2.2.1, .int .i64 x0.2.2.2.2.2.2.2.2.2.1, .slice a6 l8 c7, .slice a10 l12 c11, .int .i64 x0.2.2.2.2.2.2.2.2.2.2.2.2.1, .slice a14 l16 c15, .int .i64 x0.2.2.2.2.2.2.2.2.2.2.2.2.2.1.2, .slice a18 l20 c19, .int .i64 x0.2.2.2.2.2.2.2.2.2.2.2.2.2.2.2.1, .slice a22 l24 c23, .int .i64 x0.2.2.2.2.2.2.2.2.2.2.2.2.2.2.2.2.2]] [⟨(.int .i64), ⟨a2, l4, c3⟩, x0.2.2.1.1⟩, ⟨(.sl (.int .i64)), ⟨a6, l8, c7⟩, x0.2.2.2.2.2.2.2.2.2.2.1⟩, ⟨(.pair (.sl (.int .i64)) (.int .i64)), ⟨a10, l12, c11⟩, x0.2.2.2.2.2.2.2.2.2.2.2.1⟩, ⟨(.int .i64), ⟨a14, l16, c15⟩, x0.2.2.2.2.2.2.2.2.2.2.2.2.2.1.1⟩, ⟨(.int .i64), ⟨a18, l20, c19⟩, x0.2.2.2.2.2.2.2.2.2.2.2.2.2.2.1⟩, ⟨(.int .i64), ⟨a22, l24, c23⟩, x0.2.2.2.2.2.2.2.2.2.2.2.2.2.2.2.2.1⟩] (fun _ : Option Addr × Nat × Option Addr × Nat × Option Addr × Nat × Option Addr × Nat => True) (fun q => .agg (cl46 (r.1, r.2.1, r.2.2.1, r.2.2.2.1, r.2.2.2.2.1, r.2.2.2.2.2.1, r.2.2.2.2.2.2.1, r.2.2.2.2.2.2.2.1, r.2.2.2.2.2.2.2.2.1, r.2.2.2.2.2.2.2.2.2.1, r.2.2.2.2.2.2.2.2.2.2.1, r.2.2.2.2.2.2.2.2.2.2.2.1, r.2.2.2.2.2.2.2.2.2.2.2.2.1, r.2.2.2.2.2.2.2.2.2.2.2.2.2.1, [], r.2.2.2.2.2.2.2.2.2.2.2.2.2.2.2.1, ([], r.2.2.2.2.2.2.2.2.2.2.2.2.2.2.2.2.2)) q.1 q.2.1 q.2.2.1 q.2.2.2.1 q.2.2.2.2.1 q.2.2.2.2.2.1 q.2.2.2.2.2.2.1 q.2.2.2.2.2.2.2 none 0 none 0).toArray) (fun q => [⟨(.int .i64), ⟨q.1, r.2.2.1.1.length, q.2.1⟩, r.2.2.1.1⟩, ⟨(.sl (.int .i64)), ⟨q.2.2.1, r.2.2.2.2.2.2.2.2.2.2.1.length, q.2.2.2.1⟩, r.2.2.2.2.2.2.2.2.2.2.1⟩, ⟨(.pair (.sl (.int .i64)) (.int .i64)), ⟨q.2.2.2.2.1, r.2.2.2.2.2.2.2.2.2.2.2.1.length, q.2.2.2.2.2.1⟩, r.2.2.2.2.2.2.2.2.2.2.2.1⟩, ⟨(.int .i64), ⟨q.2.2.2.2.2.2.1, r.2.2.2.2.2.2.2.2.2.2.2.2.2.1.1.length, q.2.2.2.2.2.2.2⟩, r.2.2.2.2.2.2.2.2.2.2.2.2.2.1.1⟩]) :=
  by
    subst hl5
    subst hl9
    subst hl13
    subst hl17
    subst hl21
    subst hl25
    refine FC.of (T := TTx) Tryz.call86 Tryz.func86 rfl rfl fun w0 => ?_
    unfold M_i_left at h
    refine JS.rgB ttOk 2 [] [7, 8] [(1, .bp 7 0), (2, .bp 8 0)] (.new 7 46 (cl46 x0 a2 c3 a6 c7 a10 c11 a14 c15 a18 c19 a22 c23) (.new 8 46 (cl46 (false, 0, ([], 0), 0, 0, 0, 0, 0, 0, 0, [], [], 0, ([], 0), [], 0, ([], 0)) none 0 none 0 none 0 none 0 none 0 none 0) .nil)) ⟨(Es rfl), (Bs rfl rfl)⟩ rfl rfl (JS.seq (JS.region (JO.reg ttOk 1 [] [] [(4, .v (.agg (cl46 x0 a2 c3 a6 c7 a10 c11 a14 c15 a18 c19 a22 c23).toArray))] _ rfl ⟨⟨rfl, trivial⟩, rfl⟩ ?_)))
    obtain ⟨y26, hy27, h⟩ := bindO_some h
    refine JO.call rfl rfl rfl rfl (ok_i_copyEd x0 a2 c3 x0.2.2.1.1.length rfl a6 c7 x0.2.2.2.2.2.2.2.2.2.2.1.length rfl a10 c11 x0.2.2.2.2.2.2.2.2.2.2.2.1.length rfl a14 c15 x0.2.2.2.2.2.2.2.2.2.2.2.2.2.1.1.length rfl a18 c19 x0.2.2.2.2.2.2.2.2.2.2.2.2.2.2.1.length rfl a22 c23 x0.2.2.2.2.2.2.2.2.2.2.2.2.2.2.2.2.1.length rfl _ hy27) rfl [0, 1, 2, 3, 4, 5] rfl rfl ?_
    rintro ⟨a28, c29, a30, c31, a32, c33, a34, c35, a36, c37, a38, c39⟩ -
    refine JO.regB ttOk 2 [] [29] [(3, .bp 29 0)] (.new 7 46 (cl46 x0 a2 c3 a6 c7 a10 c11 a14 c15 a18 c19 a22 c23) (.new 8 46 (cl46 (false, 0, ([], 0), 0, 0, 0, 0, 0, 0, 0, [], [], 0, ([], 0), [], 0, ([], 0)) none 0 none 0 none 0 none 0 none 0 none 0) (.new 29 46 (cl46 y26 a28 c29 a30 c31 a32 c33 a34 c35 a36 c37 a38 c39) .nil))) rfl ⟨⟨rfl, trivial⟩, (Bs rfl rfl)⟩ (JO.done rfl (JS.rgB ttOk 2 [] [] [] (.new 7 46 (cl46 x0 a2 c3 a6 c7 a10 c11 a14 c15 a18 c19 a22 c23) (.new 8 46 (cl46 (false, 0, ([], 0), 0, 0, 0, 0, 0, 0, 0, [], [], 0, ([], 0), [], 0, ([], 0)) none 0 none 0 none 0 none 0 none 0 none 0) (.new 29 46 (cl46 (y26.1, 0, y26.2.2.1, y26.2.2.2.1, y26.2.2.2.2.1, y26.2.2.2.2.2.1, y26.2.2.2.2.2.2.1, y26.2.2.2.2.2.2.2.1, y26.2.2.2.2.2.2.2.2.1, y26.2.2.2.2.2.2.2.2.2.1, y26.2.2.2.2.2.2.2.2.2.2.1, y26.2.2.2.2.2.2.2.2.2.2.2.1, y26.2.2.2.2.2.2.2.2.2.2.2.2.1, y26.2.2.2.2.2.2.2.2.2.2.2.2.2.1, y26.2.2.2.2.2.2.2.2.2.2.2.2.2.2.1, y26.2.2.2.2.2.2.2.2.2.2.2.2.2.2.2.1, y26.2.2.2.2.2.2.2.2.2.2.2.2.2.2.2.2) a28 c29 a30 c31 a32 c33 a34 c35 a36 c37 a38 c39) .nil))) ⟨trivial, (Bs rfl rfl)⟩ rfl rfl ?_))
    obtain ⟨j42, hj48, h⟩ := joinO_some h
    refine JS.seqJ (ι := Int) ⟨fun z => j42 z = some r, fun z => [(2, .bp 8 0), (3, .bp 29 0)], fun z => (.new 8 46 (cl46 (false, 0, ([], 0), 0, 0, 0, 0, 0, 0, 0, [], [], 0, ([], 0), [], 0, ([], 0)) none 0 none 0 none 0 none 0 none 0 none 0) (.new 29 46 (cl46 (y26.1, z, y26.2.2.1, y26.2.2.2.1, y26.2.2.2.2.1, y26.2.2.2.2.2.1, y26.2.2.2.2.2.2.1, y26.2.2.2.2.2.2.2.1, y26.2.2.2.2.2.2.2.2.1, y26.2.2.2.2.2.2.2.2.2.1, y26.2.2.2.2.2.2.2.2.2.2.1, y26.2.2.2.2.2.2.2.2.2.2.2.1, y26.2.2.2.2.2.2.2.2.2.2.2.2.1, y26.2.2.2.2.2.2.2.2.2.2.2.2.2.1, y26.2.2.2.2.2.2.2.2.2.2.2.2.2.2.1, y26.2.2.2.2.2.2.2.2.2.2.2.2.2.2.2.1, y26.2.2.2.2.2.2.2.2.2.2.2.2.2.2.2.2) a28 c29 a30 c31 a32 c33 a34 c35 a36 c37 a38 c39) .nil)), fun z => [], fun z => [⟨(.int .i64), ⟨a28, y26.2.2.1.1.length, c29⟩, y26.2.2.1.1⟩, ⟨(.sl (.int .i64)), ⟨a30, y26.2.2.2.2.2.2.2.2.2.2.1.length, c31⟩, y26.2.2.2.2.2.2.2.2.2.2.1⟩, ⟨(.pair (.sl (.int .i64)) (.int .i64)), ⟨a32, y26.2.2.2.2.2.2.2.2.2.2.2.1.length, c33⟩, y26.2.2.2.2.2.2.2.2.2.2.2.1⟩, ⟨(.int .i64), ⟨a34, y26.2.2.2.2.2.2.2.2.2.2.2.2.2.1.1.length, c35⟩, y26.2.2.2.2.2.2.2.2.2.2.2.2.2.1.1⟩, ⟨(.int .i64), ⟨a36, y26.2.2.2.2.2.2.2.2.2.2.2.2.2.2.1.length, c37⟩, y26.2.2.2.2.2.2.2.2.2.2.2.2.2.2.1⟩, ⟨(.int .i64), ⟨a38, y26.2.2.2.2.2.2.2.2.2.2.2.2.2.2.2.2.1.length, c39⟩, y26.2.2.2.2.2.2.2.2.2.2.2.2.2.2.2.2.1⟩], fun z => 0⟩ ?_ ?_
    · refine JS.rg0 ttOk 2 [(8, .v (.bool x0.1))] ⟨⟨rfl, trivial⟩, rfl⟩ rfl rfl ?_
      refine JS.cond rfl (fun ht47 => ?_) (fun ht47 => ?_)
      · have h := condT h ht47
        refine JS.reB ttOk 2 [] [] [] (.new 8 46 (cl46 (false, 0, ([], 0), 0, 0, 0, 0, 0, 0, 0, [], [], 0, ([], 0), [], 0, ([], 0)) none 0 none 0 none 0 none 0 none 0 none 0) (.new 29 46 (cl46 (y26.1, 2, y26.2.2.1, y26.2.2.2.1, y26.2.2.2.2.1, y26.2.2.2.2.2.1, y26.2.2.2.2.2.2.1, y26.2.2.2.2.2.2.2.1, y26.2.2.2.2.2.2.2.2.1, y26.2.2.2.2.2.2.2.2.2.1, y26.2.2.2.2.2.2.2.2.2.2.1, y26.2.2.2.2.2.2.2.2.2.2.2.1, y26.2.2.2.2.2.2.2.2.2.2.2.2.1, y26.2.2.2.2.2.2.2.2.2.2.2.2.2.1, y26.2.2.2.2.2.2.2.2.2.2.2.2.2.2.1, y26.2.2.2.2.2.2.2.2.2.2.2.2.2.2.2.1, y26.2.2.2.2.2.2.2.2.2.2.2.2.2.2.2.2) a28 c29 a30 c31 a32 c33 a34 c35 a36 c37 a38 c39) .nil)) ⟨trivial, (Bs rfl rfl)⟩ rfl rfl (JS.endJA 2 h (Es rfl) (Bs rfl rfl) [] rfl [0, 1, 2, 3, 4, 5] rfl rfl)
      have h := condF h ht47
      refine JS.skip (JS.endJA 0 h (Es rfl) (Bs rfl rfl) [] rfl [0, 1, 2, 3, 4, 5] rfl rfl)
    rintro x41 h
    subst hj48
    refine JS.rgB ttOk 7 [] [] [] (.new 8 46 (cl46 (false, 0, ([], 0), 0, 0, 0, 0, 0, 0, 0, [], [], 0, ([], 0), [], 0, ([], 0)) none 0 none 0 none 0 none 0 none 0 none 0) (.new 29 46 (cl46 (y26.1, x41, y26.2.2.1, y26.2.2.2.1, y26.2.2.2.2.1, y26.2.2.2.2.2.1, y26.2.2.2.2.2.2.1, y26.2.2.2.2.2.2.2.1, y26.2.2.2.2.2.2.2.2.1, y26.2.2.2.2.2.2.2.2.2.1, y26.2.2.2.2.2.2.2.2.2.2.1, y26.2.2.2.2.2.2.2.2.2.2.2.1, y26.2.2.2.2.2.2.2.2.2.2.2.2.1, y26.2.2.2.2.2.2.2.2.2.2.2.2.2.1, [], 0, ([], 0)) a28 c29 a30 c31 a32 c33 a34 c35 none 0 none 0) .nil)) ⟨trivial, (Bs rfl rfl)⟩ rfl rfl (JS.seq (JS.region (JO.reg ttOk 4 [] [] [(15, .v (.agg #[.slice a28 y26.2.2.1.1.length c29, .int .i64 y26.2.2.1.2])), (17, .v (.int .i64 x41))] _ rfl ⟨(Es rfl), rfl⟩ ?_)))
    obtain ⟨y44, hy45, h⟩ := bindO_some h
    refine JO.call rfl rfl rfl rfl (ok_i_inCommand y26.2.2.1 x41 a28 c29 y26.2.2.1.1.length rfl _ hy45) rfl [0] rfl rfl fun _ _ => JO.regB ttOk 2 [] [] [] (.new 8 46 (cl46 (false, 0, ([], 0), 0, 0, 0, 0, 0, 0, 0, [], [], 0, ([], 0), [], 0, ([], 0)) none 0 none 0 none 0 none 0 none 0 none 0) (.new 29 46 (cl46 (y26.1, x41, (y26.2.2.1.1, y44.2), y26.2.2.2.1, y26.2.2.2.2.1, y26.2.2.2.2.2.1, y26.2.2.2.2.2.2.1, y26.2.2.2.2.2.2.2.1, y26.2.2.2.2.2.2.2.2.1, y26.2.2.2.2.2.2.2.2.2.1, y26.2.2.2.2.2.2.2.2.2.2.1, y26.2.2.2.2.2.2.2.2.2.2.2.1, y26.2.2.2.2.2.2.2.2.2.2.2.2.1, y26.2.2.2.2.2.2.2.2.2.2.2.2.2.1, [], 0, ([], 0)) a28 c29 a30 c31 a32 c33 a34 c35 none 0 none 0) .nil)) rfl ⟨trivial, (Bs rfl rfl)⟩ (JO.done rfl (JS.rgB ttOk 2 [] [] [] (.new 8 46 (cl46 (y26.1, x41, (y26.2.2.1.1, y44.2), y26.2.2.2.1, y26.2.2.2.2.1, y26.2.2.2.2.2.1, y26.2.2.2.2.2.2.1, y26.2.2.2.2.2.2.2.1, y26.2.2.2.2.2.2.2.2.1, y26.2.2.2.2.2.2.2.2.2.1, y26.2.2.2.2.2.2.2.2.2.2.1, y26.2.2.2.2.2.2.2.2.2.2.2.1, y26.2.2.2.2.2.2.2.2.2.2.2.2.1, y26.2.2.2.2.2.2.2.2.2.2.2.2.2.1, [], 0, ([], 0)) a28 c29 a30 c31 a32 c33 a34 c35 none 0 none 0) .nil) ⟨trivial, (Bs rfl rfl)⟩ rfl rfl ?_))
    cases h
    exact JS.ret ttOk (a28, c29, a30, c31, a32, c33, a34, c35) trivial rfl rfl [0, 0, 0, 0] rfl

def M_i_HistLast (x0 : Int × List (List UInt8)) : Option Int :=
  (bindO (M_i_HistOk x0) fun (y6 : Bool) =>
  (bif (bif (!y6) then true else (decide ((x0.2.length : Int) = 0))) then
  some 0
  else
  some (W ((W (x0.1 + (x0.2.length : Int))) - 1))))

theorem ok_i_HistLast (x0 : Int × List (List UInt8)) (a2 : Option Addr) (c3 : Nat) (l4 : Nat) (hl5 : x0.2.length = l4) (r : Int) (h : M_i_HistLast x0 = some r) :
    FC Tryz.prog 156 [.agg #[.int .i64 x0.1, .slice a2 l4 c3]] [⟨.str, ⟨a2, l4, c3⟩, x0.2⟩] (fun _ : Unit => True) (fun _ => .int .i64 r) (fun _ => []) :=
  by
    subst hl5
    refine FC.of (T := TTx) Tryz.call156 Tryz.func156 rfl rfl fun w0 => ?_
    unfold M_i_HistLast at h
    refine JS.rgB ttOk 2 [] [2] [(1, .bp 2 0)] (.new 2 50 [.int .i64 x0.1, .slice a2 x0.2.length c3] .nil) ⟨⟨rfl, trivial⟩, (Bs rfl rfl)⟩ rfl rfl (JS.seq (JS.seq (JS.region (JO.reg ttOk 1 [] [] [(3, .v (.agg #[.int .i64 x0.1, .slice a2 x0.2.length c3]))] _ rfl ⟨⟨rfl, trivial⟩, rfl⟩ ?_))))
    obtain ⟨y6, hy7, h⟩ := bindO_some h
    refine JO.call rfl rfl rfl rfl (ok_i_HistOk x0 a2 c3 x0.2.length rfl _ hy7) rfl [0] rfl rfl fun _ _ => JO.reg ttOk 7 [] [] [(11, .v (.bool (bif (!y6) then true else (decide ((x0.2.length : Int) = 0)))))] _ rfl ⟨⟨rfl, trivial⟩, rfl⟩ (JO.done rfl ?_)
    refine JS.cond rfl (fun ht9 => ?_) (fun ht9 => ?_)
    · have h := condT h ht9
      refine JS.rg0 ttOk 1 [(2, .v (.int .i64 0))] ⟨⟨rfl, trivial⟩, rfl⟩ rfl rfl ?_
      cases h
      exact JS.ret ttOk () trivial rfl rfl [] rfl
    have h := condF h ht9
    refine JS.skip (JS.rg ttOk 8 [(W (x0.1 + (x0.2.length : Int))), (W ((W (x0.1 + (x0.2.length : Int))) - 1))] [] [(2, .v (.int .i64 (W ((W (x0.1 + (x0.2.length : Int))) - 1))))] _ ⟨⟨trivial, rfl⟩, ⟨trivial, rfl⟩, ⟨rfl, trivial⟩, rfl⟩ rfl rfl ?_)
    cases h
    exact JS.ret ttOk () trivial rfl rfl [] rfl

def M_i_RuneBytes (x0 : Int) : Option (List UInt8) :=
  (bindO (M_i_RuneOk x0) fun (y2 : Bool) =>
  (bif (!y2) then
  some ([])
  else
  (bif (decide (x0 < 128)) then
  some ([(u8 (x0))] : List UInt8)
  else
  (bif (decide (x0 < 2048)) then
  some ([(u8 ((W (192 + (W (Int.tdiv x0 64)))))), (u8 ((W (128 + (Int.tmod x0 64)))))] : List UInt8)
  else
  (bif (decide (x0 < 65536)) then
  some ([(u8 ((W (224 + (W (Int.tdiv x0 4096)))))), (u8 ((W (128 + (Int.tmod (W (Int.tdiv x0 64)) 64))))), (u8 ((W (128 + (Int.tmod x0 64)))))] : List UInt8)
  else
  some ([(u8 ((W (240 + (W (Int.tdiv x0 262144)))))), (u8 ((W (128 + (Int.tmod (W (Int.tdiv x0 4096)) 64))))), (u8 ((W (128 + (Int.tmod (W (Int.tdiv x0 64)) 64))))), (u8 ((W (128 + (Int.tmod x0 64)))))] : List UInt8))))))

theorem ok_i_RuneBytes (x0 : Int) (r : List UInt8) (h : M_i_RuneBytes x0 = some r) :
    FC Tryz.prog 143 [.int .i64 x0] [] (fun _ : Option Addr × Nat => True) (fun q => .slice q.1 r.length q.2) (fun q => [⟨.byte, ⟨q.1, r.length, q.2⟩, r⟩]) :=
  by
    refine FC.of (T := TTx) Tryz.call143 Tryz.func143 rfl rfl fun w0 => ?_
    unfold M_i_RuneBytes at h
    refine JS.rg0 ttOk 1 [] ⟨trivial, rfl⟩ rfl rfl (JS.seq (JS.block (JS.seq (JS.region (JO.reg ttOk 1 [] [] [(4, .v (.int .i64 x0))] _ rfl ⟨⟨rfl, trivial⟩, rfl⟩ ?_)))))
    obtain ⟨y2, hy3, h⟩ := bindO_some h
    refine JO.call rfl rfl rfl rfl (ok_i_RuneOk x0 _ hy3) rfl [] rfl rfl fun _ _ => JO.reg ttOk 2 [] [] [(3, .v (.bool (!y2)))] _ rfl ⟨⟨rfl, trivial⟩, rfl⟩ (JO.done rfl ?_)
    refine JS.cond rfl (fun ht27 => ?_) (fun ht27 => ?_)
    · have h := condT h ht27
      refine JS.rg0 ttOk 1 [(2, .v (.slice none 0 0))] ⟨⟨rfl, trivial⟩, rfl⟩ rfl rfl ?_
      cases h
      refine JS.nilO .byte Sl.nil rfl rfl (JS.ret ttOk (none, 0) trivial rfl rfl [0] rfl)
    have h := condF h ht27
    refine JS.rg0 ttOk 3 [(7, .v (.bool (decide (x0 < 128))))] ⟨⟨rfl, trivial⟩, rfl⟩ rfl rfl ?_
    refine JS.cond rfl (fun ht26 => ?_) (fun ht26 => ?_)
    · have h := condT h ht26
      refine JS.seq (JS.region (JO.reg ttOk 2 [((u8 (x0)).toNat : Int)] [] [(11, .v (.int .u8 ((u8 (x0)).toNat : Int)))] _ rfl ⟨⟨trivial, u8_wrap _⟩, ⟨rfl, trivial⟩, rfl⟩ ?_))
      refine JO.ofK rfl (JK.buildSlice ttOk rfl rfl rfl rfl rfl rfl rfl rfl rfl rfl rfl [] rfl .byte [(u8 (x0))] ⟨rfl, rfl⟩ rfl rfl fun a4 => JO.toK ?_)
      refine JO.reg ttOk 1 [] [] [(2, .v (.slice a4 ([(u8 (x0))] : List UInt8).length ([(u8 (x0))] : List UInt8).length))] _ rfl ⟨⟨rfl, trivial⟩, rfl⟩ (JO.done rfl ?_)
      cases h
      exact JS.ret ttOk (a4, ([(u8 (x0))] : List UInt8).length) trivial rfl rfl [0] rfl
    have h := condF h ht26
    refine JS.rg0 ttOk 3 [(13, .v (.bool (decide (x0 < 2048))))] ⟨⟨rfl, trivial⟩, rfl⟩ rfl rfl ?_
    refine JS.cond rfl (fun ht25 => ?_) (fun ht25 => ?_)
    · have h := condT h ht25
      refine JS.seq (JS.region ?_)
      have g5 : (64 : Int) ≠ 0 := by decide
      have g6 : (64 : Int) ≠ 0 := by decide
      refine JO.reg ttOk 8 [(W (Int.tdiv x0 64)), (W (192 + (W (Int.tdiv x0 64)))), ((u8 ((W (192 + (W (Int.tdiv x0 64)))))).toNat : Int), (W (128 + (Int.tmod x0 64))), ((u8 ((W (128 + (Int.tmod x0 64))))).toNat : Int)] [] [(19, .v (.int .u8 ((u8 ((W (192 + (W (Int.tdiv x0 64)))))).toNat : Int))), (23, .v (.int .u8 ((u8 ((W (128 + (Int.tmod x0 64))))).toNat : Int)))] _ rfl ⟨⟨g5, rfl⟩, ⟨trivial, rfl⟩, ⟨trivial, u8_wrap _⟩, g6, ⟨trivial, rfl⟩, ⟨trivial, u8_wrap _⟩, (Es rfl), rfl⟩ ?_
      refine JO.ofK rfl (JK.buildSlice ttOk rfl rfl rfl rfl rfl rfl rfl rfl rfl rfl rfl [] rfl .byte [(u8 ((W (192 + (W (Int.tdiv x0 64)))))), (u8 ((W (128 + (Int.tmod x0 64)))))] ⟨rfl, rfl⟩ rfl rfl fun a7 => JO.toK ?_)
      refine JO.reg ttOk 1 [] [] [(2, .v (.slice a7 ([(u8 ((W (192 + (W (Int.tdiv x0 64)))))), (u8 ((W (128 + (Int.tmod x0 64)))))] : List UInt8).length ([(u8 ((W (192 + (W (Int.tdiv x0 64)))))), (u8 ((W (128 + (Int.tmod x0 64)))))] : List UInt8).length))] _ rfl ⟨⟨rfl, trivial⟩, rfl⟩ (JO.done rfl ?_)
      cases h
      exact JS.ret ttOk (a7, ([(u8 ((W (192 + (W (Int.tdiv x0 64)))))), (u8 ((W (128 + (Int.tmod x0 64)))))] : List UInt8).length) trivial rfl rfl [0] rfl
    have h := condF h ht25
    refine JS.rg0 ttOk 3 [(25, .v (.bool (decide (x0 < 65536))))] ⟨⟨rfl, trivial⟩, rfl⟩ rfl rfl ?_
    refine JS.cond rfl (fun ht24 => ?_) (fun ht24 => ?_)
    · have h := condT h ht24
      refine JS.seq (JS.region ?_)
      have g8 : (4096 : Int) ≠ 0 := by decide
      have g9 : (64 : Int) ≠ 0 := by decide
      have g10 : (64 : Int) ≠ 0 := by decide
      have g11 : (64 : Int) ≠ 0 := by decide
      refine JO.reg ttOk 13 [(W (Int.tdiv x0 4096)), (W (224 + (W (Int.tdiv x0 4096)))), ((u8 ((W (224 + (W (Int.tdiv x0 4096)))))).toNat : Int), (W (Int.tdiv x0 64)), (W (128 + (Int.tmod (W (Int.tdiv x0 64)) 64))), ((u8 ((W (128 + (Int.tmod (W (Int.tdiv x0 64)) 64))))).toNat : Int), (W (128 + (Int.tmod x0 64))), ((u8 ((W (128 + (Int.tmod x0 64))))).toNat : Int)] [] [(31, .v (.int .u8 ((u8 ((W (224 + (W (Int.tdiv x0 4096)))))).toNat : Int))), (36, .v (.int .u8 ((u8 ((W (128 + (Int.tmod (W (Int.tdiv x0 64)) 64))))).toNat : Int))), (40, .v (.int .u8 ((u8 ((W (128 + (Int.tmod x0 64))))).toNat : Int)))] _ rfl ⟨⟨g8, rfl⟩, ⟨trivial, rfl⟩, ⟨trivial, u8_wrap _⟩, ⟨g9, rfl⟩, g10, ⟨trivial, rfl⟩, ⟨trivial, u8_wrap _⟩, g11, ⟨trivial, rfl⟩, ⟨trivial, u8_wrap _⟩, (Es rfl), rfl⟩ ?_
      refine JO.ofK rfl (JK.buildSlice ttOk rfl rfl rfl rfl rfl rfl rfl rfl rfl rfl rfl [] rfl .byte [(u8 ((W (224 + (W (Int.tdiv x0 4096)))))), (u8 ((W (128 + (Int.tmod (W (Int.tdiv x0 64)) 64))))), (u8 ((W (128 + (Int.tmod x0 64)))))] ⟨rfl, rfl⟩ rfl rfl fun a12 => JO.toK ?_)
      refine JO.reg ttOk 1 [] [] [(2, .v (.slice a12 ([(u8 ((W (224 + (W (Int.tdiv x0 4096)))))), (u8 ((W (128 + (Int.tmod (W (Int.tdiv x0 64)) 64))))), (u8 ((W (128 + (Int.tmod x0 64)))))] : List UInt8).length ([(u8 ((W (224 + (W (Int.tdiv x0 4096)))))), (u8 ((W (128 + (Int.tmod (W (Int.tdiv x0 64)) 64))))), (u8 ((W (128 + (Int.tmod x0 64)))))] : List UInt8).length))] _ rfl ⟨⟨rfl, trivial⟩, rfl⟩ (JO.done rfl ?_)
      cases h
      exact JS.ret ttOk (a12, ([(u8 ((W (224 + (W (Int.tdiv x0 4096)))))), (u8 ((W (128 + (Int.tmod (W (Int.tdiv x0 64)) 64))))), (u8 ((W (128 + (Int.tmod x0 64)))))] : List UInt8).length) trivial rfl rfl [0] rfl
    have h := condF h ht24
    refine JS.skip (JS.endB (JS.seq (JS.region ?_)))
    have g13 : (262144 : Int) ≠ 0 := by decide
    have g14 : (4096 : Int) ≠ 0 := by decide
    have g15 : (64 : Int) ≠ 0 := by decide
    have g16 : (64 : Int) ≠ 0 := by decide
    have g17 : (64 : Int) ≠ 0 := by decide
    have g18 : (64 : Int) ≠ 0 := by decide
    refine JO.reg ttOk 18 [(W (Int.tdiv x0 262144)), (W (240 + (W (Int.tdiv x0 262144)))), ((u8 ((W (240 + (W (Int.tdiv x0 262144)))))).toNat : Int), (W (Int.tdiv x0 4096)), (W (128 + (Int.tmod (W (Int.tdiv x0 4096)) 64))), ((u8 ((W (128 + (Int.tmod (W (Int.tdiv x0 4096)) 64))))).toNat : Int), (W (Int.tdiv x0 64)), (W (128 + (Int.tmod (W (Int.tdiv x0 64)) 64))), ((u8 ((W (128 + (Int.tmod (W (Int.tdiv x0 64)) 64))))).toNat : Int), (W (128 + (Int.tmod x0 64))), ((u8 ((W (128 + (Int.tmod x0 64))))).toNat : Int)] [] [(45, .v (.int .u8 ((u8 ((W (240 + (W (Int.tdiv x0 262144)))))).toNat : Int))), (50, .v (.int .u8 ((u8 ((W (128 + (Int.tmod (W (Int.tdiv x0 4096)) 64))))).toNat : Int))), (55, .v (.int .u8 ((u8 ((W (128 + (Int.tmod (W (Int.tdiv x0 64)) 64))))).toNat : Int))), (59, .v (.int .u8 ((u8 ((W (128 + (Int.tmod x0 64))))).toNat : Int)))] _ rfl ⟨⟨g13, rfl⟩, ⟨trivial, rfl⟩, ⟨trivial, u8_wrap _⟩, ⟨g14, rfl⟩, g15, ⟨trivial, rfl⟩, ⟨trivial, u8_wrap _⟩, ⟨g16, rfl⟩, g17, ⟨trivial, rfl⟩, ⟨trivial, u8_wrap _⟩, g18, ⟨trivial, rfl⟩, ⟨trivial, u8_wrap _⟩, (Es rfl), rfl⟩ ?_
    refine JO.ofK rfl (JK.buildSlice ttOk rfl rfl rfl rfl rfl rfl rfl rfl rfl rfl rfl [] rfl .byte [(u8 ((W (240 + (W (Int.tdiv x0 262144)))))), (u8 ((W (128 + (Int.tmod (W (Int.tdiv x0 4096)) 64))))), (u8 ((W (128 + (Int.tmod (W (Int.tdiv x0 64)) 64))))), (u8 ((W (128 + (Int.tmod x0 64)))))] ⟨rfl, rfl⟩ rfl rfl fun a19 => JO.toK ?_)
    refine JO.reg ttOk 1 [] [] [(2, .v (.slice a19 ([(u8 ((W (240 + (W (Int.tdiv x0 262144)))))), (u8 ((W (128 + (Int.tmod (W (Int.tdiv x0 4096)) 64))))), (u8 ((W (128 + (Int.tmod (W (Int.tdiv x0 64)) 64))))), (u8 ((W (128 + (Int.tmod x0 64)))))] : List UInt8).length ([(u8 ((W (240 + (W (Int.tdiv x0 262144)))))), (u8 ((W (128 + (Int.tmod (W (Int.tdiv x0 4096)) 64))))), (u8 ((W (128 + (Int.tmod (W (Int.tdiv x0 64)) 64))))), (u8 ((W (128 + (Int.tmod x0 64)))))] : List UInt8).length))] _ rfl ⟨⟨rfl, trivial⟩, rfl⟩ (JO.done rfl ?_)
    cases h
    exact JS.ret ttOk (a19, ([(u8 ((W (240 + (W (Int.tdiv x0 262144)))))), (u8 ((W (128 + (Int.tmod (W (Int.tdiv x0 4096)) 64))))), (u8 ((W (128 + (Int.tmod (W (Int.tdiv x0 64)) 64))))), (u8 ((W (128 + (Int.tmod x0 64)))))] : List UInt8).length) trivial rfl rfl [0] rfl

def M_i_TextOf_L1 (x0 : List Int) (j27 : (List UInt8) → Option (List UInt8)) (k20 : (List UInt8 × Int) → Option (List UInt8)) : (List UInt8 × Int) → Option (List UInt8) := fun (x6, x9) =>
  (bif (decide (x9 < (x0.length : Int))) then
  (guardO (0 ≤ x9 ∧ x9 < (x0.length : Int)) <|
  (bindO (M_i_RuneBytes (at' x0 x9)) fun (y12 : List UInt8) =>
  (guardO (x6.length + y12.length ≤ 536870912) <|
  k20 ((x6 ++ y12), (W (x9 + 1))))))
  else
  j27 x6)

def M_i_TextOf (x0 : List Int) : Option (List UInt8) :=
  (joinO (fun (x24 : List UInt8) =>
  some x24) fun j27 =>
  (fixF (M_i_TextOf_L1 x0 j27) FUEL (([] : List UInt8), 0)))

theorem ok_i_TextOf (x0 : List Int) (a2 : Option Addr) (c3 : Nat) (l4 : Nat) (hl5 : x0.length = l4) (r : List UInt8) (h : M_i_TextOf x0 = some r) :
    FC Tryz.prog 61 [.slice a2 l4 c3] [⟨(.int .i64), ⟨a2, l4, c3⟩, x0⟩] (fun _ : Unit => True) (fun _ => .string (bs r)) (fun _ => []) :=
  by
    subst hl5
    refine FC.of (T := TTx) Tryz.call61 Tryz.func61 rfl rfl fun w0 => ?_
    unfold M_i_TextOf at h
    refine JS.rg0 ttOk 1 [] ⟨trivial, rfl⟩ rfl rfl (JS.rg0 ttOk 1 [(3, .v (.slice none 0 0))] ⟨⟨rfl, trivial⟩, rfl⟩ rfl rfl (JS.seq (JS.rg0 ttOk 3 [(6, .v (.slice a2 x0.length c3)), (7, .v (.int .i64 (x0.length : Int))), (8, .v (.int .i64 0))] ⟨(Es rfl), rfl⟩ rfl rfl ?_)))
    obtain ⟨j27, hj33, h⟩ := joinO_some h
    refine JS.blockJ (ι := List UInt8 × Option Addr × Nat) ⟨fun z => j27 z.1 = some r, fun z => [(3, .v (.slice z.2.1 z.1.length z.2.2))], fun z => .nil, fun z => [], fun z => [⟨.byte, ⟨z.2.1, z.1.length, z.2.2⟩, z.1⟩], fun z => 0⟩ ?_ ?_
    · refine JS.nilO .byte Sl.nil rfl rfl (JS.loop (ι := Nat × List UInt8 × Int × Option Addr × Nat) ⟨fun z => fixF (M_i_TextOf_L1 x0 j27) z.1 (z.2.1, z.2.2.1) = some r, fun z => [(3, .v (.slice z.2.2.2.1 z.2.1.length z.2.2.2.2)), (6, .v (.slice a2 x0.length c3)), (7, .v (.int .i64 (x0.length : Int))), (8, .v (.int .i64 z.2.2.1))], fun z => .nil, fun z => [⟨(.int .i64), ⟨a2, x0.length, c3⟩, x0⟩], fun z => [⟨.byte, ⟨z.2.2.2.1, z.2.1.length, z.2.2.2.2⟩, z.2.1⟩], fun z => z.1⟩ (FUEL, ([] : List UInt8), 0, none, 0) h (Es rfl) trivial [0] rfl [0] rfl ?_)
      rintro ⟨n21, x6, x9, a7, c8⟩ h
      obtain ⟨n21, rfl, h⟩ := fixF_some h
      rw [M_i_TextOf_L1] at h
      refine JS.rg0 ttOk 1 [(9, .v (.bool (decide (x9 < (x0.length : Int)))))] ⟨⟨rfl, trivial⟩, rfl⟩ rfl rfl (JS.seq ?_)
      refine JS.cond rfl (fun ht32 => ?_) (fun ht32 => ?_)
      · have h := condT h ht32
        refine JS.skip (JS.seq (JS.block (JS.seq (JS.region (JO.know 0 rfl fun hs31 => ?_)))))
        obtain ⟨g11, h⟩ := guardO_some h
        refine JO.reg ttOk 1 [] [] [(10, .ep ⟨a2, x0.length, c3⟩ (Int.toNat x9 * 1))] _ rfl ⟨hs31.ix g11, ⟨rfl, trivial⟩, rfl⟩ (JO.load ttOk rfl rfl rfl rfl rfl rfl rfl 0 rfl rfl (Int.toNat x9) 0 (at' x0 x9) ⟨at_some g11, rfl⟩ rfl rfl (JO.reg ttOk 1 [] [] [(5, .v (.int .i64 (at' x0 x9)))] _ rfl ⟨⟨rfl, trivial⟩, rfl⟩ (JO.done rfl (JS.region (JO.reg ttOk 2 [] [] [(12, .v (.slice a7 x6.length c8)), (13, .v (.int .i64 (at' x0 x9)))] _ rfl ⟨(Es rfl), rfl⟩ ?_)))))
        obtain ⟨y12, hy13, h⟩ := bindO_some h
        refine JO.call rfl rfl rfl rfl (ok_i_RuneBytes (at' x0 x9) _ hy13) rfl [] rfl rfl ?_
        rintro ⟨a14, c15⟩ -
        obtain ⟨g16, h⟩ := guardO_some h
        refine JO.appendR' ttOk rfl rfl rfl rfl ⟨rfl, rfl, rfl, rfl, trivial, rfl, rfl, rfl, rfl⟩ rfl rfl rfl [1] rfl 1 rfl g16 rfl fun a17 c18 => JO.reg ttOk 1 [] [] [(3, .v (.slice a17 (x6 ++ y12).length c18))] _ rfl ⟨⟨rfl, trivial⟩, rfl⟩ (JO.done rfl (JS.endB (JS.re ttOk 2 [(W (x9 + 1))] [] [(8, .v (.int .i64 (W (x9 + 1))))] _ ⟨⟨trivial, rfl⟩, ⟨rfl, trivial⟩, rfl⟩ rfl rfl (JS.endL (n21, (x6 ++ y12), (W (x9 + 1)), a17, c18) h (Nat.lt_succ_self _) (Es rfl) trivial [0] rfl [0] rfl))))
      have h := condF h ht32
      refine JS.exit rfl (JS.endJ (x6, a7, c8) h ⟨rfl, trivial⟩ trivial [] rfl [0] rfl)
    rintro ⟨x24, a25, c26⟩ h
    subst hj33
    refine JS.seq (JS.region (JO.reg ttOk 1 [] [] [(17, .v (.slice a25 x24.length c26))] _ rfl ⟨⟨rfl, trivial⟩, rfl⟩ (JO.strOf ttOk rfl rfl rfl rfl rfl rfl rfl rfl 0 rfl rfl (JO.reg ttOk 1 [] [] [(2, .v (.string (bs x24)))] _ rfl ⟨⟨rfl, trivial⟩, rfl⟩ (JO.done rfl ?_)))))
    cases h
    exact JS.ret ttOk () trivial rfl rfl [] rfl

def M_internal_stringslite_HasPrefix (x0 : List UInt8) (x1 : List UInt8) : Option Bool :=
  (guardO (((decide ((x1.length : Int) ≤ (x0.length : Int))) = true) → 0 ≤ (0 : Int) ∧ (0 : Int) ≤ (x1.length : Int) ∧ (x1.length : Int) ≤ (x0.length : Int)) <|
  some (bif (decide ((x1.length : Int) ≤ (x0.length : Int))) then (decide ((sub' x0 0 (x1.length : Int)) = x1)) else false))

theorem ok_internal_stringslite_HasPrefix (x0 : List UInt8) (x1 : List UInt8) (r : Bool) (h : M_internal_stringslite_HasPrefix x0 x1 = some r) :
    FC Tryz.prog 287 [.string (bs x0), .string (bs x1)] [] (fun _ : Unit => True) (fun _ => .bool r) (fun _ => []) :=
  by
    refine FC.of (T := TTx) Tryz.call287 Tryz.func287 rfl rfl fun w0 => ?_
    unfold M_internal_stringslite_HasPrefix at h
    refine JS.rg0 ttOk 1 [] ⟨trivial, rfl⟩ rfl rfl (JS.seq (JS.region ?_))
    obtain ⟨g3, h⟩ := guardO_some h
    refine JO.reg ttOk 14 [] [] [(4, .v (.bool (bif (decide ((x1.length : Int) ≤ (x0.length : Int))) then (decide ((sub' x0 0 (x1.length : Int)) = x1)) else false)))] _ rfl ⟨(fun q5 => (g3 q5)), ⟨rfl, trivial⟩, rfl⟩ (JO.done rfl ?_)
    cases h
    exact JS.ret ttOk () trivial rfl rfl [] rfl

def M_strings_HasPrefix (x0 : List UInt8) (x1 : List UInt8) : Option Bool := some (Lib.hasPrefix x0 x1)

theorem ok_strings_HasPrefix (x0 : List UInt8) (x1 : List UInt8) (r : Bool) (h : M_strings_HasPrefix x0 x1 = some r) : FV Tryz.prog 239 [.string (bs x0), .string (bs x1)] [] (.bool r) := by
  cases h
  refine FV.of_calls Tryz.call239 fun w => ?_
  exact Tryz.strings_HasPrefix (bs x0) (bs x1) w

def M_internal_bytealg_IndexString (gm0 : Int) (x0 : List UInt8) (x1 : List UInt8) : Option Int := guardO (2 ≤ x1.length ∧ (x1.length : Int) ≤ gm0 ∧ x0.length < 4294967281) <| some (Lib.index x0 x1)

theorem ok_internal_bytealg_IndexString (x0 : List UInt8) (x1 : List UInt8) (gm0 : Int) (r : Int) (h : M_internal_bytealg_IndexString gm0 x0 x1 = some r) :
    FE Tryz.prog 234 [.string (bs x0), .string (bs x1)] [⟨(.int .i64), ⟨(some ⟨0, 0, none⟩), 1, 1⟩, [gm0]⟩] (.int .i64 r) := by
  obtain ⟨⟨h1, h2, h3⟩, h⟩ := guardO_some h
  cases h
  refine FE.outer Tryz.func234 (by kernel_rfl) (by kernel_rfl) (by kernel_rfl) (x := Extern.BytealgIndex.index) (by kernel_rfl) fun w hw => ?_
  obtain ⟨L, hL⟩ := hw _ (List.mem_singleton.2 rfl)
  have := Lib.run_indexString (P := Tryz.prog) (bs x0) (bs x1) w 0 gm0 (by kernel_rfl) (fact_var hL) (by rw [bs_size]; exact h1) (by rw [bs_size]; exact h2) (by rw [bs_size]; exact h3)
  rw [bs_data, bs_data] at this
  exact this

def M_internal_bytealg_IndexByteString (x0 : List UInt8) (x1 : UInt8) : Option Int := some (Lib.indexByte x0 x1)

theorem ok_internal_bytealg_IndexByteString (x0 : List UInt8) (x1 : UInt8) (r : Int) (h : M_internal_bytealg_IndexByteString x0 x1 = some r) :
    FE Tryz.prog 285 [.string (bs x0), .int .u8 (x1.toNat : Int)] [] (.int .i64 r) := by
  cases h
  refine FE.outer Tryz.func285 (by kernel_rfl) (by kernel_rfl) (by kernel_rfl) (x := Extern.BytealgIndexByte.indexByte) (by kernel_rfl) fun w hw => ?_
  have := Lib.run_indexByteString (P := Tryz.prog) (bs x0) (x1.toNat : Int) w
  rw [bs_data, u8_byte] at this
  exact this

def M_internal_stringslite_IndexByte (x0 : List UInt8) (x1 : UInt8) : Option Int :=
  (bindO (M_internal_bytealg_IndexByteString x0 x1) fun (y3 : Int) =>
  some y3)

theorem ok_internal_stringslite_IndexByte (x0 : List UInt8) (x1 : UInt8) (r : Int) (h : M_internal_stringslite_IndexByte x0 x1 = some r) :
    FC Tryz.prog 233 [.string (bs x0), .int .u8 (x1.toNat : Int)] [] (fun _ : Unit => True) (fun _ => .int .i64 r) (fun _ => []) :=
  by
    refine FC.of (T := TTx) Tryz.call233 Tryz.func233 rfl rfl fun w0 => ?_
    unfold M_internal_stringslite_IndexByte at h
    refine JS.rg0 ttOk 1 [] ⟨trivial, rfl⟩ rfl rfl (JS.seq (JS.region (JO.reg ttOk 2 [] [] [(5, .v (.string (bs x0))), (6, .v (.int .u8 (x1.toNat : Int)))] _ rfl ⟨(Es rfl), rfl⟩ ?_)))
    obtain ⟨y3, hy4, h⟩ := bindO_some h
    refine JO.ext rfl rfl rfl rfl (ok_internal_bytealg_IndexByteString x0 x1 _ hy4) rfl [] rfl rfl (JO.reg ttOk 1 [] [] [(4, .v (.int .i64 y3))] _ rfl ⟨⟨rfl, trivial⟩, rfl⟩ (JO.done rfl ?_))
    cases h
    exact JS.ret ttOk () trivial rfl rfl [] rfl

def M_internal_bytealg_Cutover (x0 : Int) : Option Int :=
  some (W (Int.tdiv (W (x0 + 16)) 8))

theorem ok_internal_bytealg_Cutover (x0 : Int) (r : Int) (h : M_internal_bytealg_Cutover x0 = some r) :
    FC Tryz.prog 235 [.int .i64 x0] [] (fun _ : Unit => True) (fun _ => .int .i64 r) (fun _ => []) :=
  by
    refine FC.of (T := TTx) Tryz.call235 Tryz.func235 rfl rfl fun w0 => ?_
    unfold M_internal_bytealg_Cutover at h
    refine JS.rg0 ttOk 1 [] ⟨trivial, rfl⟩ rfl rfl (JS.seq (JS.region ?_))
    have g2 : (8 : Int) ≠ 0 := by decide
    refine JO.reg ttOk 4 [(W (x0 + 16)), (W (Int.tdiv (W (x0 + 16)) 8))] [] [(2, .v (.int .i64 (W (Int.tdiv (W (x0 + 16)) 8))))] _ rfl ⟨⟨trivial, rfl⟩, ⟨g2, rfl⟩, ⟨rfl, trivial⟩, rfl⟩ (JO.done rfl ?_)
    cases h
    exact JS.ret ttOk () trivial rfl rfl [] rfl

def M_internal_bytealg_hashStrstring_L1 (x0 : List UInt8) (j10 : Int → Option (Int × Int)) (k6 : (Int × Int) → Option (Int × Int)) : (Int × Int) → Option (Int × Int) := fun (x2, x3) =>
  (bif (decide (x3 < (x0.length : Int))) then
  (guardO (0 ≤ x3 ∧ x3 < (x0.length : Int)) <|
  k6 ((IntKind.u32.wrap ((IntKind.u32.wrap (x2 * 16777619)) + (IntKind.u32.wrap (((at' x0 x3).toNat : Int))))), (W (x3 + 1))))
  else
  j10 x2)

def M_internal_bytealg_hashStrstring_L2 (j28 : Int → Option (Int × Int)) (k22 : (Int × Int × Int) → Option (Int × Int)) : (Int × Int × Int) → Option (Int × Int) := fun (x12, x13, x14) =>
  (bif (decide (0 < x14)) then
  (joinO (fun (x16 : Int) =>
  k22 (x16, (IntKind.u32.wrap (x13 * x13)), (Int.fdiv x14 (2 ^ (min (Int.toNat 1) (IntKind.bits .i64)))))) fun j17 =>
  (bif (!(decide ((W (((BitVec.ofInt (IntKind.bits .i64) x14 &&& BitVec.ofInt (IntKind.bits .i64) 1).toNat : Int))) = 0))) then
  j17 (IntKind.u32.wrap (x12 * x13))
  else
  j17 x12))
  else
  j28 x12)

def M_internal_bytealg_hashStrstring (x0 : List UInt8) : Option (Int × Int) :=
  (joinO (fun (x9 : Int) =>
  (joinO (fun (x27 : Int) =>
  some (x9, x27)) fun j28 =>
  (fixF (M_internal_bytealg_hashStrstring_L2 j28) FUEL (1, 16777619, (x0.length : Int))))) fun j10 =>
  (fixF (M_internal_bytealg_hashStrstring_L1 x0 j10) FUEL (0, 0)))

theorem ok_internal_bytealg_hashStrstring (x0 : List UInt8) (r : Int × Int) (h : M_internal_bytealg_hashStrstring x0 = some r) :
    FC Tryz.prog 286 [.string (bs x0)] [] (fun _ : Unit => True) (fun _ => .tuple #[.int .u32 r.1, .int .u32 r.2]) (fun _ => []) :=
  by
    refine FC.of (T := TTx) Tryz.call286 Tryz.func286 rfl rfl fun w0 => ?_
    unfold M_internal_bytealg_hashStrstring at h
    refine JS.rg0 ttOk 2 [] ⟨trivial, rfl⟩ rfl rfl (JS.rg0 ttOk 1 [(4, .v (.int .u32 0))] ⟨⟨rfl, trivial⟩, rfl⟩ rfl rfl (JS.seq (JS.rg0 ttOk 1 [(5, .v (.int .i64 0))] ⟨⟨rfl, trivial⟩, rfl⟩ rfl rfl ?_)))
    obtain ⟨j10, hj39, h⟩ := joinO_some h
    refine JS.blockJ (ι := Int) ⟨fun z => j10 z = some r, fun z => [(0, .v (.string (bs x0))), (4, .v (.int .u32 z))], fun z => .nil, fun z => [], fun z => [], fun z => 0⟩ ?_ ?_
    · refine JS.loop (ι := Nat × Int × Int) ⟨fun z => fixF (M_internal_bytealg_hashStrstring_L1 x0 j10) z.1 (z.2.1, z.2.2) = some r, fun z => [(0, .v (.string (bs x0))), (4, .v (.int .u32 z.2.1)), (5, .v (.int .i64 z.2.2))], fun z => .nil, fun z => [], fun z => [], fun z => z.1⟩ (FUEL, 0, 0) h (Es rfl) trivial [] rfl [] rfl ?_
      rintro ⟨n7, x2, x3⟩ h
      obtain ⟨n7, rfl, h⟩ := fixF_some h
      rw [M_internal_bytealg_hashStrstring_L1] at h
      refine JS.seq (JS.rg0 ttOk 4 [(12, .v (.bool (decide (x3 < (x0.length : Int)))))] ⟨⟨rfl, trivial⟩, rfl⟩ rfl rfl ?_)
      refine JS.cond rfl (fun ht34 => ?_) (fun ht34 => ?_)
      · have h := condT h ht34
        refine JS.skip (JS.seq (JS.block (JS.region ?_)))
        obtain ⟨g4, h⟩ := guardO_some h
        refine JO.reg ttOk 8 [(IntKind.u32.wrap (x2 * 16777619)), (IntKind.u32.wrap (((at' x0 x3).toNat : Int))), (IntKind.u32.wrap ((IntKind.u32.wrap (x2 * 16777619)) + (IntKind.u32.wrap (((at' x0 x3).toNat : Int)))))] [] [(4, .v (.int .u32 (IntKind.u32.wrap ((IntKind.u32.wrap (x2 * 16777619)) + (IntKind.u32.wrap (((at' x0 x3).toNat : Int)))))))] _ rfl ⟨⟨trivial, rfl⟩, g4, ⟨trivial, rfl⟩, ⟨trivial, rfl⟩, ⟨rfl, trivial⟩, rfl⟩ (JO.done rfl (JS.endB (JS.re ttOk 3 [(W (x3 + 1))] [] [(5, .v (.int .i64 (W (x3 + 1))))] _ ⟨⟨trivial, rfl⟩, ⟨rfl, trivial⟩, rfl⟩ rfl rfl (JS.endL (n7, (IntKind.u32.wrap ((IntKind.u32.wrap (x2 * 16777619)) + (IntKind.u32.wrap (((at' x0 x3).toNat : Int))))), (W (x3 + 1))) h (Nat.lt_succ_self _) (Es rfl) trivial [] rfl [] rfl))))
      have h := condF h ht34
      refine JS.exit rfl (JS.endJ x2 h (Es rfl) trivial [] rfl [] rfl)
    rintro x9 h
    subst hj39
    refine JS.rg0 ttOk 2 [(6, .v (.int .u32 1)), (7, .v (.int .u32 16777619))] ⟨(Es rfl), rfl⟩ rfl rfl (JS.seq (JS.rg0 ttOk 3 [(8, .v (.int .i64 (x0.length : Int)))] ⟨⟨rfl, trivial⟩, rfl⟩ rfl rfl ?_))
    obtain ⟨j28, hj38, h⟩ := joinO_some h
    refine JS.blockJ (ι := Int) ⟨fun z => j28 z = some r, fun z => [(4, .v (.int .u32 x9)), (6, .v (.int .u32 z))], fun z => .nil, fun z => [], fun z => [], fun z => 0⟩ ?_ ?_
    · refine JS.loop (ι := Nat × Int × Int × Int) ⟨fun z => fixF (M_internal_bytealg_hashStrstring_L2 j28) z.1 (z.2.1, z.2.2.1, z.2.2.2) = some r, fun z => [(4, .v (.int .u32 x9)), (6, .v (.int .u32 z.2.1)), (7, .v (.int .u32 z.2.2.1)), (8, .v (.int .i64 z.2.2.2))], fun z => .nil, fun z => [], fun z => [], fun z => z.1⟩ (FUEL, 1, 16777619, (x0.length : Int)) h (Es rfl) trivial [] rfl [] rfl ?_
      rintro ⟨n23, x12, x13, x14⟩ h
      obtain ⟨n23, rfl, h⟩ := fixF_some h
      rw [M_internal_bytealg_hashStrstring_L2] at h
      refine JS.seq (JS.rg0 ttOk 2 [(25, .v (.bool (decide (0 < x14))))] ⟨⟨rfl, trivial⟩, rfl⟩ rfl rfl ?_)
      refine JS.cond rfl (fun ht37 => ?_) (fun ht37 => ?_)
      · have h := condT h ht37
        refine JS.skip (JS.seq (JS.block ?_))
        obtain ⟨j17, hj36, h⟩ := joinO_some h
        refine JS.seqJ (ι := Int) ⟨fun z => j17 z = some r, fun z => [(4, .v (.int .u32 x9)), (6, .v (.int .u32 z)), (7, .v (.int .u32 x13)), (8, .v (.int .i64 x14))], fun z => .nil, fun z => [], fun z => [], fun z => 0⟩ ?_ ?_
        · refine JS.rg ttOk 3 [(W (((BitVec.ofInt (IntKind.bits .i64) x14 &&& BitVec.ofInt (IntKind.bits .i64) 1).toNat : Int)))] [] [(30, .v (.bool (!(decide ((W (((BitVec.ofInt (IntKind.bits .i64) x14 &&& BitVec.ofInt (IntKind.bits .i64) 1).toNat : Int))) = 0)))))] _ ⟨⟨trivial, rfl⟩, ⟨rfl, trivial⟩, rfl⟩ rfl rfl ?_
          refine JS.cond rfl (fun ht35 => ?_) (fun ht35 => ?_)
          · have h := condT h ht35
            refine JS.re ttOk 4 [(IntKind.u32.wrap (x12 * x13))] [] [(6, .v (.int .u32 (IntKind.u32.wrap (x12 * x13))))] _ ⟨⟨trivial, rfl⟩, ⟨rfl, trivial⟩, rfl⟩ rfl rfl (JS.endJ (IntKind.u32.wrap (x12 * x13)) h (Es rfl) trivial [] rfl [] rfl)
          have h := condF h ht35
          refine JS.skip (JS.endJ x12 h (Es rfl) trivial [] rfl [] rfl)
        rintro x16 h
        subst hj36
        refine JS.re ttOk 4 [(IntKind.u32.wrap (x13 * x13))] [] [(7, .v (.int .u32 (IntKind.u32.wrap (x13 * x13))))] _ ⟨⟨trivial, rfl⟩, ⟨rfl, trivial⟩, rfl⟩ rfl rfl (JS.endB (JS.region ?_))
        have g19 : (0 : Int) ≤ 1 := by decide
        refine JO.reg ttOk 3 [] [] [(8, .v (.int .i64 (Int.fdiv x14 (2 ^ (min (Int.toNat 1) (IntKind.bits .i64))))))] _ rfl ⟨g19, ⟨rfl, trivial⟩, rfl⟩ (JO.done rfl (JS.endL (n23, x16, (IntKind.u32.wrap (x13 * x13)), (Int.fdiv x14 (2 ^ (min (Int.toNat 1) (IntKind.bits .i64))))) h (Nat.lt_succ_self _) (Es rfl) trivial [] rfl [] rfl))
      have h := condF h ht37
      refine JS.exit rfl (JS.endJ x12 h (Es rfl) trivial [] rfl [] rfl)
    rintro x27 h
    subst hj38
    refine JS.rg0 ttOk 4 [(2, .v (.int .u32 x9)), (3, .v (.int .u32 x27))] ⟨(Es rfl), rfl⟩ rfl rfl ?_
    cases h
    exact JS.ret ttOk () trivial rfl rfl [] rfl

def M_internal_bytealg_IndexRabinKarpstring_L1 (x0 : List UInt8) (x1 : List UInt8) (j14 : Int → Option Int) (k10 : (Int × Int) → Option Int) : (Int × Int) → Option Int := fun (x6, x7) =>
  (bif (decide (x7 < (x1.length : Int))) then
  (guardO (0 ≤ x7 ∧ x7 < (x0.length : Int)) <|
  k10 ((IntKind.u32.wrap ((IntKind.u32.wrap (x6 * 16777619)) + (IntKind.u32.wrap (((at' x0 x7).toNat : Int))))), (W (x7 + 1))))
  else
  j14 x6)

def M_internal_bytealg_IndexRabinKarpstring_L2 (x0 : List UInt8) (x1 : List UInt8) (y3 : Int) (y4 : Int) (j33 : Unit → Option Int) (k27 : (Int × Int) → Option Int) : (Int × Int) → Option Int := fun (x18, x19) =>
  (bif (decide (x19 < (x0.length : Int))) then
  (guardO (0 ≤ x19 ∧ x19 < (x0.length : Int)) <|
  (guardO (0 ≤ (W (x19 - (x1.length : Int))) ∧ (W (x19 - (x1.length : Int))) < (x0.length : Int)) <|
  (guardO (((decide ((IntKind.u32.wrap ((IntKind.u32.wrap ((IntKind.u32.wrap (x18 * 16777619)) + (IntKind.u32.wrap (((at' x0 x19).toNat : Int))))) - (IntKind.u32.wrap (y4 * (IntKind.u32.wrap (((at' x0 (W (x19 - (x1.length : Int)))).toNat : Int))))))) = y3)) = true) → 0 ≤ (W ((W (x19 + 1)) - (x1.length : Int))) ∧ (W ((W (x19 + 1)) - (x1.length : Int))) ≤ (W (x19 + 1)) ∧ (W (x19 + 1)) ≤ (x0.length : Int)) <|
  (bif (bif (decide ((IntKind.u32.wrap ((IntKind.u32.wrap ((IntKind.u32.wrap (x18 * 16777619)) + (IntKind.u32.wrap (((at' x0 x19).toNat : Int))))) - (IntKind.u32.wrap (y4 * (IntKind.u32.wrap (((at' x0 (W (x19 - (x1.length : Int)))).toNat : Int))))))) = y3)) then (decide ((sub' x0 (W ((W (x19 + 1)) - (x1.length : Int))) (W (x19 + 1))) = x1)) else false) then
  some (W ((W (x19 + 1)) - (x1.length : Int)))
  else
  k27 ((IntKind.u32.wrap ((IntKind.u32.wrap ((IntKind.u32.wrap (x18 * 16777619)) + (IntKind.u32.wrap (((at' x0 x19).toNat : Int))))) - (IntKind.u32.wrap (y4 * (IntKind.u32.wrap (((at' x0 (W (x19 - (x1.length : Int)))).toNat : Int))))))), (W (x19 + 1)))))))
  else
  j33 ())

def M_internal_bytealg_IndexRabinKarpstring (x0 : List UInt8) (x1 : List UInt8) : Option Int :=
  (bindO (M_internal_bytealg_hashStrstring x1) fun (y3, y4) =>
  (joinO (fun (x13 : Int) =>
  (guardO (((decide (x13 = y3)) = true) → 0 ≤ (0 : Int) ∧ (0 : Int) ≤ (x1.length : Int) ∧ (x1.length : Int) ≤ (x0.length : Int)) <|
  (bif (bif (decide (x13 = y3)) then (decide ((sub' x0 0 (x1.length : Int)) = x1)) else false) then
  some 0
  else
  (joinO (fun (_ : Unit) =>
  some (-1)) fun j33 =>
  (fixF (M_internal_bytealg_IndexRabinKarpstring_L2 x0 x1 y3 y4 j33) FUEL (x13, (x1.length : Int))))))) fun j14 =>
  (fixF (M_internal_bytealg_IndexRabinKarpstring_L1 x0 x1 j14) FUEL (0, 0))))

theorem ok_internal_bytealg_IndexRabinKarpstring (x0 : List UInt8) (x1 : List UInt8) (r : Int) (h : M_internal_bytealg_IndexRabinKarpstring x0 x1 = some r) :
    FC Tryz.prog 236 [.string (bs x0), .string (bs x1)] [] (fun _ : Unit => True) (fun _ => .int .i64 r) (fun _ => []) :=
  by
    refine FC.of (T := TTx) Tryz.call236 Tryz.func236 rfl rfl fun w0 => ?_
    unfold M_internal_bytealg_IndexRabinKarpstring at h
    refine JS.rg0 ttOk 1 [] ⟨trivial, rfl⟩ rfl rfl (JS.seq (JS.region (JO.reg ttOk 1 [] [] [(12, .v (.string (bs x1)))] _ rfl ⟨⟨rfl, trivial⟩, rfl⟩ ?_)))
    obtain ⟨⟨y3, y4⟩, hy5, h⟩ := bindO_some h
    refine JO.call rfl rfl rfl rfl (ok_internal_bytealg_hashStrstring x1 _ hy5) rfl [] rfl rfl fun _ _ => JO.reg ttOk 5 [] [] [(5, .v (.int .u32 y3)), (6, .v (.int .u32 y4))] _ rfl ⟨(Es rfl), rfl⟩ (JO.done rfl (JS.rg0 ttOk 3 [(7, .v (.int .i64 (x1.length : Int)))] ⟨⟨rfl, trivial⟩, rfl⟩ rfl rfl (JS.rg0 ttOk 1 [(8, .v (.int .u32 0))] ⟨⟨rfl, trivial⟩, rfl⟩ rfl rfl (JS.seq (JS.rg0 ttOk 1 [(9, .v (.int .i64 0))] ⟨⟨rfl, trivial⟩, rfl⟩ rfl rfl ?_)))))
    obtain ⟨j14, hj49, h⟩ := joinO_some h
    refine JS.blockJ (ι := Int) ⟨fun z => j14 z = some r, fun z => [(0, .v (.string (bs x0))), (1, .v (.string (bs x1))), (5, .v (.int .u32 y3)), (6, .v (.int .u32 y4)), (7, .v (.int .i64 (x1.length : Int))), (8, .v (.int .u32 z))], fun z => .nil, fun z => [], fun z => [], fun z => 0⟩ ?_ ?_
    · refine JS.loop (ι := Nat × Int × Int) ⟨fun z => fixF (M_internal_bytealg_IndexRabinKarpstring_L1 x0 x1 j14) z.1 (z.2.1, z.2.2) = some r, fun z => [(0, .v (.string (bs x0))), (1, .v (.string (bs x1))), (5, .v (.int .u32 y3)), (6, .v (.int .u32 y4)), (7, .v (.int .i64 (x1.length : Int))), (8, .v (.int .u32 z.2.1)), (9, .v (.int .i64 z.2.2))], fun z => .nil, fun z => [], fun z => [], fun z => z.1⟩ (FUEL, 0, 0) h (Es rfl) trivial [] rfl [] rfl ?_
      rintro ⟨n11, x6, x7⟩ h
      obtain ⟨n11, rfl, h⟩ := fixF_some h
      rw [M_internal_bytealg_IndexRabinKarpstring_L1] at h
      refine JS.seq (JS.rg0 ttOk 3 [(20, .v (.bool (decide (x7 < (x1.length : Int)))))] ⟨⟨rfl, trivial⟩, rfl⟩ rfl rfl ?_)
      refine JS.cond rfl (fun ht41 => ?_) (fun ht41 => ?_)
      · have h := condT h ht41
        refine JS.skip (JS.seq (JS.block (JS.region ?_)))
        obtain ⟨g8, h⟩ := guardO_some h
        refine JO.reg ttOk 8 [(IntKind.u32.wrap (x6 * 16777619)), (IntKind.u32.wrap (((at' x0 x7).toNat : Int))), (IntKind.u32.wrap ((IntKind.u32.wrap (x6 * 16777619)) + (IntKind.u32.wrap (((at' x0 x7).toNat : Int)))))] [] [(8, .v (.int .u32 (IntKind.u32.wrap ((IntKind.u32.wrap (x6 * 16777619)) + (IntKind.u32.wrap (((at' x0 x7).toNat : Int)))))))] _ rfl ⟨⟨trivial, rfl⟩, g8, ⟨trivial, rfl⟩, ⟨trivial, rfl⟩, ⟨rfl, trivial⟩, rfl⟩ (JO.done rfl (JS.endB (JS.re ttOk 3 [(W (x7 + 1))] [] [(9, .v (.int .i64 (W (x7 + 1))))] _ ⟨⟨trivial, rfl⟩, ⟨rfl, trivial⟩, rfl⟩ rfl rfl (JS.endL (n11, (IntKind.u32.wrap ((IntKind.u32.wrap (x6 * 16777619)) + (IntKind.u32.wrap (((at' x0 x7).toNat : Int))))), (W (x7 + 1))) h (Nat.lt_succ_self _) (Es rfl) trivial [] rfl [] rfl))))
      have h := condF h ht41
      refine JS.exit rfl (JS.endJ x6 h (Es rfl) trivial [] rfl [] rfl)
    rintro x13 h
    subst hj49
    refine JS.seq (JS.seq (JS.region ?_))
    obtain ⟨g16, h⟩ := guardO_some h
    refine JO.reg ttOk 10 [] [] [(39, .v (.bool (bif (decide (x13 = y3)) then (decide ((sub' x0 0 (x1.length : Int)) = x1)) else false)))] _ rfl ⟨(fun q42 => (g16 q42)), ⟨rfl, trivial⟩, rfl⟩ (JO.done rfl ?_)
    refine JS.cond rfl (fun ht48 => ?_) (fun ht48 => ?_)
    · have h := condT h ht48
      refine JS.rg0 ttOk 1 [(4, .v (.int .i64 0))] ⟨⟨rfl, trivial⟩, rfl⟩ rfl rfl ?_
      cases h
      exact JS.ret ttOk () trivial rfl rfl [] rfl
    have h := condF h ht48
    refine JS.skip (JS.seq (JS.rg0 ttOk 2 [(10, .v (.int .i64 (x1.length : Int)))] ⟨⟨rfl, trivial⟩, rfl⟩ rfl rfl ?_))
    obtain ⟨j33, hj47, h⟩ := joinO_some h
    refine JS.blockJ (ι := Unit) ⟨fun _ => j33 () = some r, fun _ => [], fun _ => .nil, fun _ => [], fun _ => [], fun _ => 0⟩ ?_ ?_
    · refine JS.loop (ι := Nat × Int × Int) ⟨fun z => fixF (M_internal_bytealg_IndexRabinKarpstring_L2 x0 x1 y3 y4 j33) z.1 (z.2.1, z.2.2) = some r, fun z => [(0, .v (.string (bs x0))), (1, .v (.string (bs x1))), (5, .v (.int .u32 y3)), (6, .v (.int .u32 y4)), (7, .v (.int .i64 (x1.length : Int))), (8, .v (.int .u32 z.2.1)), (10, .v (.int .i64 z.2.2))], fun z => .nil, fun z => [], fun z => [], fun z => z.1⟩ (FUEL, x13, (x1.length : Int)) h (Es rfl) trivial [] rfl [] rfl ?_
      rintro ⟨n28, x18, x19⟩ h
      obtain ⟨n28, rfl, h⟩ := fixF_some h
      rw [M_internal_bytealg_IndexRabinKarpstring_L2] at h
      refine JS.seq (JS.rg0 ttOk 4 [(44, .v (.bool (decide (x19 < (x0.length : Int)))))] ⟨⟨rfl, trivial⟩, rfl⟩ rfl rfl ?_)
      refine JS.cond rfl (fun ht46 => ?_) (fun ht46 => ?_)
      · have h := condT h ht46
        refine JS.skip (JS.block (JS.rg ttOk 3 [(IntKind.u32.wrap (x18 * 16777619))] [] [(8, .v (.int .u32 (IntKind.u32.wrap (x18 * 16777619))))] _ ⟨⟨trivial, rfl⟩, ⟨rfl, trivial⟩, rfl⟩ rfl rfl (JS.seq (JS.region ?_))))
        obtain ⟨g20, h⟩ := guardO_some h
        refine JO.reg ttOk 7 [(IntKind.u32.wrap (((at' x0 x19).toNat : Int))), (IntKind.u32.wrap ((IntKind.u32.wrap (x18 * 16777619)) + (IntKind.u32.wrap (((at' x0 x19).toNat : Int)))))] [] [(8, .v (.int .u32 (IntKind.u32.wrap ((IntKind.u32.wrap (x18 * 16777619)) + (IntKind.u32.wrap (((at' x0 x19).toNat : Int)))))))] _ rfl ⟨g20, ⟨trivial, rfl⟩, ⟨trivial, rfl⟩, ⟨rfl, trivial⟩, rfl⟩ (JO.done rfl (JS.seq (JS.region ?_)))
        obtain ⟨g21, h⟩ := guardO_some h
        refine JO.reg ttOk 11 [(W (x19 - (x1.length : Int))), (IntKind.u32.wrap (((at' x0 (W (x19 - (x1.length : Int)))).toNat : Int))), (IntKind.u32.wrap (y4 * (IntKind.u32.wrap (((at' x0 (W (x19 - (x1.length : Int)))).toNat : Int))))), (IntKind.u32.wrap ((IntKind.u32.wrap ((IntKind.u32.wrap (x18 * 16777619)) + (IntKind.u32.wrap (((at' x0 x19).toNat : Int))))) - (IntKind.u32.wrap (y4 * (IntKind.u32.wrap (((at' x0 (W (x19 - (x1.length : Int)))).toNat : Int)))))))] [] [(8, .v (.int .u32 (IntKind.u32.wrap ((IntKind.u32.wrap ((IntKind.u32.wrap (x18 * 16777619)) + (IntKind.u32.wrap (((at' x0 x19).toNat : Int))))) - (IntKind.u32.wrap (y4 * (IntKind.u32.wrap (((at' x0 (W (x19 - (x1.length : Int)))).toNat : Int)))))))))] _ rfl ⟨⟨trivial, rfl⟩, g21, ⟨trivial, rfl⟩, ⟨trivial, rfl⟩, ⟨trivial, rfl⟩, ⟨rfl, trivial⟩, rfl⟩ (JO.done rfl (JS.rg ttOk 3 [(W (x19 + 1))] [] [(10, .v (.int .i64 (W (x19 + 1))))] _ ⟨⟨trivial, rfl⟩, ⟨rfl, trivial⟩, rfl⟩ rfl rfl (JS.seq (JS.region ?_))))
        obtain ⟨g23, h⟩ := guardO_some h
        refine JO.reg ttOk 13 [(W ((W (x19 + 1)) - (x1.length : Int)))] [] [(77, .v (.bool (bif (decide ((IntKind.u32.wrap ((IntKind.u32.wrap ((IntKind.u32.wrap (x18 * 16777619)) + (IntKind.u32.wrap (((at' x0 x19).toNat : Int))))) - (IntKind.u32.wrap (y4 * (IntKind.u32.wrap (((at' x0 (W (x19 - (x1.length : Int)))).toNat : Int))))))) = y3)) then (decide ((sub' x0 (W ((W (x19 + 1)) - (x1.length : Int))) (W (x19 + 1))) = x1)) else false)))] _ rfl ⟨(fun q43 => ⟨trivial, rfl⟩), (fun q44 => (g23 q44)), ⟨rfl, trivial⟩, rfl⟩ (JO.done rfl ?_)
        refine JS.cond rfl (fun ht45 => ?_) (fun ht45 => ?_)
        · have h := condT h ht45
          refine JS.rg ttOk 4 [(W ((W (x19 + 1)) - (x1.length : Int)))] [] [(4, .v (.int .i64 (W ((W (x19 + 1)) - (x1.length : Int)))))] _ ⟨⟨trivial, rfl⟩, ⟨rfl, trivial⟩, rfl⟩ rfl rfl ?_
          cases h
          exact JS.ret ttOk () trivial rfl rfl [] rfl
        have h := condF h ht45
        refine JS.skip (JS.endB (JS.endL (n28, (IntKind.u32.wrap ((IntKind.u32.wrap ((IntKind.u32.wrap (x18 * 16777619)) + (IntKind.u32.wrap (((at' x0 x19).toNat : Int))))) - (IntKind.u32.wrap (y4 * (IntKind.u32.wrap (((at' x0 (W (x19 - (x1.length : Int)))).toNat : Int))))))), (W (x19 + 1))) h (Nat.lt_succ_self _) (Es rfl) trivial [] rfl [] rfl))
      have h := condF h ht46
      refine JS.exit rfl (JS.endJ () h trivial trivial [] rfl [] rfl)
    rintro _ h
    subst hj47
    refine JS.rg0 ttOk 1 [(4, .v (.int .i64 (-1)))] ⟨⟨rfl, trivial⟩, rfl⟩ rfl rfl ?_
    cases h
    exact JS.ret ttOk () trivial rfl rfl [] rfl

def M_internal_stringslite_Index_L1 (x0 : List UInt8) (x1 : List UInt8) (gm0 : Int) (j61 : Unit → Option Int) (k45 : (Int × Int) → Option Int) : (Int × Int) → Option Int := fun (x10, x11) =>
  (bif (decide (x10 < (W ((W ((x0.length : Int) - (x1.length : Int))) + 1)))) then
  (joinO (fun (x18 : Int) =>
  (guardO (0 ≤ (W (x18 + 1)) ∧ (W (x18 + 1)) < (x0.length : Int)) <|
  (guardO (((decide (((at' x0 (W (x18 + 1))).toNat : Int) = ((at' x1 1).toNat : Int))) = true) → 0 ≤ x18 ∧ x18 ≤ (W (x18 + (x1.length : Int))) ∧ (W (x18 + (x1.length : Int))) ≤ (x0.length : Int)) <|
  (bif (bif (decide (((at' x0 (W (x18 + 1))).toNat : Int) = ((at' x1 1).toNat : Int))) then (decide ((sub' x0 x18 (W (x18 + (x1.length : Int)))) = x1)) else false) then
  some x18
  else
  (callO ((decide ((x1.length : Int) ≤ gm0)) = true) (M_internal_bytealg_Cutover (W (x18 + 1))) (0 : Int) fun (y26 : Int) =>
  (bif (bif (decide ((x1.length : Int) ≤ gm0)) then (decide (y26 < (W (x11 + 1)))) else false) then
  (guardO (0 ≤ (W (x18 + 1)) ∧ (W (x18 + 1)) ≤ (x0.length : Int) ∧ (x0.length : Int) ≤ (x0.length : Int)) <|
  (bindO (M_internal_bytealg_IndexString gm0 (sub' x0 (W (x18 + 1)) (x0.length : Int)) x1) fun (y30 : Int) =>
  (bif (decide (0 ≤ y30)) then
  some (W (y30 + (W (x18 + 1))))
  else
  some (-1))))
  else
  (bif (bif (bif (decide (gm0 < (x1.length : Int))) then (decide ((W (4 + (Int.fdiv (W (x18 + 1)) (2 ^ (min (Int.toNat 4) (IntKind.bits .i64)))))) ≤ (W (x11 + 1)))) else false) then (decide ((W (x18 + 1)) < (W ((W ((x0.length : Int) - (x1.length : Int))) + 1)))) else false) then
  (guardO (0 ≤ (W (x18 + 1)) ∧ (W (x18 + 1)) ≤ (x0.length : Int) ∧ (x0.length : Int) ≤ (x0.length : Int)) <|
  (bindO (M_internal_bytealg_IndexRabinKarpstring (sub' x0 (W (x18 + 1)) (x0.length : Int)) x1) fun (y37 : Int) =>
  (bif (decide (y37 < 0)) then
  some (-1)
  else
  some (W ((W (x18 + 1)) + y37)))))
  else
  k45 ((W (x18 + 1)), (W (x11 + 1)))))))))) fun j19 =>
  (guardO (0 ≤ x10 ∧ x10 < (x0.length : Int)) <|
  (bif (!(decide (((at' x0 x10).toNat : Int) = ((at' x1 0).toNat : Int)))) then
  (guardO (0 ≤ (W (x10 + 1)) ∧ (W (x10 + 1)) ≤ (W ((W ((x0.length : Int) - (x1.length : Int))) + 1)) ∧ (W ((W ((x0.length : Int) - (x1.length : Int))) + 1)) ≤ (x0.length : Int)) <|
  (bindO (M_internal_stringslite_IndexByte (sub' x0 (W (x10 + 1)) (W ((W ((x0.length : Int) - (x1.length : Int))) + 1))) (at' x1 0)) fun (y14 : Int) =>
  (bif (decide (y14 < 0)) then
  some (-1)
  else
  j19 (W (x10 + (W (y14 + 1)))))))
  else
  j19 x10)))
  else
  j61 ())

def M_internal_stringslite_Index (gm0 : Int) (x0 : List UInt8) (x1 : List UInt8) : Option Int :=
  (bif (bif (decide ((x1.length : Int) = 0)) then true else (decide (x1 = x0))) then
  some 0
  else
  (bif (decide ((x1.length : Int) = 1)) then
  (guardO (0 ≤ (0 : Int) ∧ 0 < (x1.length : Int)) <|
  (bindO (M_internal_stringslite_IndexByte x0 (at' x1 0)) fun (y4 : Int) =>
  some y4))
  else
  (bif (decide ((x0.length : Int) ≤ (x1.length : Int))) then
  some (-1)
  else
  (bif (bif (decide ((x1.length : Int) ≤ gm0)) then (decide ((x0.length : Int) ≤ 64)) else false) then
  (bindO (M_internal_bytealg_IndexString gm0 x0 x1) fun (y6 : Int) =>
  some y6)
  else
  (guardO (0 ≤ (0 : Int) ∧ 0 < (x1.length : Int)) <|
  (guardO (0 ≤ (1 : Int) ∧ 1 < (x1.length : Int)) <|
  (joinO (fun (_ : Unit) =>
  some (-1)) fun j61 =>
  (fixF (M_internal_stringslite_Index_L1 x0 x1 gm0 j61) FUEL (0, 0)))))))))

theorem ok_internal_stringslite_Index (x0 : List UInt8) (x1 : List UInt8) (gm0 : Int) (r : Int) (h : M_internal_stringslite_Index gm0 x0 x1 = some r) :
    FC Tryz.prog 142 [.string (bs x0), .string (bs x1)] [⟨(.int .i64), ⟨(some ⟨0, 0, none⟩), 1, 1⟩, [gm0]⟩] (fun _ : Unit => True) (fun _ => .int .i64 r) (fun _ => []) :=
  by
    refine FC.of (T := TTx) Tryz.call142 Tryz.func142 rfl rfl fun w0 => ?_
    unfold M_internal_stringslite_Index at h
    refine JS.rg0 ttOk 1 [] ⟨trivial, rfl⟩ rfl rfl (JS.rg0 ttOk 3 [(5, .v (.int .i64 (x1.length : Int)))] ⟨⟨rfl, trivial⟩, rfl⟩ rfl rfl (JS.seq (JS.block (JS.rg0 ttOk 8 [(16, .v (.bool (bif (decide ((x1.length : Int) = 0)) then true else (decide (x1 = x0)))))] ⟨⟨rfl, trivial⟩, rfl⟩ rfl rfl ?_))))
    refine JS.cond rfl (fun ht99 => ?_) (fun ht99 => ?_)
    · have h := condT h ht99
      refine JS.rg0 ttOk 1 [(4, .v (.int .i64 0))] ⟨⟨rfl, trivial⟩, rfl⟩ rfl rfl ?_
      cases h
      exact JS.ret ttOk () trivial rfl rfl [] rfl
    have h := condF h ht99
    refine JS.rg0 ttOk 3 [(24, .v (.bool (decide ((x1.length : Int) = 1))))] ⟨⟨rfl, trivial⟩, rfl⟩ rfl rfl ?_
    refine JS.cond rfl (fun ht98 => ?_) (fun ht98 => ?_)
    · have h := condT h ht98
      refine JS.seq (JS.region ?_)
      obtain ⟨g3, h⟩ := guardO_some h
      refine JO.reg ttOk 3 [] [] [(27, .v (.string (bs x0))), (29, .v (.int .u8 ((at' x1 0).toNat : Int)))] _ rfl ⟨g3, (Es rfl), rfl⟩ ?_
      obtain ⟨y4, hy5, h⟩ := bindO_some h
      refine JO.call rfl rfl rfl rfl (ok_internal_stringslite_IndexByte x0 (at' x1 0) _ hy5) rfl [] rfl rfl fun _ _ => JO.reg ttOk 1 [] [] [(4, .v (.int .i64 y4))] _ rfl ⟨⟨rfl, trivial⟩, rfl⟩ (JO.done rfl ?_)
      cases h
      exact JS.ret ttOk () trivial rfl rfl [] rfl
    have h := condF h ht98
    refine JS.rg0 ttOk 5 [(31, .v (.bool (decide ((x0.length : Int) ≤ (x1.length : Int)))))] ⟨⟨rfl, trivial⟩, rfl⟩ rfl rfl ?_
    refine JS.cond rfl (fun ht97 => ?_) (fun ht97 => ?_)
    · have h := condT h ht97
      refine JS.rg0 ttOk 1 [(4, .v (.int .i64 (-1)))] ⟨⟨rfl, trivial⟩, rfl⟩ rfl rfl ?_
      cases h
      exact JS.ret ttOk () trivial rfl rfl [] rfl
    have h := condF h ht97
    refine JS.seq (JS.region (JO.reg ttOk 1 [] [] [(37, .v (.int .i64 (x1.length : Int)))] _ rfl ⟨⟨rfl, trivial⟩, rfl⟩ (JO.loadV ttOk rfl rfl rfl rfl rfl rfl 0 rfl rfl 0 0 gm0 ⟨rfl, rfl⟩ rfl rfl rfl (JO.reg ttOk 7 [] [] [(36, .v (.bool (bif (decide ((x1.length : Int) ≤ gm0)) then (decide ((x0.length : Int) ≤ 64)) else false)))] _ rfl ⟨⟨rfl, trivial⟩, rfl⟩ (JO.done rfl ?_)))))
    refine JS.cond rfl (fun ht96 => ?_) (fun ht96 => ?_)
    · have h := condT h ht96
      refine JS.seq (JS.region (JO.reg ttOk 2 [] [] [(45, .v (.string (bs x0))), (46, .v (.string (bs x1)))] _ rfl ⟨(Es rfl), rfl⟩ ?_))
      obtain ⟨y6, hy7, h⟩ := bindO_some h
      refine JO.ext rfl rfl rfl rfl (ok_internal_bytealg_IndexString x0 x1 gm0 _ hy7) rfl [0] rfl rfl (JO.reg ttOk 1 [] [] [(4, .v (.int .i64 y6))] _ rfl ⟨⟨rfl, trivial⟩, rfl⟩ (JO.done rfl ?_))
      cases h
      exact JS.ret ttOk () trivial rfl rfl [] rfl
    have h := condF h ht96
    refine JS.skip (JS.endB (JS.seq (JS.region ?_)))
    obtain ⟨g8, h⟩ := guardO_some h
    refine JO.reg ttOk 3 [] [] [(6, .v (.int .u8 ((at' x1 0).toNat : Int)))] _ rfl ⟨g8, ⟨rfl, trivial⟩, rfl⟩ (JO.done rfl (JS.seq (JS.region ?_)))
    obtain ⟨g9, h⟩ := guardO_some h
    refine JO.reg ttOk 3 [] [] [(7, .v (.int .u8 ((at' x1 1).toNat : Int)))] _ rfl ⟨g9, ⟨rfl, trivial⟩, rfl⟩ (JO.done rfl (JS.rg0 ttOk 1 [(8, .v (.int .i64 0))] ⟨⟨rfl, trivial⟩, rfl⟩ rfl rfl (JS.rg ttOk 6 [(W ((x0.length : Int) - (x1.length : Int))), (W ((W ((x0.length : Int) - (x1.length : Int))) + 1))] [] [(9, .v (.int .i64 (W ((W ((x0.length : Int) - (x1.length : Int))) + 1))))] _ ⟨⟨trivial, rfl⟩, ⟨trivial, rfl⟩, ⟨rfl, trivial⟩, rfl⟩ rfl rfl (JS.rg0 ttOk 1 [(10, .v (.int .i64 0))] ⟨⟨rfl, trivial⟩, rfl⟩ rfl rfl (JS.seq ?_)))))
    obtain ⟨j61, hj95, h⟩ := joinO_some h
    refine JS.blockJ (ι := Unit) ⟨fun _ => j61 () = some r, fun _ => [], fun _ => .nil, fun _ => [⟨(.int .i64), ⟨(some ⟨0, 0, none⟩), 1, 1⟩, [gm0]⟩], fun _ => [], fun _ => 0⟩ ?_ ?_
    · refine JS.loop (ι := Nat × Int × Int) ⟨fun z => fixF (M_internal_stringslite_Index_L1 x0 x1 gm0 j61) z.1 (z.2.1, z.2.2) = some r, fun z => [(0, .v (.string (bs x0))), (1, .v (.string (bs x1))), (5, .v (.int .i64 (x1.length : Int))), (6, .v (.int .u8 ((at' x1 0).toNat : Int))), (7, .v (.int .u8 ((at' x1 1).toNat : Int))), (8, .v (.int .i64 z.2.1)), (9, .v (.int .i64 (W ((W ((x0.length : Int) - (x1.length : Int))) + 1)))), (10, .v (.int .i64 z.2.2))], fun z => .nil, fun z => [⟨(.int .i64), ⟨(some ⟨0, 0, none⟩), 1, 1⟩, [gm0]⟩], fun z => [], fun z => z.1⟩ (FUEL, 0, 0) h (Es rfl) trivial [0] rfl [] rfl ?_
      rintro ⟨n46, x10, x11⟩ h
      obtain ⟨n46, rfl, h⟩ := fixF_some h
      rw [M_internal_stringslite_Index_L1] at h
      refine JS.seq (JS.rg0 ttOk 3 [(59, .v (.bool (decide (x10 < (W ((W ((x0.length : Int) - (x1.length : Int))) + 1))))))] ⟨⟨rfl, trivial⟩, rfl⟩ rfl rfl ?_)
      refine JS.cond rfl (fun ht94 => ?_) (fun ht94 => ?_)
      · have h := condT h ht94
        refine JS.skip (JS.block ?_)
        obtain ⟨j19, hj93, h⟩ := joinO_some h
        refine JS.seqJ (ι := Int) ⟨fun z => j19 z = some r, fun z => [(0, .v (.string (bs x0))), (1, .v (.string (bs x1))), (5, .v (.int .i64 (x1.length : Int))), (6, .v (.int .u8 ((at' x1 0).toNat : Int))), (7, .v (.int .u8 ((at' x1 1).toNat : Int))), (8, .v (.int .i64 z)), (9, .v (.int .i64 (W ((W ((x0.length : Int) - (x1.length : Int))) + 1)))), (10, .v (.int .i64 x11))], fun z => .nil, fun z => [⟨(.int .i64), ⟨(some ⟨0, 0, none⟩), 1, 1⟩, [gm0]⟩], fun z => [], fun z => 0⟩ ?_ ?_
        · refine JS.seq (JS.region ?_)
          obtain ⟨g12, h⟩ := guardO_some h
          refine JO.reg ttOk 5 [] [] [(64, .v (.bool (!(decide (((at' x0 x10).toNat : Int) = ((at' x1 0).toNat : Int))))))] _ rfl ⟨g12, ⟨rfl, trivial⟩, rfl⟩ (JO.done rfl ?_)
          refine JS.cond rfl (fun ht82 => ?_) (fun ht82 => ?_)
          · have h := condT h ht82
            refine JS.seq (JS.region ?_)
            obtain ⟨g13, h⟩ := guardO_some h
            refine JO.reg ttOk 6 [(W (x10 + 1))] [] [(69, .v (.string (bs (sub' x0 (W (x10 + 1)) (W ((W ((x0.length : Int) - (x1.length : Int))) + 1)))))), (70, .v (.int .u8 ((at' x1 0).toNat : Int)))] _ rfl ⟨⟨trivial, rfl⟩, g13, (Es rfl), rfl⟩ ?_
            obtain ⟨y14, hy15, h⟩ := bindO_some h
            refine JO.call rfl rfl rfl rfl (ok_internal_stringslite_IndexByte (sub' x0 (W (x10 + 1)) (W ((W ((x0.length : Int) - (x1.length : Int))) + 1))) (at' x1 0) _ hy15) rfl [] rfl rfl fun _ _ => JO.reg ttOk 1 [] [] [(11, .v (.int .i64 y14))] _ rfl ⟨⟨rfl, trivial⟩, rfl⟩ (JO.done rfl (JS.seq (JS.rg0 ttOk 2 [(73, .v (.bool (decide (y14 < 0))))] ⟨⟨rfl, trivial⟩, rfl⟩ rfl rfl ?_)))
            refine JS.cond rfl (fun ht81 => ?_) (fun ht81 => ?_)
            · have h := condT h ht81
              refine JS.rg0 ttOk 1 [(4, .v (.int .i64 (-1)))] ⟨⟨rfl, trivial⟩, rfl⟩ rfl rfl ?_
              cases h
              exact JS.ret ttOk () trivial rfl rfl [] rfl
            have h := condF h ht81
            refine JS.skip (JS.re ttOk 5 [(W (y14 + 1)), (W (x10 + (W (y14 + 1))))] [] [(8, .v (.int .i64 (W (x10 + (W (y14 + 1))))))] _ ⟨⟨trivial, rfl⟩, ⟨trivial, rfl⟩, ⟨rfl, trivial⟩, rfl⟩ rfl rfl (JS.endJ (W (x10 + (W (y14 + 1)))) h (Es rfl) trivial [0] rfl [] rfl))
          have h := condF h ht82
          refine JS.skip (JS.endJ x10 h (Es rfl) trivial [0] rfl [] rfl)
        rintro x18 h
        subst hj93
        refine JS.seq (JS.seq (JS.region ?_))
        obtain ⟨g22, h⟩ := guardO_some h
        obtain ⟨g24, h⟩ := guardO_some h
        refine JO.reg ttOk 16 [(W (x18 + 1)), (W (x18 + (x1.length : Int)))] [] [(93, .v (.bool (bif (decide (((at' x0 (W (x18 + 1))).toNat : Int) = ((at' x1 1).toNat : Int))) then (decide ((sub' x0 x18 (W (x18 + (x1.length : Int)))) = x1)) else false)))] _ rfl ⟨⟨trivial, rfl⟩, g22, (fun q83 => ⟨trivial, rfl⟩), (fun q84 => (g24 q84)), ⟨rfl, trivial⟩, rfl⟩ (JO.done rfl ?_)
        refine JS.cond rfl (fun ht92 => ?_) (fun ht92 => ?_)
        · have h := condT h ht92
          refine JS.rg0 ttOk 2 [(4, .v (.int .i64 x18))] ⟨⟨rfl, trivial⟩, rfl⟩ rfl rfl ?_
          cases h
          exact JS.ret ttOk () trivial rfl rfl [] rfl
        have h := condF h ht92
        refine JS.skip (JS.rg ttOk 3 [(W (x18 + 1))] [] [(8, .v (.int .i64 (W (x18 + 1))))] _ ⟨⟨trivial, rfl⟩, ⟨rfl, trivial⟩, rfl⟩ rfl rfl (JS.rg ttOk 3 [(W (x11 + 1))] [] [(10, .v (.int .i64 (W (x11 + 1))))] _ ⟨⟨trivial, rfl⟩, ⟨rfl, trivial⟩, rfl⟩ rfl rfl (JS.seq (JS.region (JO.reg ttOk 1 [] [] [(99, .v (.int .i64 (x1.length : Int)))] _ rfl ⟨⟨rfl, trivial⟩, rfl⟩ (JO.loadV ttOk rfl rfl rfl rfl rfl rfl 0 rfl rfl 0 0 gm0 ⟨rfl, rfl⟩ rfl rfl rfl (JO.reg ttOk 4 [] [] [(102, .v (.bool (decide ((x1.length : Int) ≤ gm0)))), (103, .cd [(102, true)] (.v (.int .i64 (W (x11 + 1))))), (104, .cd [(102, true)] (.v (.int .i64 (W (x18 + 1)))))] _ rfl ⟨(Es rfl), rfl⟩ ?_)))))))
        obtain ⟨y26, hy27, -, h⟩ := callO_some h
        refine JO.callg rfl rfl rfl rfl (fun q85 => ok_internal_bytealg_Cutover (W (x18 + 1)) _ (hy27 q85)) rfl [] rfl rfl (JO.reg ttOk 2 [] [] [(107, .v (.bool (bif (decide ((x1.length : Int) ≤ gm0)) then (decide (y26 < (W (x11 + 1)))) else false)))] _ rfl ⟨⟨rfl, trivial⟩, rfl⟩ (JO.done rfl ?_))
        refine JS.cond rfl (fun ht91 => ?_) (fun ht91 => ?_)
        · have h := condT h ht91
          refine JS.seq (JS.region ?_)
          obtain ⟨g29, h⟩ := guardO_some h
          refine JO.reg ttOk 4 [] [] [(110, .v (.string (bs (sub' x0 (W (x18 + 1)) (x0.length : Int))))), (111, .v (.string (bs x1)))] _ rfl ⟨g29, (Es rfl), rfl⟩ ?_
          obtain ⟨y30, hy31, h⟩ := bindO_some h
          refine JO.ext rfl rfl rfl rfl (ok_internal_bytealg_IndexString (sub' x0 (W (x18 + 1)) (x0.length : Int)) x1 gm0 _ hy31) rfl [0] rfl rfl (JO.reg ttOk 1 [] [] [(12, .v (.int .i64 y30))] _ rfl ⟨⟨rfl, trivial⟩, rfl⟩ (JO.done rfl (JS.seq (JS.rg0 ttOk 2 [(114, .v (.bool (decide (0 ≤ y30))))] ⟨⟨rfl, trivial⟩, rfl⟩ rfl rfl ?_))))
          refine JS.cond rfl (fun ht86 => ?_) (fun ht86 => ?_)
          · have h := condT h ht86
            refine JS.rg ttOk 4 [(W (y30 + (W (x18 + 1))))] [] [(4, .v (.int .i64 (W (y30 + (W (x18 + 1))))))] _ ⟨⟨trivial, rfl⟩, ⟨rfl, trivial⟩, rfl⟩ rfl rfl ?_
            cases h
            exact JS.ret ttOk () trivial rfl rfl [] rfl
          have h := condF h ht86
          refine JS.skip (JS.rg0 ttOk 1 [(4, .v (.int .i64 (-1)))] ⟨⟨rfl, trivial⟩, rfl⟩ rfl rfl ?_)
          cases h
          exact JS.ret ttOk () trivial rfl rfl [] rfl
        have h := condF h ht91
        refine JS.seq (JS.region (JO.reg ttOk 1 [] [] [(118, .v (.int .i64 (x1.length : Int)))] _ rfl ⟨⟨rfl, trivial⟩, rfl⟩ (JO.loadV ttOk rfl rfl rfl rfl rfl rfl 0 rfl rfl 0 0 gm0 ⟨rfl, rfl⟩ rfl rfl rfl ?_)))
        have g33 : (0 : Int) ≤ 4 := by decide
        refine JO.reg ttOk 13 [(W (4 + (Int.fdiv (W (x18 + 1)) (2 ^ (min (Int.toNat 4) (IntKind.bits .i64))))))] [] [(132, .v (.bool (bif (bif (decide (gm0 < (x1.length : Int))) then (decide ((W (4 + (Int.fdiv (W (x18 + 1)) (2 ^ (min (Int.toNat 4) (IntKind.bits .i64)))))) ≤ (W (x11 + 1)))) else false) then (decide ((W (x18 + 1)) < (W ((W ((x0.length : Int) - (x1.length : Int))) + 1)))) else false)))] _ rfl ⟨(fun q87 => g33), (fun q88 => ⟨trivial, rfl⟩), ⟨rfl, trivial⟩, rfl⟩ (JO.done rfl ?_)
        refine JS.cond rfl (fun ht90 => ?_) (fun ht90 => ?_)
        · have h := condT h ht90
          refine JS.seq (JS.region ?_)
          obtain ⟨g36, h⟩ := guardO_some h
          refine JO.reg ttOk 4 [] [] [(135, .v (.string (bs (sub' x0 (W (x18 + 1)) (x0.length : Int))))), (136, .v (.string (bs x1)))] _ rfl ⟨g36, (Es rfl), rfl⟩ ?_
          obtain ⟨y37, hy38, h⟩ := bindO_some h
          refine JO.call rfl rfl rfl rfl (ok_internal_bytealg_IndexRabinKarpstring (sub' x0 (W (x18 + 1)) (x0.length : Int)) x1 _ hy38) rfl [] rfl rfl fun _ _ => JO.reg ttOk 1 [] [] [(13, .v (.int .i64 y37))] _ rfl ⟨⟨rfl, trivial⟩, rfl⟩ (JO.done rfl (JS.seq (JS.rg0 ttOk 2 [(139, .v (.bool (decide (y37 < 0))))] ⟨⟨rfl, trivial⟩, rfl⟩ rfl rfl ?_)))
          refine JS.cond rfl (fun ht89 => ?_) (fun ht89 => ?_)
          · have h := condT h ht89
            refine JS.rg0 ttOk 1 [(4, .v (.int .i64 (-1)))] ⟨⟨rfl, trivial⟩, rfl⟩ rfl rfl ?_
            cases h
            exact JS.ret ttOk () trivial rfl rfl [] rfl
          have h := condF h ht89
          refine JS.skip (JS.rg ttOk 4 [(W ((W (x18 + 1)) + y37))] [] [(4, .v (.int .i64 (W ((W (x18 + 1)) + y37))))] _ ⟨⟨trivial, rfl⟩, ⟨rfl, trivial⟩, rfl⟩ rfl rfl ?_)
          cases h
          exact JS.ret ttOk () trivial rfl rfl [] rfl
        have h := condF h ht90
        refine JS.skip (JS.endB (JS.endL (n46, (W (x18 + 1)), (W (x11 + 1))) h (Nat.lt_succ_self _) (Es rfl) trivial [0] rfl [] rfl))
      have h := condF h ht94
      refine JS.exit rfl (JS.endJ () h trivial trivial [0] rfl [] rfl)
    rintro _ h
    subst hj95
    refine JS.rg0 ttOk 1 [(4, .v (.int .i64 (-1)))] ⟨⟨rfl, trivial⟩, rfl⟩ rfl rfl ?_
    cases h
    exact JS.ret ttOk () trivial rfl rfl [] rfl

def M_strings_IndexG (gm0 : Int) (x0 : List UInt8) (x1 : List UInt8) : Option Int :=
  (bindO (M_internal_stringslite_Index gm0 x0 x1) fun (y3 : Int) =>
  some y3)

theorem ok_strings_IndexG (x0 : List UInt8) (x1 : List UInt8) (gm0 : Int) (r : Int) (h : M_strings_IndexG gm0 x0 x1 = some r) :
    FC Tryz.prog 60 [.string (bs x0), .string (bs x1)] [⟨(.int .i64), ⟨(some ⟨0, 0, none⟩), 1, 1⟩, [gm0]⟩] (fun _ : Unit => True) (fun _ => .int .i64 r) (fun _ => []) :=
  by
    refine FC.of (T := TTx) Tryz.call60 Tryz.func60 rfl rfl fun w0 => ?_
    unfold M_strings_IndexG at h
    refine JS.rg0 ttOk 1 [] ⟨trivial, rfl⟩ rfl rfl (JS.seq (JS.region (JO.reg ttOk 2 [] [] [(5, .v (.string (bs x0))), (6, .v (.string (bs x1)))] _ rfl ⟨(Es rfl), rfl⟩ ?_)))
    obtain ⟨y3, hy4, h⟩ := bindO_some h
    refine JO.call rfl rfl rfl rfl (ok_internal_stringslite_Index x0 x1 gm0 _ hy4) rfl [0] rfl rfl fun _ _ => JO.reg ttOk 1 [] [] [(4, .v (.int .i64 y3))] _ rfl ⟨⟨rfl, trivial⟩, rfl⟩ (JO.done rfl ?_)
    cases h
    exact JS.ret ttOk () trivial rfl rfl [] rfl

end
end Go.Eng
