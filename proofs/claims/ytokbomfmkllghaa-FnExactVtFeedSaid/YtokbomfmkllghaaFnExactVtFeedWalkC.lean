/- The walks of the functions that FnExactVtFeed reaches: what each computes, as a plain function (M_..), and that the model computes it (ok_..). Condition of each: that the plain function answers. -/
import Derived.Test.YtokbomfmkllghaaFnExactVtFeedWalkB
set_option linter.unusedVariables false
set_option linter.unusedSimpArgs false
namespace Go.Eng
open Go Go.Proofs
noncomputable section

def M_i_VtFeed_L1 (x1 : List UInt8) (j96 : (Int × Int × List Int × Int × Int × Bool × Int × List Int × List UInt8 × Int) → Option ((Int × Int × List Int × Int × Int × Bool) × Int × List Int × List UInt8 × Int)) (k76 : (Int × Int × Int × List Int × Int × Int × Bool × Int × List Int × List UInt8 × Int) → Option ((Int × Int × List Int × Int × Int × Bool) × Int × List Int × List UInt8 × Int)) : (Int × Int × Int × List Int × Int × Int × Bool × Int × List Int × List UInt8 × Int) → Option ((Int × Int × List Int × Int × Int × Bool) × Int × List Int × List UInt8 × Int) := fun (x30, x47, x48, x49, x52, x53, x54, x55, x56, x59, x62) =>
  (bif (decide (x30 < (x1.length : Int))) then
  (guardO (0 ≤ x30 ∧ x30 < (x1.length : Int)) <|
  (bindO (M_i_Vt_step ((x47, x48, x49, x52, x53, x54), x55, x56, x59, x62) ((at' x1 x30).toNat : Int)) fun (y65 : (Int × Int × List Int × Int × Int × Bool) × Int × List Int × List UInt8 × Int) =>
  k76 ((W (x30 + 1)), y65.1.1, y65.1.2.1, y65.1.2.2.1, y65.1.2.2.2.1, y65.1.2.2.2.2.1, y65.1.2.2.2.2.2, y65.2.1, y65.2.2.1, y65.2.2.2.1, y65.2.2.2.2)))
  else
  j96 (x47, x48, x49, x52, x53, x54, x55, x56, x59, x62))

def M_i_VtFeed (x0 : (Int × Int × List Int × Int × Int × Bool) × Int × List Int × List UInt8 × Int) (x1 : List UInt8) : Option ((Int × Int × List Int × Int × Int × Bool) × Int × List Int × List UInt8 × Int) :=
  (bindO (M_i_VtOk x0) fun (y19 : Bool) =>
  (bif (!y19) then
  some ((0, 0, [], 0, 0, false), 0, [], [], 0)
  else
  (bindO (M_i_copyVt x0) fun (y21 : (Int × Int × List Int × Int × Int × Bool) × Int × List Int × List UInt8 × Int) =>
  (joinO (fun ((x80, x81, x82, x85, x86, x87, x88, x89, x92, x95) : Int × Int × List Int × Int × Int × Bool × Int × List Int × List UInt8 × Int) =>
  some ((x80, x81, x82, x85, x86, x87), x88, x89, x92, x95)) fun j96 =>
  (fixF (M_i_VtFeed_L1 x1 j96) FUEL (0, y21.1.1, y21.1.2.1, y21.1.2.2.1, y21.1.2.2.2.1, y21.1.2.2.2.2.1, y21.1.2.2.2.2.2, y21.2.1, y21.2.2.1, y21.2.2.2.1, y21.2.2.2.2))))))

theorem ok_i_VtFeed (x0 : (Int × Int × List Int × Int × Int × Bool) × Int × List Int × List UInt8 × Int) (x1 : List UInt8) (a3 : Option Addr) (c4 : Nat) (l5 : Nat) (hl6 : x0.1.2.2.1.length = l5) (a7 : Option Addr) (c8 : Nat) (l9 : Nat) (hl10 : x0.2.2.1.length = l9) (a11 : Option Addr) (c12 : Nat) (l13 : Nat) (hl14 : x0.2.2.2.1.length = l13) (a15 : Option Addr) (c16 : Nat) (l17 : Nat) (hl18 : x1.length = l17) (r : (Int × Int × List Int × Int × Int × Bool) × Int × List Int × List UInt8 × Int) (h : M_i_VtFeed x0 x1 = some r) :
    FC Try.prog 27 [.agg #[.int .i64 x0.1.1, .int .i64 x0.1.2.1, .slice a3 l5 c4, .int .i64 x0.1.2.2.2.1, .int .i64 x0.1.2.2.2.2.1, .bool x0.1.2.2.2.2.2, .int .i64 x0.2.1, .slice a7 l9 c8, .slice a11 l13 c12, .int .i64 x0.2.2.2.2], .slice a15 l17 c16] [⟨(.int .i64), ⟨a3, l5, c4⟩, x0.1.2.2.1⟩, ⟨(.int .i64), ⟨a7, l9, c8⟩, x0.2.2.1⟩, ⟨.byte, ⟨a11, l13, c12⟩, x0.2.2.2.1⟩, ⟨.byte, ⟨a15, l17, c16⟩, x1⟩] (fun _ : Option Addr × Nat × Option Addr × Nat × Option Addr × Nat => True) (fun q => .agg (cl45 r q.1 q.2.1 q.2.2.1 q.2.2.2.1 q.2.2.2.2.1 q.2.2.2.2.2).toArray) (fun q => [⟨(.int .i64), ⟨q.1, r.1.2.2.1.length, q.2.1⟩, r.1.2.2.1⟩, ⟨(.int .i64), ⟨q.2.2.1, r.2.2.1.length, q.2.2.2.1⟩, r.2.2.1⟩, ⟨.byte, ⟨q.2.2.2.2.1, r.2.2.2.1.length, q.2.2.2.2.2⟩, r.2.2.2.1⟩]) :=
  by
    subst hl6
    subst hl10
    subst hl14
    subst hl18
    refine FC.of (T := TTx) Try.call27 Try.func27 rfl rfl fun w0 => ?_
    unfold M_i_VtFeed at h
    refine JS.seq (JS.region (JO.regB ttOk 2 [] [5, 6] [(2, .bp 5 0), (4, .bp 6 0)] (.new 5 45 (cl45 x0 a3 c4 a7 c8 a11 c12) (.new 6 45 (cl45 ((0, 0, [], 0, 0, false), 0, [], [], 0) none 0 none 0 none 0) .nil)) rfl ⟨⟨rfl, rfl, trivial⟩, ⟨rfl, rfl, rfl, rfl, rfl, rfl, rfl, rfl, trivial⟩⟩ (JO.done rfl (JS.seq (JS.seq (JS.region (JO.reg ttOk 1 [] [] [(8, .v (.agg (cl45 x0 a3 c4 a7 c8 a11 c12).toArray))] _ rfl ⟨⟨rfl, trivial⟩, rfl⟩ ?_)))))))
    obtain ⟨y19, hy20, h⟩ := bindO_some h
    refine JO.call rfl rfl rfl rfl (ok_i_VtOk x0 a3 c4 x0.1.2.2.1.length rfl a7 c8 x0.2.2.1.length rfl a11 c12 x0.2.2.2.1.length rfl _ hy20) rfl [0, 1, 2] rfl rfl fun _ _ => JO.reg ttOk 1 [] [] [(10, .v (.bool (!y19)))] _ rfl ⟨⟨rfl, trivial⟩, rfl⟩ (JO.done rfl ?_)
    refine JS.cond rfl (fun ht104 => ?_) (fun ht104 => ?_)
    · have h := condT h ht104
      refine JS.seq (JS.region (JO.regB ttOk 2 [] [] [] (.new 6 45 (cl45 ((0, 0, [], 0, 0, false), 0, [], [], 0) none 0 none 0 none 0) .nil) rfl ⟨trivial, ⟨rfl, rfl, rfl, rfl, trivial⟩⟩ (JO.done rfl ?_)))
      cases h
      refine JS.nilO (.int .i64) Sl.nil rfl rfl (JS.nilO (.int .i64) Sl.nil rfl rfl (JS.nilO .byte Sl.nil rfl rfl (JS.ret ttOk (none, 0, none, 0, none, 0) trivial rfl rfl [2, 1, 0] rfl)))
    have h := condF h ht104
    refine JS.skip (JS.seq (JS.region (JO.reg ttOk 1 [] [] [(12, .v (.agg (cl45 x0 a3 c4 a7 c8 a11 c12).toArray))] _ rfl ⟨⟨rfl, trivial⟩, rfl⟩ ?_)))
    obtain ⟨y21, hy22, h⟩ := bindO_some h
    refine JO.call rfl rfl rfl rfl (ok_i_copyVt x0 a3 c4 x0.1.2.2.1.length rfl a7 c8 x0.2.2.1.length rfl a11 c12 x0.2.2.2.1.length rfl _ hy22) rfl [0, 1, 2] rfl rfl ?_
    rintro ⟨a23, c24, a25, c26, a27, c28⟩ -
    refine JO.regB ttOk 2 [] [20] [(5, .bp 20 0)] (.new 6 45 (cl45 ((0, 0, [], 0, 0, false), 0, [], [], 0) none 0 none 0 none 0) (.new 20 45 (cl45 y21 a23 c24 a25 c26 a27 c28) .nil)) rfl ⟨⟨rfl, trivial⟩, ⟨rfl, rfl, rfl, rfl, rfl, rfl, rfl, rfl, trivial⟩⟩ (JO.done rfl (JS.seq (JS.seq (JS.region (JO.reg ttOk 3 [] [] [(14, .v (.slice a15 x1.length c16)), (15, .v (.int .i64 (x1.length : Int))), (16, .v (.int .i64 0))] _ rfl ⟨⟨rfl, rfl, rfl, trivial⟩, rfl⟩ (JO.done rfl (JS.unbox 20 rfl (B' := (.new 6 45 (cl45 ((0, 0, [], 0, 0, false), 0, [], [], 0) none 0 none 0 none 0) .nil)) ⟨rfl, rfl, rfl, rfl, trivial⟩ rfl (.pair (.pair (.int .i64) (.pair (.int .i64) (.pair .val (.pair (.int .i64) (.pair (.int .i64) .bool))))) (.pair (.int .i64) (.pair .val (.pair .val (.int .i64))))) ((y21.1.1, y21.1.2.1, (Sl.v ⟨a23, y21.1.2.2.1.length, c24⟩), y21.1.2.2.2.1, y21.1.2.2.2.2.1, y21.1.2.2.2.2.2), y21.2.1, (Sl.v ⟨a25, y21.2.2.1.length, c26⟩), (Sl.v ⟨a27, y21.2.2.2.1.length, c28⟩), y21.2.2.2.2) ⟨rfl, rfl, rfl, rfl, rfl⟩ (fun a29 => [(0, .v (.agg (cl45 x0 a3 c4 a7 c8 a11 c12).toArray)), (1, .v (.slice a15 x1.length c16)), (4, .bp 6 0), (5, .ep ⟨a29, 1, 1⟩ 0), (8, .v (.agg (cl45 x0 a3 c4 a7 c8 a11 c12).toArray)), (9, .v (.bool y19)), (10, .v (.bool (!y19))), (12, .v (.agg (cl45 x0 a3 c4 a7 c8 a11 c12).toArray)), (13, .v (.agg (cl45 y21 a23 c24 a25 c26 a27 c28).toArray)), (14, .v (.slice a15 x1.length c16)), (15, .v (.int .i64 (x1.length : Int))), (16, .v (.int .i64 0))]) (fun _ => ⟨rfl, rfl, rfl, rfl, rfl, rfl, rfl, rfl, rfl, rfl, rfl, rfl, trivial⟩) fun a29 => ?_)))))))
    obtain ⟨j96, hj103, h⟩ := joinO_some h
    refine JS.blockJ (ι := Int × Int × List Int × Int × Int × Bool × Int × List Int × List UInt8 × Int × Option Addr × Nat × Option Addr × Nat × Option Addr × Nat) ⟨fun z => j96 (z.1, z.2.1, z.2.2.1, z.2.2.2.1, z.2.2.2.2.1, z.2.2.2.2.2.1, z.2.2.2.2.2.2.1, z.2.2.2.2.2.2.2.1, z.2.2.2.2.2.2.2.2.1, z.2.2.2.2.2.2.2.2.2.1) = some r, fun z => [(4, .bp 6 0), (5, .ep ⟨a29, 1, 1⟩ 0)], fun z => (.new 6 45 (cl45 ((0, 0, [], 0, 0, false), 0, [], [], 0) none 0 none 0 none 0) .nil), fun z => [], fun z => [⟨(.int .i64), ⟨z.2.2.2.2.2.2.2.2.2.2.1, z.2.2.1.length, z.2.2.2.2.2.2.2.2.2.2.2.1⟩, z.2.2.1⟩, ⟨(.int .i64), ⟨z.2.2.2.2.2.2.2.2.2.2.2.2.1, z.2.2.2.2.2.2.2.1.length, z.2.2.2.2.2.2.2.2.2.2.2.2.2.1⟩, z.2.2.2.2.2.2.2.1⟩, ⟨.byte, ⟨z.2.2.2.2.2.2.2.2.2.2.2.2.2.2.1, z.2.2.2.2.2.2.2.2.1.length, z.2.2.2.2.2.2.2.2.2.2.2.2.2.2.2⟩, z.2.2.2.2.2.2.2.2.1⟩, ⟨(.pair (.pair (.int .i64) (.pair (.int .i64) (.pair .val (.pair (.int .i64) (.pair (.int .i64) .bool))))) (.pair (.int .i64) (.pair .val (.pair .val (.int .i64))))), ⟨a29, 1, 1⟩, [((z.1, z.2.1, (Sl.v ⟨z.2.2.2.2.2.2.2.2.2.2.1, z.2.2.1.length, z.2.2.2.2.2.2.2.2.2.2.2.1⟩), z.2.2.2.1, z.2.2.2.2.1, z.2.2.2.2.2.1), z.2.2.2.2.2.2.1, (Sl.v ⟨z.2.2.2.2.2.2.2.2.2.2.2.2.1, z.2.2.2.2.2.2.2.1.length, z.2.2.2.2.2.2.2.2.2.2.2.2.2.1⟩), (Sl.v ⟨z.2.2.2.2.2.2.2.2.2.2.2.2.2.2.1, z.2.2.2.2.2.2.2.2.1.length, z.2.2.2.2.2.2.2.2.2.2.2.2.2.2.2⟩), z.2.2.2.2.2.2.2.2.2.1)]⟩], fun z => 0⟩ ?_ ?_
    · refine JS.loop (ι := Nat × Int × Int × Int × List Int × Int × Int × Bool × Int × List Int × List UInt8 × Int × Option Addr × Nat × Option Addr × Nat × Option Addr × Nat) ⟨fun z => fixF (M_i_VtFeed_L1 x1 j96) z.1 (z.2.1, z.2.2.1, z.2.2.2.1, z.2.2.2.2.1, z.2.2.2.2.2.1, z.2.2.2.2.2.2.1, z.2.2.2.2.2.2.2.1, z.2.2.2.2.2.2.2.2.1, z.2.2.2.2.2.2.2.2.2.1, z.2.2.2.2.2.2.2.2.2.2.1, z.2.2.2.2.2.2.2.2.2.2.2.1) = some r, fun z => [(4, .bp 6 0), (5, .ep ⟨a29, 1, 1⟩ 0), (14, .v (.slice a15 x1.length c16)), (15, .v (.int .i64 (x1.length : Int))), (16, .v (.int .i64 z.2.1))], fun z => (.new 6 45 (cl45 ((0, 0, [], 0, 0, false), 0, [], [], 0) none 0 none 0 none 0) .nil), fun z => [⟨.byte, ⟨a15, x1.length, c16⟩, x1⟩], fun z => [⟨(.int .i64), ⟨z.2.2.2.2.2.2.2.2.2.2.2.2.1, z.2.2.2.2.1.length, z.2.2.2.2.2.2.2.2.2.2.2.2.2.1⟩, z.2.2.2.2.1⟩, ⟨(.int .i64), ⟨z.2.2.2.2.2.2.2.2.2.2.2.2.2.2.1, z.2.2.2.2.2.2.2.2.2.1.length, z.2.2.2.2.2.2.2.2.2.2.2.2.2.2.2.1⟩, z.2.2.2.2.2.2.2.2.2.1⟩, ⟨.byte, ⟨z.2.2.2.2.2.2.2.2.2.2.2.2.2.2.2.2.1, z.2.2.2.2.2.2.2.2.2.2.1.length, z.2.2.2.2.2.2.2.2.2.2.2.2.2.2.2.2.2⟩, z.2.2.2.2.2.2.2.2.2.2.1⟩, ⟨(.pair (.pair (.int .i64) (.pair (.int .i64) (.pair .val (.pair (.int .i64) (.pair (.int .i64) .bool))))) (.pair (.int .i64) (.pair .val (.pair .val (.int .i64))))), ⟨a29, 1, 1⟩, [((z.2.2.1, z.2.2.2.1, (Sl.v ⟨z.2.2.2.2.2.2.2.2.2.2.2.2.1, z.2.2.2.2.1.length, z.2.2.2.2.2.2.2.2.2.2.2.2.2.1⟩), z.2.2.2.2.2.1, z.2.2.2.2.2.2.1, z.2.2.2.2.2.2.2.1), z.2.2.2.2.2.2.2.2.1, (Sl.v ⟨z.2.2.2.2.2.2.2.2.2.2.2.2.2.2.1, z.2.2.2.2.2.2.2.2.2.1.length, z.2.2.2.2.2.2.2.2.2.2.2.2.2.2.2.1⟩), (Sl.v ⟨z.2.2.2.2.2.2.2.2.2.2.2.2.2.2.2.2.1, z.2.2.2.2.2.2.2.2.2.2.1.length, z.2.2.2.2.2.2.2.2.2.2.2.2.2.2.2.2.2⟩), z.2.2.2.2.2.2.2.2.2.2.2.1)]⟩], fun z => z.1⟩ (FUEL, 0, y21.1.1, y21.1.2.1, y21.1.2.2.1, y21.1.2.2.2.1, y21.1.2.2.2.2.1, y21.1.2.2.2.2.2, y21.2.1, y21.2.2.1, y21.2.2.2.1, y21.2.2.2.2, a23, c24, a25, c26, a27, c28) h ⟨rfl, rfl, rfl, rfl, rfl, trivial⟩ ⟨rfl, rfl, rfl, rfl, trivial⟩ [3] rfl [1, 1, 1, 0] rfl ?_
      rintro ⟨n77, x30, x47, x48, x49, x52, x53, x54, x55, x56, x59, x62, a50, c51, a57, c58, a60, c61⟩ h
      obtain ⟨n77, rfl, h⟩ := fixF_some h
      rw [M_i_VtFeed_L1] at h
      refine JS.seq (JS.region (JO.reg ttOk 1 [] [] [(17, .v (.bool (decide (x30 < (x1.length : Int)))))] _ rfl ⟨⟨rfl, trivial⟩, rfl⟩ (JO.done rfl (JS.seq ?_))))
      refine JS.cond rfl (fun ht102 => ?_) (fun ht102 => ?_)
      · have h := condT h ht102
        refine JS.skip (JS.seq (JS.block (JS.seq (JS.region (JO.know 0 rfl fun hs101 => ?_)))))
        obtain ⟨g64, h⟩ := guardO_some h
        refine JO.reg ttOk 1 [] [] [(18, .ep ⟨a15, x1.length, c16⟩ (Int.toNat x30 * 1))] _ rfl ⟨hs101.ix g64, ⟨rfl, trivial⟩, rfl⟩ (JO.load ttOk rfl rfl rfl rfl rfl rfl rfl 0 rfl rfl (Int.toNat x30) 0 (at' x1 x30) ⟨at_some g64, rfl⟩ rfl rfl (JO.reg ttOk 1 [] [] [(7, .v (.int .u8 ((at' x1 x30).toNat : Int)))] _ rfl ⟨⟨rfl, trivial⟩, rfl⟩ (JO.done rfl (JS.region (JO.reg ttOk 2 [((at' x1 x30).toNat : Int)] [] [(21, .v (.int .i64 ((at' x1 x30).toNat : Int)))] _ rfl ⟨⟨trivial, W_byte _⟩, ⟨rfl, trivial⟩, rfl⟩ ?_)))))
        obtain ⟨y65, hy66, h⟩ := bindO_some h
        refine JO.callX rfl rfl rfl rfl (ok_i_Vt_step ((x47, x48, x49, x52, x53, x54), x55, x56, x59, x62) ((at' x1 x30).toNat : Int) a29 a50 c51 x49.length rfl a57 c58 x56.length rfl a60 c61 x59.length rfl _ hy66) rfl [3, 0, 0, 0] rfl [] rfl rfl ?_
        rintro ⟨a67, c68, a69, c70, a71, c72⟩ -
        refine JO.done rfl (JS.endB (JS.region (JO.reg ttOk 2 [(W (x30 + 1))] [] [(16, .v (.int .i64 (W (x30 + 1))))] _ rfl ⟨⟨trivial, rfl⟩, ⟨rfl, trivial⟩, rfl⟩ (JO.done rfl (JS.endLA (n77, (W (x30 + 1)), y65.1.1, y65.1.2.1, y65.1.2.2.1, y65.1.2.2.2.1, y65.1.2.2.2.2.1, y65.1.2.2.2.2.2, y65.2.1, y65.2.2.1, y65.2.2.2.1, y65.2.2.2.2, a67, c68, a69, c70, a71, c72) h (Nat.lt_succ_self _) ⟨rfl, rfl, rfl, rfl, rfl, trivial⟩ ⟨rfl, rfl, rfl, rfl, trivial⟩ [0] rfl [1, 2, 3, 0] rfl rfl)))))
      have h := condF h ht102
      refine JS.exit rfl (JS.endJA (x47, x48, x49, x52, x53, x54, x55, x56, x59, x62, a50, c51, a57, c58, a60, c61) h ⟨rfl, rfl, trivial⟩ ⟨rfl, rfl, rfl, rfl, trivial⟩ [] rfl [0, 1, 2, 3] rfl rfl)
    rintro ⟨x80, x81, x82, x85, x86, x87, x88, x89, x92, x95, a83, c84, a90, c91, a93, c94⟩ h
    subst hj103
    refine JS.seq (JS.region (JO.loadV ttOk rfl rfl rfl rfl rfl rfl 3 rfl rfl 0 0 ((x80, x81, (Sl.v ⟨a83, x82.length, c84⟩), x85, x86, x87), x88, (Sl.v ⟨a90, x89.length, c91⟩), (Sl.v ⟨a93, x92.length, c94⟩), x95) ⟨rfl, rfl⟩ rfl rfl rfl (JO.regB ttOk 1 [] [] [] (.new 6 45 (cl45 ((x80, x81, x82, x85, x86, x87), x88, x89, x92, x95) a83 c84 a90 c91 a93 c94) .nil) rfl ⟨trivial, ⟨rfl, rfl, rfl, rfl, trivial⟩⟩ (JO.done rfl ?_))))
    cases h
    exact JS.ret ttOk (a83, c84, a90, c91, a93, c94) trivial rfl rfl [0, 0, 0] rfl

def M_l_eqIntS_L1 (x0 : List Int) (x1 : List Int) (j28 : Unit → Option Bool) (k20 : Int → Option Bool) : Int → Option Bool := fun x11 =>
  (bif (decide (x11 < (x0.length : Int))) then
  (guardO (0 ≤ x11 ∧ x11 < (x0.length : Int)) <|
  (guardO (0 ≤ x11 ∧ x11 < (x1.length : Int)) <|
  (bif (!(decide ((at' x0 x11) = (at' x1 x11)))) then
  some false
  else
  k20 (W (x11 + 1)))))
  else
  j28 ())

def M_l_eqIntS (x0 : List Int) (x1 : List Int) : Option Bool :=
  (bif (!(decide ((x0.length : Int) = (x1.length : Int)))) then
  some false
  else
  (joinO (fun (_ : Unit) =>
  some true) fun j28 =>
  (fixF (M_l_eqIntS_L1 x0 x1 j28) FUEL 0)))

theorem ok_l_eqIntS (x0 : List Int) (x1 : List Int) (a3 : Option Addr) (c4 : Nat) (l5 : Nat) (hl6 : x0.length = l5) (a7 : Option Addr) (c8 : Nat) (l9 : Nat) (hl10 : x1.length = l9) (r : Bool) (h : M_l_eqIntS x0 x1 = some r) :
    FC Try.prog 54 [.slice a3 l5 c4, .slice a7 l9 c8] [⟨(.int .i64), ⟨a3, l5, c4⟩, x0⟩, ⟨(.int .i64), ⟨a7, l9, c8⟩, x1⟩] (fun _ : Unit => True) (fun _ => .bool r) (fun _ => []) :=
  by
    subst hl6
    subst hl10
    refine FC.of (T := TTx) Try.call54 Try.func54 rfl rfl fun w0 => ?_
    unfold M_l_eqIntS at h
    refine JS.seq (JS.region (JO.reg ttOk 1 [] [] [] _ rfl ⟨trivial, rfl⟩ (JO.done rfl (JS.seq (JS.seq (JS.region (JO.reg ttOk 5 [] [] [(10, .v (.bool (!(decide ((x0.length : Int) = (x1.length : Int))))))] _ rfl ⟨⟨rfl, trivial⟩, rfl⟩ (JO.done rfl ?_))))))))
    refine JS.cond rfl (fun ht44 => ?_) (fun ht44 => ?_)
    · have h := condT h ht44
      refine JS.seq (JS.region (JO.reg ttOk 1 [] [] [(4, .v (.bool false))] _ rfl ⟨⟨rfl, trivial⟩, rfl⟩ (JO.done rfl ?_)))
      cases h
      exact JS.ret ttOk () trivial rfl rfl [] rfl
    have h := condF h ht44
    refine JS.skip (JS.seq (JS.seq (JS.region (JO.reg ttOk 1 [] [] [(5, .v (.int .i64 0))] _ rfl ⟨⟨rfl, trivial⟩, rfl⟩ (JO.done rfl ?_)))))
    obtain ⟨j28, hj43, h⟩ := joinO_some h
    refine JS.blockJ (ι := Unit) ⟨fun _ => j28 () = some r, fun _ => [], fun _ => .nil, fun _ => [], fun _ => [], fun _ => 0⟩ ?_ ?_
    · refine JS.loop (ι := Nat × Int) ⟨fun z => fixF (M_l_eqIntS_L1 x0 x1 j28) z.1 z.2 = some r, fun z => [(0, .v (.slice a3 x0.length c4)), (1, .v (.slice a7 x1.length c8)), (5, .v (.int .i64 z.2))], fun z => .nil, fun z => [⟨(.int .i64), ⟨a3, x0.length, c4⟩, x0⟩, ⟨(.int .i64), ⟨a7, x1.length, c8⟩, x1⟩], fun z => [], fun z => z.1⟩ (FUEL, 0) h ⟨rfl, rfl, rfl, trivial⟩ trivial [0, 1] rfl [] rfl ?_
      rintro ⟨n21, x11⟩ h
      obtain ⟨n21, rfl, h⟩ := fixF_some h
      rw [M_l_eqIntS_L1] at h
      refine JS.seq (JS.seq (JS.region (JO.reg ttOk 4 [] [] [(14, .v (.bool (decide (x11 < (x0.length : Int)))))] _ rfl ⟨⟨rfl, trivial⟩, rfl⟩ (JO.done rfl ?_))))
      refine JS.cond rfl (fun ht42 => ?_) (fun ht42 => ?_)
      · have h := condT h ht42
        refine JS.skip (JS.seq (JS.block (JS.seq ?_)))
        obtain ⟨g13, h⟩ := guardO_some h
        obtain ⟨g15, h⟩ := guardO_some h
        refine JS.know 0 rfl fun hs39 => JS.know 1 rfl fun hs40 => JS.regionQ rfl (by kernel_rfl) (JQ.reg ttOk 3 [] [(19, .ep ⟨a3, x0.length, c4⟩ (Int.toNat x11 * 1))] rfl ⟨hs39.ix g13, ⟨rfl, trivial⟩⟩ (JQ.load ttOk rfl rfl rfl rfl rfl rfl rfl 0 rfl rfl (Int.toNat x11) 0 (at' x0 x11) ⟨at_some g13, rfl⟩ rfl rfl (JQ.reg ttOk 3 [] [(23, .ep ⟨a7, x1.length, c8⟩ (Int.toNat x11 * 1))] rfl ⟨hs40.ix g15, ⟨rfl, trivial⟩⟩ (JQ.load ttOk rfl rfl rfl rfl rfl rfl rfl 1 rfl rfl (Int.toNat x11) 0 (at' x1 x11) ⟨at_some g15, rfl⟩ rfl rfl (JQ.reg ttOk 1 [] [(25, .v (.bool (!(decide ((at' x0 x11) = (at' x1 x11))))))] rfl ⟨rfl, trivial⟩ (JQ.done rfl ?_))))))
        refine JS.cond rfl (fun ht41 => ?_) (fun ht41 => ?_)
        · have h := condT h ht41
          refine JS.seq (JS.region (JO.reg ttOk 1 [] [] [(4, .v (.bool false))] _ rfl ⟨⟨rfl, trivial⟩, rfl⟩ (JO.done rfl ?_)))
          cases h
          exact JS.ret ttOk () trivial rfl rfl [] rfl
        have h := condF h ht41
        refine JS.skip (JS.endB (JS.region (JO.reg ttOk 3 [(W (x11 + 1))] [] [(5, .v (.int .i64 (W (x11 + 1))))] _ rfl ⟨⟨trivial, rfl⟩, ⟨rfl, trivial⟩, rfl⟩ (JO.done rfl (JS.endL (n21, (W (x11 + 1))) h (Nat.lt_succ_self _) ⟨rfl, rfl, rfl, trivial⟩ trivial [0, 1] rfl [] rfl)))))
      have h := condF h ht42
      refine JS.exit rfl (JS.endJ () h trivial trivial [] rfl [] rfl)
    rintro _ h
    subst hj43
    refine JS.seq (JS.region (JO.reg ttOk 1 [] [] [(4, .v (.bool true))] _ rfl ⟨⟨rfl, trivial⟩, rfl⟩ (JO.done rfl ?_)))
    cases h
    exact JS.ret ttOk () trivial rfl rfl [] rfl

def M_l_eqGrid (x0 : Int × Int × List Int × Int × Int × Bool) (x1 : Int × Int × List Int × Int × Int × Bool) : Option Bool :=
  (bif (!(decide (x0.1 = x1.1))) then
  some false
  else
  (bif (!(decide (x0.2.1 = x1.2.1))) then
  some false
  else
  (bindO (M_l_eqIntS x0.2.2.1 x1.2.2.1) fun (y11 : Bool) =>
  (bif (!y11) then
  some false
  else
  (bif (!(decide (x0.2.2.2.1 = x1.2.2.2.1))) then
  some false
  else
  (bif (!(decide (x0.2.2.2.2.1 = x1.2.2.2.2.1))) then
  some false
  else
  (bif (!(x0.2.2.2.2.2 == x1.2.2.2.2.2)) then
  some false
  else
  some true)))))))

theorem ok_l_eqGrid (x0 : Int × Int × List Int × Int × Int × Bool) (x1 : Int × Int × List Int × Int × Int × Bool) (a3 : Option Addr) (c4 : Nat) (l5 : Nat) (hl6 : x0.2.2.1.length = l5) (a7 : Option Addr) (c8 : Nat) (l9 : Nat) (hl10 : x1.2.2.1.length = l9) (r : Bool) (h : M_l_eqGrid x0 x1 = some r) :
    FC Try.prog 13 [.agg #[.int .i64 x0.1, .int .i64 x0.2.1, .slice a3 l5 c4, .int .i64 x0.2.2.2.1, .int .i64 x0.2.2.2.2.1, .bool x0.2.2.2.2.2], .agg #[.int .i64 x1.1, .int .i64 x1.2.1, .slice a7 l9 c8, .int .i64 x1.2.2.2.1, .int .i64 x1.2.2.2.2.1, .bool x1.2.2.2.2.2]] [⟨(.int .i64), ⟨a3, l5, c4⟩, x0.2.2.1⟩, ⟨(.int .i64), ⟨a7, l9, c8⟩, x1.2.2.1⟩] (fun _ : Unit => True) (fun _ => .bool r) (fun _ => []) :=
  by
    subst hl6
    subst hl10
    refine FC.of (T := TTx) Try.call13 Try.func13 rfl rfl fun w0 => ?_
    unfold M_l_eqGrid at h
    refine JS.seq (JS.region (JO.regB ttOk 3 [] [3, 4] [(2, .bp 3 0), (3, .bp 4 0)] (.new 3 26 (cl26 x0 a3 c4) (.new 4 26 (cl26 x1 a7 c8) .nil)) rfl ⟨⟨rfl, rfl, trivial⟩, ⟨rfl, rfl, rfl, rfl, rfl, rfl, rfl, rfl, trivial⟩⟩ (JO.done rfl (JS.seq (JS.seq (JS.region (JO.reg ttOk 5 [] [] [(9, .v (.bool (!(decide (x0.1 = x1.1)))))] _ rfl ⟨⟨rfl, trivial⟩, rfl⟩ (JO.done rfl ?_))))))))
    refine JS.cond rfl (fun ht24 => ?_) (fun ht24 => ?_)
    · have h := condT h ht24
      refine JS.seq (JS.region (JO.reg ttOk 1 [] [] [(4, .v (.bool false))] _ rfl ⟨⟨rfl, trivial⟩, rfl⟩ (JO.done rfl ?_)))
      cases h
      exact JS.ret ttOk () trivial rfl rfl [] rfl
    have h := condF h ht24
    refine JS.skip (JS.seq (JS.seq (JS.region (JO.reg ttOk 5 [] [] [(14, .v (.bool (!(decide (x0.2.1 = x1.2.1)))))] _ rfl ⟨⟨rfl, trivial⟩, rfl⟩ (JO.done rfl ?_)))))
    refine JS.cond rfl (fun ht23 => ?_) (fun ht23 => ?_)
    · have h := condT h ht23
      refine JS.seq (JS.region (JO.reg ttOk 1 [] [] [(4, .v (.bool false))] _ rfl ⟨⟨rfl, trivial⟩, rfl⟩ (JO.done rfl ?_)))
      cases h
      exact JS.ret ttOk () trivial rfl rfl [] rfl
    have h := condF h ht23
    refine JS.skip (JS.seq (JS.seq (JS.region (JO.reg ttOk 4 [] [] [(16, .v (.slice a3 x0.2.2.1.length c4)), (18, .v (.slice a7 x1.2.2.1.length c8))] _ rfl ⟨⟨rfl, rfl, trivial⟩, rfl⟩ ?_))))
    obtain ⟨y11, hy12, h⟩ := bindO_some h
    refine JO.call rfl rfl rfl rfl (ok_l_eqIntS x0.2.2.1 x1.2.2.1 a3 c4 x0.2.2.1.length rfl a7 c8 x1.2.2.1.length rfl _ hy12) rfl [0, 1] rfl rfl fun _ _ => JO.reg ttOk 1 [] [] [(20, .v (.bool (!y11)))] _ rfl ⟨⟨rfl, trivial⟩, rfl⟩ (JO.done rfl ?_)
    refine JS.cond rfl (fun ht22 => ?_) (fun ht22 => ?_)
    · have h := condT h ht22
      refine JS.seq (JS.region (JO.reg ttOk 1 [] [] [(4, .v (.bool false))] _ rfl ⟨⟨rfl, trivial⟩, rfl⟩ (JO.done rfl ?_)))
      cases h
      exact JS.ret ttOk () trivial rfl rfl [] rfl
    have h := condF h ht22
    refine JS.skip (JS.seq (JS.seq (JS.region (JO.reg ttOk 5 [] [] [(25, .v (.bool (!(decide (x0.2.2.2.1 = x1.2.2.2.1)))))] _ rfl ⟨⟨rfl, trivial⟩, rfl⟩ (JO.done rfl ?_)))))
    refine JS.cond rfl (fun ht21 => ?_) (fun ht21 => ?_)
    · have h := condT h ht21
      refine JS.seq (JS.region (JO.reg ttOk 1 [] [] [(4, .v (.bool false))] _ rfl ⟨⟨rfl, trivial⟩, rfl⟩ (JO.done rfl ?_)))
      cases h
      exact JS.ret ttOk () trivial rfl rfl [] rfl
    have h := condF h ht21
    refine JS.skip (JS.seq (JS.seq (JS.region (JO.reg ttOk 5 [] [] [(30, .v (.bool (!(decide (x0.2.2.2.2.1 = x1.2.2.2.2.1)))))] _ rfl ⟨⟨rfl, trivial⟩, rfl⟩ (JO.done rfl ?_)))))
    refine JS.cond rfl (fun ht20 => ?_) (fun ht20 => ?_)
    · have h := condT h ht20
      refine JS.seq (JS.region (JO.reg ttOk 1 [] [] [(4, .v (.bool false))] _ rfl ⟨⟨rfl, trivial⟩, rfl⟩ (JO.done rfl ?_)))
      cases h
      exact JS.ret ttOk () trivial rfl rfl [] rfl
    have h := condF h ht20
    refine JS.skip (JS.seq (JS.seq (JS.region (JO.reg ttOk 5 [] [] [(35, .v (.bool (!(x0.2.2.2.2.2 == x1.2.2.2.2.2))))] _ rfl ⟨⟨rfl, trivial⟩, rfl⟩ (JO.done rfl ?_)))))
    refine JS.cond rfl (fun ht19 => ?_) (fun ht19 => ?_)
    · have h := condT h ht19
      refine JS.seq (JS.region (JO.reg ttOk 1 [] [] [(4, .v (.bool false))] _ rfl ⟨⟨rfl, trivial⟩, rfl⟩ (JO.done rfl ?_)))
      cases h
      exact JS.ret ttOk () trivial rfl rfl [] rfl
    have h := condF h ht19
    refine JS.skip (JS.seq (JS.region (JO.reg ttOk 1 [] [] [(4, .v (.bool true))] _ rfl ⟨⟨rfl, trivial⟩, rfl⟩ (JO.done rfl ?_))))
    cases h
    exact JS.ret ttOk () trivial rfl rfl [] rfl

def M_l_eqByteS_L1 (x0 : List UInt8) (x1 : List UInt8) (j28 : Unit → Option Bool) (k20 : Int → Option Bool) : Int → Option Bool := fun x11 =>
  (bif (decide (x11 < (x0.length : Int))) then
  (guardO (0 ≤ x11 ∧ x11 < (x0.length : Int)) <|
  (guardO (0 ≤ x11 ∧ x11 < (x1.length : Int)) <|
  (bif (!(decide (((at' x0 x11).toNat : Int) = ((at' x1 x11).toNat : Int)))) then
  some false
  else
  k20 (W (x11 + 1)))))
  else
  j28 ())

def M_l_eqByteS (x0 : List UInt8) (x1 : List UInt8) : Option Bool :=
  (bif (!(decide ((x0.length : Int) = (x1.length : Int)))) then
  some false
  else
  (joinO (fun (_ : Unit) =>
  some true) fun j28 =>
  (fixF (M_l_eqByteS_L1 x0 x1 j28) FUEL 0)))

theorem ok_l_eqByteS (x0 : List UInt8) (x1 : List UInt8) (a3 : Option Addr) (c4 : Nat) (l5 : Nat) (hl6 : x0.length = l5) (a7 : Option Addr) (c8 : Nat) (l9 : Nat) (hl10 : x1.length = l9) (r : Bool) (h : M_l_eqByteS x0 x1 = some r) :
    FC Try.prog 42 [.slice a3 l5 c4, .slice a7 l9 c8] [⟨.byte, ⟨a3, l5, c4⟩, x0⟩, ⟨.byte, ⟨a7, l9, c8⟩, x1⟩] (fun _ : Unit => True) (fun _ => .bool r) (fun _ => []) :=
  by
    subst hl6
    subst hl10
    refine FC.of (T := TTx) Try.call42 Try.func42 rfl rfl fun w0 => ?_
    unfold M_l_eqByteS at h
    refine JS.seq (JS.region (JO.reg ttOk 1 [] [] [] _ rfl ⟨trivial, rfl⟩ (JO.done rfl (JS.seq (JS.seq (JS.region (JO.reg ttOk 5 [] [] [(10, .v (.bool (!(decide ((x0.length : Int) = (x1.length : Int))))))] _ rfl ⟨⟨rfl, trivial⟩, rfl⟩ (JO.done rfl ?_))))))))
    refine JS.cond rfl (fun ht44 => ?_) (fun ht44 => ?_)
    · have h := condT h ht44
      refine JS.seq (JS.region (JO.reg ttOk 1 [] [] [(4, .v (.bool false))] _ rfl ⟨⟨rfl, trivial⟩, rfl⟩ (JO.done rfl ?_)))
      cases h
      exact JS.ret ttOk () trivial rfl rfl [] rfl
    have h := condF h ht44
    refine JS.skip (JS.seq (JS.seq (JS.region (JO.reg ttOk 1 [] [] [(5, .v (.int .i64 0))] _ rfl ⟨⟨rfl, trivial⟩, rfl⟩ (JO.done rfl ?_)))))
    obtain ⟨j28, hj43, h⟩ := joinO_some h
    refine JS.blockJ (ι := Unit) ⟨fun _ => j28 () = some r, fun _ => [], fun _ => .nil, fun _ => [], fun _ => [], fun _ => 0⟩ ?_ ?_
    · refine JS.loop (ι := Nat × Int) ⟨fun z => fixF (M_l_eqByteS_L1 x0 x1 j28) z.1 z.2 = some r, fun z => [(0, .v (.slice a3 x0.length c4)), (1, .v (.slice a7 x1.length c8)), (5, .v (.int .i64 z.2))], fun z => .nil, fun z => [⟨.byte, ⟨a3, x0.length, c4⟩, x0⟩, ⟨.byte, ⟨a7, x1.length, c8⟩, x1⟩], fun z => [], fun z => z.1⟩ (FUEL, 0) h ⟨rfl, rfl, rfl, trivial⟩ trivial [0, 1] rfl [] rfl ?_
      rintro ⟨n21, x11⟩ h
      obtain ⟨n21, rfl, h⟩ := fixF_some h
      rw [M_l_eqByteS_L1] at h
      refine JS.seq (JS.seq (JS.region (JO.reg ttOk 4 [] [] [(14, .v (.bool (decide (x11 < (x0.length : Int)))))] _ rfl ⟨⟨rfl, trivial⟩, rfl⟩ (JO.done rfl ?_))))
      refine JS.cond rfl (fun ht42 => ?_) (fun ht42 => ?_)
      · have h := condT h ht42
        refine JS.skip (JS.seq (JS.block (JS.seq ?_)))
        obtain ⟨g13, h⟩ := guardO_some h
        obtain ⟨g15, h⟩ := guardO_some h
        refine JS.know 0 rfl fun hs39 => JS.know 1 rfl fun hs40 => JS.regionQ rfl (by kernel_rfl) (JQ.reg ttOk 3 [] [(19, .ep ⟨a3, x0.length, c4⟩ (Int.toNat x11 * 1))] rfl ⟨hs39.ix g13, ⟨rfl, trivial⟩⟩ (JQ.load ttOk rfl rfl rfl rfl rfl rfl rfl 0 rfl rfl (Int.toNat x11) 0 (at' x0 x11) ⟨at_some g13, rfl⟩ rfl rfl (JQ.reg ttOk 3 [] [(23, .ep ⟨a7, x1.length, c8⟩ (Int.toNat x11 * 1))] rfl ⟨hs40.ix g15, ⟨rfl, trivial⟩⟩ (JQ.load ttOk rfl rfl rfl rfl rfl rfl rfl 1 rfl rfl (Int.toNat x11) 0 (at' x1 x11) ⟨at_some g15, rfl⟩ rfl rfl (JQ.reg ttOk 1 [] [(25, .v (.bool (!(decide (((at' x0 x11).toNat : Int) = ((at' x1 x11).toNat : Int))))))] rfl ⟨rfl, trivial⟩ (JQ.done rfl ?_))))))
        refine JS.cond rfl (fun ht41 => ?_) (fun ht41 => ?_)
        · have h := condT h ht41
          refine JS.seq (JS.region (JO.reg ttOk 1 [] [] [(4, .v (.bool false))] _ rfl ⟨⟨rfl, trivial⟩, rfl⟩ (JO.done rfl ?_)))
          cases h
          exact JS.ret ttOk () trivial rfl rfl [] rfl
        have h := condF h ht41
        refine JS.skip (JS.endB (JS.region (JO.reg ttOk 3 [(W (x11 + 1))] [] [(5, .v (.int .i64 (W (x11 + 1))))] _ rfl ⟨⟨trivial, rfl⟩, ⟨rfl, trivial⟩, rfl⟩ (JO.done rfl (JS.endL (n21, (W (x11 + 1))) h (Nat.lt_succ_self _) ⟨rfl, rfl, rfl, trivial⟩ trivial [0, 1] rfl [] rfl)))))
      have h := condF h ht42
      refine JS.exit rfl (JS.endJ () h trivial trivial [] rfl [] rfl)
    rintro _ h
    subst hj43
    refine JS.seq (JS.region (JO.reg ttOk 1 [] [] [(4, .v (.bool true))] _ rfl ⟨⟨rfl, trivial⟩, rfl⟩ (JO.done rfl ?_)))
    cases h
    exact JS.ret ttOk () trivial rfl rfl [] rfl

def M_l_eqVt (x0 : (Int × Int × List Int × Int × Int × Bool) × Int × List Int × List UInt8 × Int) (x1 : (Int × Int × List Int × Int × Int × Bool) × Int × List Int × List UInt8 × Int) : Option Bool :=
  (bindO (M_l_eqGrid x0.1 x1.1) fun (y27 : Bool) =>
  (bif (!y27) then
  some false
  else
  (bif (!(decide (x0.2.1 = x1.2.1))) then
  some false
  else
  (bindO (M_l_eqIntS x0.2.2.1 x1.2.2.1) fun (y29 : Bool) =>
  (bif (!y29) then
  some false
  else
  (bindO (M_l_eqByteS x0.2.2.2.1 x1.2.2.2.1) fun (y31 : Bool) =>
  (bif (!y31) then
  some false
  else
  (bif (!(decide (x0.2.2.2.2 = x1.2.2.2.2))) then
  some false
  else
  some true))))))))

theorem ok_l_eqVt (x0 : (Int × Int × List Int × Int × Int × Bool) × Int × List Int × List UInt8 × Int) (x1 : (Int × Int × List Int × Int × Int × Bool) × Int × List Int × List UInt8 × Int) (a3 : Option Addr) (c4 : Nat) (l5 : Nat) (hl6 : x0.1.2.2.1.length = l5) (a7 : Option Addr) (c8 : Nat) (l9 : Nat) (hl10 : x0.2.2.1.length = l9) (a11 : Option Addr) (c12 : Nat) (l13 : Nat) (hl14 : x0.2.2.2.1.length = l13) (a15 : Option Addr) (c16 : Nat) (l17 : Nat) (hl18 : x1.1.2.2.1.length = l17) (a19 : Option Addr) (c20 : Nat) (l21 : Nat) (hl22 : x1.2.2.1.length = l21) (a23 : Option Addr) (c24 : Nat) (l25 : Nat) (hl26 : x1.2.2.2.1.length = l25) (r : Bool) (h : M_l_eqVt x0 x1 = some r) :
    FC Try.prog 37 [.agg #[.int .i64 x0.1.1, .int .i64 x0.1.2.1, .slice a3 l5 c4, .int .i64 x0.1.2.2.2.1, .int .i64 x0.1.2.2.2.2.1, .bool x0.1.2.2.2.2.2, .int .i64 x0.2.1, .slice a7 l9 c8, .slice a11 l13 c12, .int .i64 x0.2.2.2.2], .agg #[.int .i64 x1.1.1, .int .i64 x1.1.2.1, .slice a15 l17 c16, .int .i64 x1.1.2.2.2.1, .int .i64 x1.1.2.2.2.2.1, .bool x1.1.2.2.2.2.2, .int .i64 x1.2.1, .slice a19 l21 c20, .slice a23 l25 c24, .int .i64 x1.2.2.2.2]] [⟨(.int .i64), ⟨a3, l5, c4⟩, x0.1.2.2.1⟩, ⟨(.int .i64), ⟨a7, l9, c8⟩, x0.2.2.1⟩, ⟨.byte, ⟨a11, l13, c12⟩, x0.2.2.2.1⟩, ⟨(.int .i64), ⟨a15, l17, c16⟩, x1.1.2.2.1⟩, ⟨(.int .i64), ⟨a19, l21, c20⟩, x1.2.2.1⟩, ⟨.byte, ⟨a23, l25, c24⟩, x1.2.2.2.1⟩] (fun _ : Unit => True) (fun _ => .bool r) (fun _ => []) :=
  by
    subst hl6
    subst hl10
    subst hl14
    subst hl18
    subst hl22
    subst hl26
    refine FC.of (T := TTx) Try.call37 Try.func37 rfl rfl fun w0 => ?_
    unfold M_l_eqVt at h
    refine JS.seq (JS.region (JO.regB ttOk 3 [] [7, 8] [(2, .bp 7 0), (3, .bp 8 0)] (.new 7 45 (cl45 x0 a3 c4 a7 c8 a11 c12) (.new 8 45 (cl45 x1 a15 c16 a19 c20 a23 c24) .nil)) rfl ⟨⟨rfl, rfl, trivial⟩, ⟨rfl, rfl, rfl, rfl, rfl, rfl, rfl, rfl, trivial⟩⟩ (JO.done rfl (JS.seq (JS.seq (JS.region (JO.reg ttOk 4 [] [] [(6, .v (.agg (cl26 x0.1 a3 c4).toArray)), (8, .v (.agg (cl26 x1.1 a15 c16).toArray))] _ rfl ⟨⟨rfl, rfl, trivial⟩, rfl⟩ ?_)))))))
    obtain ⟨y27, hy28, h⟩ := bindO_some h
    refine JO.call rfl rfl rfl rfl (ok_l_eqGrid x0.1 x1.1 a3 c4 x0.1.2.2.1.length rfl a15 c16 x1.1.2.2.1.length rfl _ hy28) rfl [0, 3] rfl rfl fun _ _ => JO.reg ttOk 1 [] [] [(10, .v (.bool (!y27)))] _ rfl ⟨⟨rfl, trivial⟩, rfl⟩ (JO.done rfl ?_)
    refine JS.cond rfl (fun ht42 => ?_) (fun ht42 => ?_)
    · have h := condT h ht42
      refine JS.seq (JS.region (JO.reg ttOk 1 [] [] [(4, .v (.bool false))] _ rfl ⟨⟨rfl, trivial⟩, rfl⟩ (JO.done rfl ?_)))
      cases h
      exact JS.ret ttOk () trivial rfl rfl [] rfl
    have h := condF h ht42
    refine JS.skip (JS.seq (JS.seq (JS.region (JO.reg ttOk 5 [] [] [(15, .v (.bool (!(decide (x0.2.1 = x1.2.1)))))] _ rfl ⟨⟨rfl, trivial⟩, rfl⟩ (JO.done rfl ?_)))))
    refine JS.cond rfl (fun ht41 => ?_) (fun ht41 => ?_)
    · have h := condT h ht41
      refine JS.seq (JS.region (JO.reg ttOk 1 [] [] [(4, .v (.bool false))] _ rfl ⟨⟨rfl, trivial⟩, rfl⟩ (JO.done rfl ?_)))
      cases h
      exact JS.ret ttOk () trivial rfl rfl [] rfl
    have h := condF h ht41
    refine JS.skip (JS.seq (JS.seq (JS.region (JO.reg ttOk 4 [] [] [(17, .v (.slice a7 x0.2.2.1.length c8)), (19, .v (.slice a19 x1.2.2.1.length c20))] _ rfl ⟨⟨rfl, rfl, trivial⟩, rfl⟩ ?_))))
    obtain ⟨y29, hy30, h⟩ := bindO_some h
    refine JO.call rfl rfl rfl rfl (ok_l_eqIntS x0.2.2.1 x1.2.2.1 a7 c8 x0.2.2.1.length rfl a19 c20 x1.2.2.1.length rfl _ hy30) rfl [1, 4] rfl rfl fun _ _ => JO.reg ttOk 1 [] [] [(21, .v (.bool (!y29)))] _ rfl ⟨⟨rfl, trivial⟩, rfl⟩ (JO.done rfl ?_)
    refine JS.cond rfl (fun ht40 => ?_) (fun ht40 => ?_)
    · have h := condT h ht40
      refine JS.seq (JS.region (JO.reg ttOk 1 [] [] [(4, .v (.bool false))] _ rfl ⟨⟨rfl, trivial⟩, rfl⟩ (JO.done rfl ?_)))
      cases h
      exact JS.ret ttOk () trivial rfl rfl [] rfl
    have h := condF h ht40
    refine JS.skip (JS.seq (JS.seq (JS.region (JO.reg ttOk 4 [] [] [(23, .v (.slice a11 x0.2.2.2.1.length c12)), (25, .v (.slice a23 x1.2.2.2.1.length c24))] _ rfl ⟨⟨rfl, rfl, trivial⟩, rfl⟩ ?_))))
    obtain ⟨y31, hy32, h⟩ := bindO_some h
    refine JO.call rfl rfl rfl rfl (ok_l_eqByteS x0.2.2.2.1 x1.2.2.2.1 a11 c12 x0.2.2.2.1.length rfl a23 c24 x1.2.2.2.1.length rfl _ hy32) rfl [2, 5] rfl rfl fun _ _ => JO.reg ttOk 1 [] [] [(27, .v (.bool (!y31)))] _ rfl ⟨⟨rfl, trivial⟩, rfl⟩ (JO.done rfl ?_)
    refine JS.cond rfl (fun ht39 => ?_) (fun ht39 => ?_)
    · have h := condT h ht39
      refine JS.seq (JS.region (JO.reg ttOk 1 [] [] [(4, .v (.bool false))] _ rfl ⟨⟨rfl, trivial⟩, rfl⟩ (JO.done rfl ?_)))
      cases h
      exact JS.ret ttOk () trivial rfl rfl [] rfl
    have h := condF h ht39
    refine JS.skip (JS.seq (JS.seq (JS.region (JO.reg ttOk 5 [] [] [(32, .v (.bool (!(decide (x0.2.2.2.2 = x1.2.2.2.2)))))] _ rfl ⟨⟨rfl, trivial⟩, rfl⟩ (JO.done rfl ?_)))))
    refine JS.cond rfl (fun ht38 => ?_) (fun ht38 => ?_)
    · have h := condT h ht38
      refine JS.seq (JS.region (JO.reg ttOk 1 [] [] [(4, .v (.bool false))] _ rfl ⟨⟨rfl, trivial⟩, rfl⟩ (JO.done rfl ?_)))
      cases h
      exact JS.ret ttOk () trivial rfl rfl [] rfl
    have h := condF h ht38
    refine JS.skip (JS.seq (JS.region (JO.reg ttOk 1 [] [] [(4, .v (.bool true))] _ rfl ⟨⟨rfl, trivial⟩, rfl⟩ (JO.done rfl ?_))))
    cases h
    exact JS.ret ttOk () trivial rfl rfl [] rfl

def M_l_markIntS_L1 (x0 : List Int) (j19 : (List Int × Int) → Option (Int × List Int)) (k13 : (List Int × Int × Int) → Option (Int × List Int)) : (List Int × Int × Int) → Option (Int × List Int) := fun (x7, x8, x9) =>
  (bif (decide (x9 < (x0.length : Int))) then
  (guardO (0 ≤ x9 ∧ x9 < (x0.length : Int)) <|
  k13 ((List.set x7 (Int.toNat x9) x8), (W (x8 + 1)), (W (x9 + 1))))
  else
  j19 (x7, x8))

def M_l_markIntS (x0 : List Int) (x1 : Int) : Option (Int × List Int) :=
  (joinO (fun ((x17, x18) : List Int × Int) =>
  some (x18, x17)) fun j19 =>
  (fixF (M_l_markIntS_L1 x0 j19) FUEL (x0, x1, 0)))

theorem ok_l_markIntS (x0 : List Int) (x1 : Int) (a3 : Option Addr) (c4 : Nat) (l5 : Nat) (hl6 : x0.length = l5) (r : Int × List Int) (h : M_l_markIntS x0 x1 = some r) :
    FX Try.prog 55 [.slice a3 l5 c4, .int .i64 x1] [] [⟨(.int .i64), ⟨a3, l5, c4⟩, x0⟩] (fun _ : Unit => True) (fun _ => .int .i64 r.1) (fun _ => [⟨(.int .i64), ⟨a3, l5, c4⟩, r.2⟩]) :=
  by
    subst hl6
    refine FX.of (T := TTx) Try.call55 Try.func55 rfl rfl fun w0 L0 => ?_
    unfold M_l_markIntS at h
    refine JS.seq (JS.region (JO.reg ttOk 1 [] [] [] _ rfl ⟨trivial, rfl⟩ (JO.done rfl (JS.seq (JS.seq (JS.region (JO.reg ttOk 1 [] [] [(5, .v (.int .i64 0))] _ rfl ⟨⟨rfl, trivial⟩, rfl⟩ (JO.done rfl ?_))))))))
    obtain ⟨j19, hj27, h⟩ := joinO_some h
    refine JS.blockJ (ι := List Int × Int) ⟨fun z => j19 (z.1, z.2) = some r, fun z => [(1, .v (.int .i64 z.2))], fun z => .nil, fun z => [], fun z => [⟨(.int .i64), ⟨a3, x0.length, c4⟩, z.1⟩], fun z => 0⟩ ?_ ?_
    · refine JS.loop (ι := Nat × List Int × Int × Int) ⟨fun z => fixF (M_l_markIntS_L1 x0 j19) z.1 (z.2.1, z.2.2.1, z.2.2.2) = some r, fun z => [(0, .v (.slice a3 x0.length c4)), (1, .v (.int .i64 z.2.2.1)), (5, .v (.int .i64 z.2.2.2))], fun z => .nil, fun z => [], fun z => [⟨(.int .i64), ⟨a3, x0.length, c4⟩, z.2.1⟩], fun z => z.1⟩ (FUEL, x0, x1, 0) h ⟨rfl, rfl, rfl, trivial⟩ trivial [] rfl [0] rfl ?_
      rintro ⟨n14, x7, x8, x9⟩ h
      obtain ⟨n14, rfl, h⟩ := fixF_some h
      rw [M_l_markIntS_L1] at h
      refine JS.know 0 rfl fun hs24 => JS.seq (JS.seq (JS.region (JO.reg ttOk 4 [] [] [(9, .v (.bool (decide (x9 < (x0.length : Int)))))] _ rfl ⟨⟨rfl, trivial⟩, rfl⟩ (JO.done rfl ?_))))
      refine JS.cond rfl (fun ht25 => ?_) (fun ht25 => ?_)
      · have h := condT h ht25
        refine JS.skip (JS.seq (JS.block (JS.seq (JS.region ?_))))
        obtain ⟨g11, h⟩ := guardO_some h
        refine JO.reg ttOk 4 [] [] [(14, .v (.int .i64 x8)), (15, .ep ⟨a3, x0.length, c4⟩ (Int.toNat x9 * 1))] _ rfl ⟨(hs24.cast hs24.len.symm).ix g11, ⟨rfl, rfl, trivial⟩, rfl⟩ (JO.storeE ttOk rfl rfl rfl rfl rfl rfl rfl rfl rfl [0] (fs := []) rfl (Int.toNat x9) 0 (at' x7 x9) x8 ⟨at_someL hs24.len.symm g11, rfl⟩ ⟨rfl, rfl, rfl⟩ (JO.done rfl (JS.region (JO.reg ttOk 3 [(W (x8 + 1))] [] [(1, .v (.int .i64 (W (x8 + 1))))] _ rfl ⟨⟨trivial, rfl⟩, ⟨rfl, trivial⟩, rfl⟩ (JO.done rfl (JS.endB (JS.region (JO.reg ttOk 3 [(W (x9 + 1))] [] [(5, .v (.int .i64 (W (x9 + 1))))] _ rfl ⟨⟨trivial, rfl⟩, ⟨rfl, trivial⟩, rfl⟩ (JO.done rfl (JS.endL (n14, (List.set x7 (Int.toNat x9) x8), (W (x8 + 1)), (W (x9 + 1))) h (Nat.lt_succ_self _) ⟨rfl, rfl, rfl, trivial⟩ trivial [] rfl [0] rfl))))))))))
      have h := condF h ht25
      refine JS.exit rfl (JS.endJ (x7, x8) h ⟨rfl, trivial⟩ trivial [] rfl [0] rfl)
    rintro ⟨x17, x18⟩ h
    subst hj27
    refine JS.know 0 rfl fun hs26 => JS.seq (JS.region (JO.reg ttOk 2 [] [] [(4, .v (.int .i64 x18))] _ rfl ⟨⟨rfl, trivial⟩, rfl⟩ (JO.done rfl ?_)))
    cases h
    exact JS.retX ttOk () trivial rfl rfl [0] rfl

def M_l_markGrid (x0 : Int × Int × List Int × Int × Int × Bool) (x1 : Int) : Option (Int × List Int) :=
  (bindO (M_l_markIntS x0.2.2.1 x1) fun (y7, y8) =>
  some (y7, y8))

theorem ok_l_markGrid (x0 : Int × Int × List Int × Int × Int × Bool) (x1 : Int) (a3 : Option Addr) (c4 : Nat) (l5 : Nat) (hl6 : x0.2.2.1.length = l5) (r : Int × List Int) (h : M_l_markGrid x0 x1 = some r) :
    FX Try.prog 14 [.agg #[.int .i64 x0.1, .int .i64 x0.2.1, .slice a3 l5 c4, .int .i64 x0.2.2.2.1, .int .i64 x0.2.2.2.2.1, .bool x0.2.2.2.2.2], .int .i64 x1] [] [⟨(.int .i64), ⟨a3, l5, c4⟩, x0.2.2.1⟩] (fun _ : Unit => True) (fun _ => .int .i64 r.1) (fun _ => [⟨(.int .i64), ⟨a3, l5, c4⟩, r.2⟩]) :=
  by
    subst hl6
    refine FX.of (T := TTx) Try.call14 Try.func14 rfl rfl fun w0 L0 => ?_
    unfold M_l_markGrid at h
    refine JS.seq (JS.region (JO.regB ttOk 2 [] [2] [(2, .bp 2 0)] (.new 2 26 (cl26 x0 a3 c4) .nil) rfl ⟨⟨rfl, trivial⟩, ⟨rfl, rfl, rfl, rfl, trivial⟩⟩ (JO.done rfl (JS.seq (JS.region (JO.reg ttOk 3 [] [] [(6, .v (.slice a3 x0.2.2.1.length c4)), (7, .v (.int .i64 x1))] _ rfl ⟨⟨rfl, rfl, trivial⟩, rfl⟩ ?_))))))
    obtain ⟨⟨y7, y8⟩, hy9, h⟩ := bindO_some h
    refine JO.callX rfl rfl rfl rfl (ok_l_markIntS x0.2.2.1 x1 a3 c4 x0.2.2.1.length rfl _ hy9) rfl [0] rfl [] rfl rfl fun _ _ => JO.know 0 rfl fun hs10 => JO.reg ttOk 1 [] [] [(1, .v (.int .i64 y7))] _ rfl ⟨⟨rfl, trivial⟩, rfl⟩ (JO.done rfl (JS.seq (JS.region (JO.reg ttOk 2 [] [] [(4, .v (.int .i64 y7))] _ rfl ⟨⟨rfl, trivial⟩, rfl⟩ (JO.done rfl ?_)))))
    cases h
    exact JS.retX ttOk () trivial rfl rfl [0] rfl

def M_l_markByteS_L1 (x0 : List UInt8) (j19 : (List UInt8 × Int) → Option (Int × List UInt8)) (k13 : (List UInt8 × Int × Int) → Option (Int × List UInt8)) : (List UInt8 × Int × Int) → Option (Int × List UInt8) := fun (x7, x8, x9) =>
  (bif (decide (x9 < (x0.length : Int))) then
  (guardO (0 ≤ x9 ∧ x9 < (x0.length : Int)) <|
  k13 ((List.set x7 (Int.toNat x9) (u8 (x8))), (W (x8 + 1)), (W (x9 + 1))))
  else
  j19 (x7, x8))

def M_l_markByteS (x0 : List UInt8) (x1 : Int) : Option (Int × List UInt8) :=
  (joinO (fun ((x17, x18) : List UInt8 × Int) =>
  some (x18, x17)) fun j19 =>
  (fixF (M_l_markByteS_L1 x0 j19) FUEL (x0, x1, 0)))

theorem ok_l_markByteS (x0 : List UInt8) (x1 : Int) (a3 : Option Addr) (c4 : Nat) (l5 : Nat) (hl6 : x0.length = l5) (r : Int × List UInt8) (h : M_l_markByteS x0 x1 = some r) :
    FX Try.prog 43 [.slice a3 l5 c4, .int .i64 x1] [] [⟨.byte, ⟨a3, l5, c4⟩, x0⟩] (fun _ : Unit => True) (fun _ => .int .i64 r.1) (fun _ => [⟨.byte, ⟨a3, l5, c4⟩, r.2⟩]) :=
  by
    subst hl6
    refine FX.of (T := TTx) Try.call43 Try.func43 rfl rfl fun w0 L0 => ?_
    unfold M_l_markByteS at h
    refine JS.seq (JS.region (JO.reg ttOk 1 [] [] [] _ rfl ⟨trivial, rfl⟩ (JO.done rfl (JS.seq (JS.seq (JS.region (JO.reg ttOk 1 [] [] [(5, .v (.int .i64 0))] _ rfl ⟨⟨rfl, trivial⟩, rfl⟩ (JO.done rfl ?_))))))))
    obtain ⟨j19, hj27, h⟩ := joinO_some h
    refine JS.blockJ (ι := List UInt8 × Int) ⟨fun z => j19 (z.1, z.2) = some r, fun z => [(1, .v (.int .i64 z.2))], fun z => .nil, fun z => [], fun z => [⟨.byte, ⟨a3, x0.length, c4⟩, z.1⟩], fun z => 0⟩ ?_ ?_
    · refine JS.loop (ι := Nat × List UInt8 × Int × Int) ⟨fun z => fixF (M_l_markByteS_L1 x0 j19) z.1 (z.2.1, z.2.2.1, z.2.2.2) = some r, fun z => [(0, .v (.slice a3 x0.length c4)), (1, .v (.int .i64 z.2.2.1)), (5, .v (.int .i64 z.2.2.2))], fun z => .nil, fun z => [], fun z => [⟨.byte, ⟨a3, x0.length, c4⟩, z.2.1⟩], fun z => z.1⟩ (FUEL, x0, x1, 0) h ⟨rfl, rfl, rfl, trivial⟩ trivial [] rfl [0] rfl ?_
      rintro ⟨n14, x7, x8, x9⟩ h
      obtain ⟨n14, rfl, h⟩ := fixF_some h
      rw [M_l_markByteS_L1] at h
      refine JS.know 0 rfl fun hs24 => JS.seq (JS.seq (JS.region (JO.reg ttOk 4 [] [] [(9, .v (.bool (decide (x9 < (x0.length : Int)))))] _ rfl ⟨⟨rfl, trivial⟩, rfl⟩ (JO.done rfl ?_))))
      refine JS.cond rfl (fun ht25 => ?_) (fun ht25 => ?_)
      · have h := condT h ht25
        refine JS.skip (JS.seq (JS.block (JS.seq (JS.region ?_))))
        obtain ⟨g11, h⟩ := guardO_some h
        refine JO.reg ttOk 5 [((u8 (x8)).toNat : Int)] [] [(15, .v (.int .u8 ((u8 (x8)).toNat : Int))), (16, .ep ⟨a3, x0.length, c4⟩ (Int.toNat x9 * 1))] _ rfl ⟨⟨trivial, u8_wrap _⟩, (hs24.cast hs24.len.symm).ix g11, ⟨rfl, rfl, trivial⟩, rfl⟩ (JO.storeE ttOk rfl rfl rfl rfl rfl rfl rfl rfl rfl [0] (fs := []) rfl (Int.toNat x9) 0 (at' x7 x9) (u8 (x8)) ⟨at_someL hs24.len.symm g11, rfl⟩ ⟨rfl, rfl, rfl⟩ (JO.done rfl (JS.region (JO.reg ttOk 3 [(W (x8 + 1))] [] [(1, .v (.int .i64 (W (x8 + 1))))] _ rfl ⟨⟨trivial, rfl⟩, ⟨rfl, trivial⟩, rfl⟩ (JO.done rfl (JS.endB (JS.region (JO.reg ttOk 3 [(W (x9 + 1))] [] [(5, .v (.int .i64 (W (x9 + 1))))] _ rfl ⟨⟨trivial, rfl⟩, ⟨rfl, trivial⟩, rfl⟩ (JO.done rfl (JS.endL (n14, (List.set x7 (Int.toNat x9) (u8 (x8))), (W (x8 + 1)), (W (x9 + 1))) h (Nat.lt_succ_self _) ⟨rfl, rfl, rfl, trivial⟩ trivial [] rfl [0] rfl))))))))))
      have h := condF h ht25
      refine JS.exit rfl (JS.endJ (x7, x8) h ⟨rfl, trivial⟩ trivial [] rfl [0] rfl)
    rintro ⟨x17, x18⟩ h
    subst hj27
    refine JS.know 0 rfl fun hs26 => JS.seq (JS.region (JO.reg ttOk 2 [] [] [(4, .v (.int .i64 x18))] _ rfl ⟨⟨rfl, trivial⟩, rfl⟩ (JO.done rfl ?_)))
    cases h
    exact JS.retX ttOk () trivial rfl rfl [0] rfl

def M_l_markVt (x0 : (Int × Int × List Int × Int × Int × Bool) × Int × List Int × List UInt8 × Int) (x1 : Int) : Option (Int × List Int × List Int × List UInt8) :=
  (bindO (M_l_markGrid x0.1 x1) fun (y15, y16) =>
  (bindO (M_l_markIntS x0.2.2.1 y15) fun (y19, y20) =>
  (bindO (M_l_markByteS x0.2.2.2.1 y19) fun (y23, y24) =>
  some (y23, y16, y20, y24))))

theorem ok_l_markVt (x0 : (Int × Int × List Int × Int × Int × Bool) × Int × List Int × List UInt8 × Int) (x1 : Int) (a3 : Option Addr) (c4 : Nat) (l5 : Nat) (hl6 : x0.1.2.2.1.length = l5) (a7 : Option Addr) (c8 : Nat) (l9 : Nat) (hl10 : x0.2.2.1.length = l9) (a11 : Option Addr) (c12 : Nat) (l13 : Nat) (hl14 : x0.2.2.2.1.length = l13) (r : Int × List Int × List Int × List UInt8) (h : M_l_markVt x0 x1 = some r) :
    FX Try.prog 38 [.agg #[.int .i64 x0.1.1, .int .i64 x0.1.2.1, .slice a3 l5 c4, .int .i64 x0.1.2.2.2.1, .int .i64 x0.1.2.2.2.2.1, .bool x0.1.2.2.2.2.2, .int .i64 x0.2.1, .slice a7 l9 c8, .slice a11 l13 c12, .int .i64 x0.2.2.2.2], .int .i64 x1] [] [⟨(.int .i64), ⟨a3, l5, c4⟩, x0.1.2.2.1⟩, ⟨(.int .i64), ⟨a7, l9, c8⟩, x0.2.2.1⟩, ⟨.byte, ⟨a11, l13, c12⟩, x0.2.2.2.1⟩] (fun _ : Unit => True) (fun _ => .int .i64 r.1) (fun _ => [⟨(.int .i64), ⟨a3, l5, c4⟩, r.2.1⟩, ⟨(.int .i64), ⟨a7, l9, c8⟩, r.2.2.1⟩, ⟨.byte, ⟨a11, l13, c12⟩, r.2.2.2⟩]) :=
  by
    subst hl6
    subst hl10
    subst hl14
    refine FX.of (T := TTx) Try.call38 Try.func38 rfl rfl fun w0 L0 => ?_
    unfold M_l_markVt at h
    refine JS.seq (JS.region (JO.regB ttOk 2 [] [4] [(2, .bp 4 0)] (.new 4 45 (cl45 x0 a3 c4 a7 c8 a11 c12) .nil) rfl ⟨⟨rfl, trivial⟩, ⟨rfl, rfl, rfl, rfl, trivial⟩⟩ (JO.done rfl (JS.seq (JS.region (JO.reg ttOk 3 [] [] [(6, .v (.agg (cl26 x0.1 a3 c4).toArray)), (7, .v (.int .i64 x1))] _ rfl ⟨⟨rfl, rfl, trivial⟩, rfl⟩ ?_))))))
    obtain ⟨⟨y15, y16⟩, hy17, h⟩ := bindO_some h
    refine JO.callX rfl rfl rfl rfl (ok_l_markGrid x0.1 x1 a3 c4 x0.1.2.2.1.length rfl _ hy17) rfl [0] rfl [] rfl rfl fun _ _ => JO.know 0 rfl fun hs18 => JO.reg ttOk 1 [] [] [(1, .v (.int .i64 y15))] _ rfl ⟨⟨rfl, trivial⟩, rfl⟩ (JO.done rfl (JS.seq (JS.region (JO.reg ttOk 3 [] [] [(10, .v (.slice a7 x0.2.2.1.length c8)), (11, .v (.int .i64 y15))] _ rfl ⟨⟨rfl, rfl, trivial⟩, rfl⟩ ?_))))
    obtain ⟨⟨y19, y20⟩, hy21, h⟩ := bindO_some h
    refine JO.callX rfl rfl rfl rfl (ok_l_markIntS x0.2.2.1 y15 a7 c8 x0.2.2.1.length rfl _ hy21) rfl [1] rfl [] rfl rfl fun _ _ => JO.know 0 rfl fun hs22 => JO.reg ttOk 1 [] [] [(1, .v (.int .i64 y19))] _ rfl ⟨⟨rfl, trivial⟩, rfl⟩ (JO.done rfl (JS.seq (JS.region (JO.reg ttOk 3 [] [] [(14, .v (.slice a11 x0.2.2.2.1.length c12)), (15, .v (.int .i64 y19))] _ rfl ⟨⟨rfl, rfl, trivial⟩, rfl⟩ ?_))))
    obtain ⟨⟨y23, y24⟩, hy25, h⟩ := bindO_some h
    refine JO.callX rfl rfl rfl rfl (ok_l_markByteS x0.2.2.2.1 y19 a11 c12 x0.2.2.2.1.length rfl _ hy25) rfl [2] rfl [] rfl rfl fun _ _ => JO.know 0 rfl fun hs26 => JO.reg ttOk 1 [] [] [(1, .v (.int .i64 y23))] _ rfl ⟨⟨rfl, trivial⟩, rfl⟩ (JO.done rfl (JS.seq (JS.region (JO.reg ttOk 2 [] [] [(4, .v (.int .i64 y23))] _ rfl ⟨⟨rfl, trivial⟩, rfl⟩ (JO.done rfl ?_)))))
    cases h
    exact JS.retX ttOk () trivial rfl rfl [2, 1, 0] rfl

def M_l_heldIntS_L1 (x0 : List Int) (j19 : Int → Option Int) (k13 : (Int × Int) → Option Int) : (Int × Int) → Option Int := fun (x7, x8) =>
  (bif (decide (x8 < (x0.length : Int))) then
  (guardO (0 ≤ x8 ∧ x8 < (x0.length : Int)) <|
  (bif (!(decide ((at' x0 x8) = x7))) then
  some (-1)
  else
  k13 ((W (x7 + 1)), (W (x8 + 1)))))
  else
  j19 x7)

def M_l_heldIntS (x0 : List Int) (x1 : Int) : Option Int :=
  (joinO (fun (x18 : Int) =>
  some x18) fun j19 =>
  (fixF (M_l_heldIntS_L1 x0 j19) FUEL (x1, 0)))

theorem ok_l_heldIntS (x0 : List Int) (x1 : Int) (a3 : Option Addr) (c4 : Nat) (l5 : Nat) (hl6 : x0.length = l5) (r : Int) (h : M_l_heldIntS x0 x1 = some r) :
    FC Try.prog 56 [.slice a3 l5 c4, .int .i64 x1] [⟨(.int .i64), ⟨a3, l5, c4⟩, x0⟩] (fun _ : Unit => True) (fun _ => .int .i64 r) (fun _ => []) :=
  by
    subst hl6
    refine FC.of (T := TTx) Try.call56 Try.func56 rfl rfl fun w0 => ?_
    unfold M_l_heldIntS at h
    refine JS.seq (JS.region (JO.reg ttOk 1 [] [] [] _ rfl ⟨trivial, rfl⟩ (JO.done rfl (JS.seq (JS.seq (JS.region (JO.reg ttOk 1 [] [] [(5, .v (.int .i64 0))] _ rfl ⟨⟨rfl, trivial⟩, rfl⟩ (JO.done rfl ?_))))))))
    obtain ⟨j19, hj27, h⟩ := joinO_some h
    refine JS.blockJ (ι := Int) ⟨fun z => j19 z = some r, fun z => [(1, .v (.int .i64 z))], fun z => .nil, fun z => [], fun z => [], fun z => 0⟩ ?_ ?_
    · refine JS.loop (ι := Nat × Int × Int) ⟨fun z => fixF (M_l_heldIntS_L1 x0 j19) z.1 (z.2.1, z.2.2) = some r, fun z => [(0, .v (.slice a3 x0.length c4)), (1, .v (.int .i64 z.2.1)), (5, .v (.int .i64 z.2.2))], fun z => .nil, fun z => [⟨(.int .i64), ⟨a3, x0.length, c4⟩, x0⟩], fun z => [], fun z => z.1⟩ (FUEL, x1, 0) h ⟨rfl, rfl, rfl, trivial⟩ trivial [0] rfl [] rfl ?_
      rintro ⟨n14, x7, x8⟩ h
      obtain ⟨n14, rfl, h⟩ := fixF_some h
      rw [M_l_heldIntS_L1] at h
      refine JS.seq (JS.seq (JS.region (JO.reg ttOk 4 [] [] [(9, .v (.bool (decide (x8 < (x0.length : Int)))))] _ rfl ⟨⟨rfl, trivial⟩, rfl⟩ (JO.done rfl ?_))))
      refine JS.cond rfl (fun ht26 => ?_) (fun ht26 => ?_)
      · have h := condT h ht26
        refine JS.skip (JS.seq (JS.block (JS.seq (JS.seq (JS.region (JO.know 0 rfl fun hs24 => ?_))))))
        obtain ⟨g10, h⟩ := guardO_some h
        refine JO.reg ttOk 3 [] [] [(14, .ep ⟨a3, x0.length, c4⟩ (Int.toNat x8 * 1))] _ rfl ⟨hs24.ix g10, ⟨rfl, trivial⟩, rfl⟩ (JO.load ttOk rfl rfl rfl rfl rfl rfl rfl 0 rfl rfl (Int.toNat x8) 0 (at' x0 x8) ⟨at_some g10, rfl⟩ rfl rfl (JO.reg ttOk 2 [] [] [(17, .v (.bool (!(decide ((at' x0 x8) = x7)))))] _ rfl ⟨⟨rfl, trivial⟩, rfl⟩ (JO.done rfl ?_)))
        refine JS.cond rfl (fun ht25 => ?_) (fun ht25 => ?_)
        · have h := condT h ht25
          refine JS.seq (JS.region (JO.reg ttOk 1 [] [] [(4, .v (.int .i64 (-1)))] _ rfl ⟨⟨rfl, trivial⟩, rfl⟩ (JO.done rfl ?_)))
          cases h
          exact JS.ret ttOk () trivial rfl rfl [] rfl
        have h := condF h ht25
        refine JS.skip (JS.region (JO.reg ttOk 3 [(W (x7 + 1))] [] [(1, .v (.int .i64 (W (x7 + 1))))] _ rfl ⟨⟨trivial, rfl⟩, ⟨rfl, trivial⟩, rfl⟩ (JO.done rfl (JS.endB (JS.region (JO.reg ttOk 3 [(W (x8 + 1))] [] [(5, .v (.int .i64 (W (x8 + 1))))] _ rfl ⟨⟨trivial, rfl⟩, ⟨rfl, trivial⟩, rfl⟩ (JO.done rfl (JS.endL (n14, (W (x7 + 1)), (W (x8 + 1))) h (Nat.lt_succ_self _) ⟨rfl, rfl, rfl, trivial⟩ trivial [0] rfl [] rfl))))))))
      have h := condF h ht26
      refine JS.exit rfl (JS.endJ x7 h ⟨rfl, trivial⟩ trivial [] rfl [] rfl)
    rintro x18 h
    subst hj27
    refine JS.seq (JS.region (JO.reg ttOk 2 [] [] [(4, .v (.int .i64 x18))] _ rfl ⟨⟨rfl, trivial⟩, rfl⟩ (JO.done rfl ?_)))
    cases h
    exact JS.ret ttOk () trivial rfl rfl [] rfl

def M_l_heldGrid (x0 : Int × Int × List Int × Int × Int × Bool) (x1 : Int) : Option Int :=
  (bindO (M_l_heldIntS x0.2.2.1 x1) fun (y7 : Int) =>
  (bif (decide (y7 < 0)) then
  some (-1)
  else
  some y7))

theorem ok_l_heldGrid (x0 : Int × Int × List Int × Int × Int × Bool) (x1 : Int) (a3 : Option Addr) (c4 : Nat) (l5 : Nat) (hl6 : x0.2.2.1.length = l5) (r : Int) (h : M_l_heldGrid x0 x1 = some r) :
    FC Try.prog 15 [.agg #[.int .i64 x0.1, .int .i64 x0.2.1, .slice a3 l5 c4, .int .i64 x0.2.2.2.1, .int .i64 x0.2.2.2.2.1, .bool x0.2.2.2.2.2], .int .i64 x1] [⟨(.int .i64), ⟨a3, l5, c4⟩, x0.2.2.1⟩] (fun _ : Unit => True) (fun _ => .int .i64 r) (fun _ => []) :=
  by
    subst hl6
    refine FC.of (T := TTx) Try.call15 Try.func15 rfl rfl fun w0 => ?_
    unfold M_l_heldGrid at h
    refine JS.seq (JS.region (JO.regB ttOk 2 [] [2] [(2, .bp 2 0)] (.new 2 26 (cl26 x0 a3 c4) .nil) rfl ⟨⟨rfl, trivial⟩, ⟨rfl, rfl, rfl, rfl, trivial⟩⟩ (JO.done rfl (JS.seq (JS.region (JO.reg ttOk 3 [] [] [(6, .v (.slice a3 x0.2.2.1.length c4)), (7, .v (.int .i64 x1))] _ rfl ⟨⟨rfl, rfl, trivial⟩, rfl⟩ ?_))))))
    obtain ⟨y7, hy8, h⟩ := bindO_some h
    refine JO.call rfl rfl rfl rfl (ok_l_heldIntS x0.2.2.1 x1 a3 c4 x0.2.2.1.length rfl _ hy8) rfl [0] rfl rfl fun _ _ => JO.reg ttOk 1 [] [] [(1, .v (.int .i64 y7))] _ rfl ⟨⟨rfl, trivial⟩, rfl⟩ (JO.done rfl (JS.seq (JS.seq (JS.region (JO.reg ttOk 2 [] [] [(10, .v (.bool (decide (y7 < 0))))] _ rfl ⟨⟨rfl, trivial⟩, rfl⟩ (JO.done rfl ?_))))))
    refine JS.cond rfl (fun ht10 => ?_) (fun ht10 => ?_)
    · have h := condT h ht10
      refine JS.seq (JS.region (JO.reg ttOk 1 [] [] [(4, .v (.int .i64 (-1)))] _ rfl ⟨⟨rfl, trivial⟩, rfl⟩ (JO.done rfl ?_)))
      cases h
      exact JS.ret ttOk () trivial rfl rfl [] rfl
    have h := condF h ht10
    refine JS.skip (JS.seq (JS.region (JO.reg ttOk 2 [] [] [(4, .v (.int .i64 y7))] _ rfl ⟨⟨rfl, trivial⟩, rfl⟩ (JO.done rfl ?_))))
    cases h
    exact JS.ret ttOk () trivial rfl rfl [] rfl

def M_l_heldByteS_L1 (x0 : List UInt8) (j19 : Int → Option Int) (k13 : (Int × Int) → Option Int) : (Int × Int) → Option Int := fun (x7, x8) =>
  (bif (decide (x8 < (x0.length : Int))) then
  (guardO (0 ≤ x8 ∧ x8 < (x0.length : Int)) <|
  (bif (!(decide (((at' x0 x8).toNat : Int) = ((u8 (x7)).toNat : Int)))) then
  some (-1)
  else
  k13 ((W (x7 + 1)), (W (x8 + 1)))))
  else
  j19 x7)

def M_l_heldByteS (x0 : List UInt8) (x1 : Int) : Option Int :=
  (joinO (fun (x18 : Int) =>
  some x18) fun j19 =>
  (fixF (M_l_heldByteS_L1 x0 j19) FUEL (x1, 0)))

theorem ok_l_heldByteS (x0 : List UInt8) (x1 : Int) (a3 : Option Addr) (c4 : Nat) (l5 : Nat) (hl6 : x0.length = l5) (r : Int) (h : M_l_heldByteS x0 x1 = some r) :
    FC Try.prog 81 [.slice a3 l5 c4, .int .i64 x1] [⟨.byte, ⟨a3, l5, c4⟩, x0⟩] (fun _ : Unit => True) (fun _ => .int .i64 r) (fun _ => []) :=
  by
    subst hl6
    refine FC.of (T := TTx) Try.call81 Try.func81 rfl rfl fun w0 => ?_
    unfold M_l_heldByteS at h
    refine JS.seq (JS.region (JO.reg ttOk 1 [] [] [] _ rfl ⟨trivial, rfl⟩ (JO.done rfl (JS.seq (JS.seq (JS.region (JO.reg ttOk 1 [] [] [(5, .v (.int .i64 0))] _ rfl ⟨⟨rfl, trivial⟩, rfl⟩ (JO.done rfl ?_))))))))
    obtain ⟨j19, hj27, h⟩ := joinO_some h
    refine JS.blockJ (ι := Int) ⟨fun z => j19 z = some r, fun z => [(1, .v (.int .i64 z))], fun z => .nil, fun z => [], fun z => [], fun z => 0⟩ ?_ ?_
    · refine JS.loop (ι := Nat × Int × Int) ⟨fun z => fixF (M_l_heldByteS_L1 x0 j19) z.1 (z.2.1, z.2.2) = some r, fun z => [(0, .v (.slice a3 x0.length c4)), (1, .v (.int .i64 z.2.1)), (5, .v (.int .i64 z.2.2))], fun z => .nil, fun z => [⟨.byte, ⟨a3, x0.length, c4⟩, x0⟩], fun z => [], fun z => z.1⟩ (FUEL, x1, 0) h ⟨rfl, rfl, rfl, trivial⟩ trivial [0] rfl [] rfl ?_
      rintro ⟨n14, x7, x8⟩ h
      obtain ⟨n14, rfl, h⟩ := fixF_some h
      rw [M_l_heldByteS_L1] at h
      refine JS.seq (JS.seq (JS.region (JO.reg ttOk 4 [] [] [(9, .v (.bool (decide (x8 < (x0.length : Int)))))] _ rfl ⟨⟨rfl, trivial⟩, rfl⟩ (JO.done rfl ?_))))
      refine JS.cond rfl (fun ht26 => ?_) (fun ht26 => ?_)
      · have h := condT h ht26
        refine JS.skip (JS.seq (JS.block (JS.seq (JS.seq (JS.region (JO.know 0 rfl fun hs24 => ?_))))))
        obtain ⟨g10, h⟩ := guardO_some h
        refine JO.reg ttOk 3 [] [] [(14, .ep ⟨a3, x0.length, c4⟩ (Int.toNat x8 * 1))] _ rfl ⟨hs24.ix g10, ⟨rfl, trivial⟩, rfl⟩ (JO.load ttOk rfl rfl rfl rfl rfl rfl rfl 0 rfl rfl (Int.toNat x8) 0 (at' x0 x8) ⟨at_some g10, rfl⟩ rfl rfl (JO.reg ttOk 3 [((u8 (x7)).toNat : Int)] [] [(18, .v (.bool (!(decide (((at' x0 x8).toNat : Int) = ((u8 (x7)).toNat : Int))))))] _ rfl ⟨⟨trivial, u8_wrap _⟩, ⟨rfl, trivial⟩, rfl⟩ (JO.done rfl ?_)))
        refine JS.cond rfl (fun ht25 => ?_) (fun ht25 => ?_)
        · have h := condT h ht25
          refine JS.seq (JS.region (JO.reg ttOk 1 [] [] [(4, .v (.int .i64 (-1)))] _ rfl ⟨⟨rfl, trivial⟩, rfl⟩ (JO.done rfl ?_)))
          cases h
          exact JS.ret ttOk () trivial rfl rfl [] rfl
        have h := condF h ht25
        refine JS.skip (JS.region (JO.reg ttOk 3 [(W (x7 + 1))] [] [(1, .v (.int .i64 (W (x7 + 1))))] _ rfl ⟨⟨trivial, rfl⟩, ⟨rfl, trivial⟩, rfl⟩ (JO.done rfl (JS.endB (JS.region (JO.reg ttOk 3 [(W (x8 + 1))] [] [(5, .v (.int .i64 (W (x8 + 1))))] _ rfl ⟨⟨trivial, rfl⟩, ⟨rfl, trivial⟩, rfl⟩ (JO.done rfl (JS.endL (n14, (W (x7 + 1)), (W (x8 + 1))) h (Nat.lt_succ_self _) ⟨rfl, rfl, rfl, trivial⟩ trivial [0] rfl [] rfl))))))))
      have h := condF h ht26
      refine JS.exit rfl (JS.endJ x7 h ⟨rfl, trivial⟩ trivial [] rfl [] rfl)
    rintro x18 h
    subst hj27
    refine JS.seq (JS.region (JO.reg ttOk 2 [] [] [(4, .v (.int .i64 x18))] _ rfl ⟨⟨rfl, trivial⟩, rfl⟩ (JO.done rfl ?_)))
    cases h
    exact JS.ret ttOk () trivial rfl rfl [] rfl

def M_l_heldVt (x0 : (Int × Int × List Int × Int × Int × Bool) × Int × List Int × List UInt8 × Int) (x1 : Int) : Option Int :=
  (bindO (M_l_heldGrid x0.1 x1) fun (y15 : Int) =>
  (bif (decide (y15 < 0)) then
  some (-1)
  else
  (bindO (M_l_heldIntS x0.2.2.1 y15) fun (y17 : Int) =>
  (bif (decide (y17 < 0)) then
  some (-1)
  else
  (bindO (M_l_heldByteS x0.2.2.2.1 y17) fun (y19 : Int) =>
  (bif (decide (y19 < 0)) then
  some (-1)
  else
  some y19))))))

theorem ok_l_heldVt (x0 : (Int × Int × List Int × Int × Int × Bool) × Int × List Int × List UInt8 × Int) (x1 : Int) (a3 : Option Addr) (c4 : Nat) (l5 : Nat) (hl6 : x0.1.2.2.1.length = l5) (a7 : Option Addr) (c8 : Nat) (l9 : Nat) (hl10 : x0.2.2.1.length = l9) (a11 : Option Addr) (c12 : Nat) (l13 : Nat) (hl14 : x0.2.2.2.1.length = l13) (r : Int) (h : M_l_heldVt x0 x1 = some r) :
    FC Try.prog 39 [.agg #[.int .i64 x0.1.1, .int .i64 x0.1.2.1, .slice a3 l5 c4, .int .i64 x0.1.2.2.2.1, .int .i64 x0.1.2.2.2.2.1, .bool x0.1.2.2.2.2.2, .int .i64 x0.2.1, .slice a7 l9 c8, .slice a11 l13 c12, .int .i64 x0.2.2.2.2], .int .i64 x1] [⟨(.int .i64), ⟨a3, l5, c4⟩, x0.1.2.2.1⟩, ⟨(.int .i64), ⟨a7, l9, c8⟩, x0.2.2.1⟩, ⟨.byte, ⟨a11, l13, c12⟩, x0.2.2.2.1⟩] (fun _ : Unit => True) (fun _ => .int .i64 r) (fun _ => []) :=
  by
    subst hl6
    subst hl10
    subst hl14
    refine FC.of (T := TTx) Try.call39 Try.func39 rfl rfl fun w0 => ?_
    unfold M_l_heldVt at h
    refine JS.seq (JS.region (JO.regB ttOk 2 [] [4] [(2, .bp 4 0)] (.new 4 45 (cl45 x0 a3 c4 a7 c8 a11 c12) .nil) rfl ⟨⟨rfl, trivial⟩, ⟨rfl, rfl, rfl, rfl, trivial⟩⟩ (JO.done rfl (JS.seq (JS.region (JO.reg ttOk 3 [] [] [(6, .v (.agg (cl26 x0.1 a3 c4).toArray)), (7, .v (.int .i64 x1))] _ rfl ⟨⟨rfl, rfl, trivial⟩, rfl⟩ ?_))))))
    obtain ⟨y15, hy16, h⟩ := bindO_some h
    refine JO.call rfl rfl rfl rfl (ok_l_heldGrid x0.1 x1 a3 c4 x0.1.2.2.1.length rfl _ hy16) rfl [0] rfl rfl fun _ _ => JO.reg ttOk 1 [] [] [(1, .v (.int .i64 y15))] _ rfl ⟨⟨rfl, trivial⟩, rfl⟩ (JO.done rfl (JS.seq (JS.seq (JS.region (JO.reg ttOk 2 [] [] [(10, .v (.bool (decide (y15 < 0))))] _ rfl ⟨⟨rfl, trivial⟩, rfl⟩ (JO.done rfl ?_))))))
    refine JS.cond rfl (fun ht26 => ?_) (fun ht26 => ?_)
    · have h := condT h ht26
      refine JS.seq (JS.region (JO.reg ttOk 1 [] [] [(4, .v (.int .i64 (-1)))] _ rfl ⟨⟨rfl, trivial⟩, rfl⟩ (JO.done rfl ?_)))
      cases h
      exact JS.ret ttOk () trivial rfl rfl [] rfl
    have h := condF h ht26
    refine JS.skip (JS.seq (JS.region (JO.reg ttOk 3 [] [] [(12, .v (.slice a7 x0.2.2.1.length c8)), (13, .v (.int .i64 y15))] _ rfl ⟨⟨rfl, rfl, trivial⟩, rfl⟩ ?_)))
    obtain ⟨y17, hy18, h⟩ := bindO_some h
    refine JO.call rfl rfl rfl rfl (ok_l_heldIntS x0.2.2.1 y15 a7 c8 x0.2.2.1.length rfl _ hy18) rfl [1] rfl rfl fun _ _ => JO.reg ttOk 1 [] [] [(1, .v (.int .i64 y17))] _ rfl ⟨⟨rfl, trivial⟩, rfl⟩ (JO.done rfl (JS.seq (JS.seq (JS.region (JO.reg ttOk 2 [] [] [(16, .v (.bool (decide (y17 < 0))))] _ rfl ⟨⟨rfl, trivial⟩, rfl⟩ (JO.done rfl ?_))))))
    refine JS.cond rfl (fun ht25 => ?_) (fun ht25 => ?_)
    · have h := condT h ht25
      refine JS.seq (JS.region (JO.reg ttOk 1 [] [] [(4, .v (.int .i64 (-1)))] _ rfl ⟨⟨rfl, trivial⟩, rfl⟩ (JO.done rfl ?_)))
      cases h
      exact JS.ret ttOk () trivial rfl rfl [] rfl
    have h := condF h ht25
    refine JS.skip (JS.seq (JS.region (JO.reg ttOk 3 [] [] [(18, .v (.slice a11 x0.2.2.2.1.length c12)), (19, .v (.int .i64 y17))] _ rfl ⟨⟨rfl, rfl, trivial⟩, rfl⟩ ?_)))
    obtain ⟨y19, hy20, h⟩ := bindO_some h
    refine JO.call rfl rfl rfl rfl (ok_l_heldByteS x0.2.2.2.1 y17 a11 c12 x0.2.2.2.1.length rfl _ hy20) rfl [2] rfl rfl fun _ _ => JO.reg ttOk 1 [] [] [(1, .v (.int .i64 y19))] _ rfl ⟨⟨rfl, trivial⟩, rfl⟩ (JO.done rfl (JS.seq (JS.seq (JS.region (JO.reg ttOk 2 [] [] [(22, .v (.bool (decide (y19 < 0))))] _ rfl ⟨⟨rfl, trivial⟩, rfl⟩ (JO.done rfl ?_))))))
    refine JS.cond rfl (fun ht24 => ?_) (fun ht24 => ?_)
    · have h := condT h ht24
      refine JS.seq (JS.region (JO.reg ttOk 1 [] [] [(4, .v (.int .i64 (-1)))] _ rfl ⟨⟨rfl, trivial⟩, rfl⟩ (JO.done rfl ?_)))
      cases h
      exact JS.ret ttOk () trivial rfl rfl [] rfl
    have h := condF h ht24
    refine JS.skip (JS.seq (JS.region (JO.reg ttOk 2 [] [] [(4, .v (.int .i64 y19))] _ rfl ⟨⟨rfl, trivial⟩, rfl⟩ (JO.done rfl ?_))))
    cases h
    exact JS.ret ttOk () trivial rfl rfl [] rfl

def M_l_FnExactVtFeed (x0 : (Int × Int × List Int × Int × Int × Bool) × Int × List Int × List UInt8 × Int) (x1 : List UInt8) : Option Bool :=
  (bif (decide (1048576 < (x1.length : Int))) then
  some true
  else
  (bindO (M_l_szVt x0 1048576) fun (y19 : Int) =>
  (bif (decide (y19 < 0)) then
  some true
  else
  (bindO (M_l_toVt x0) fun (y21 : (Int × Int × List Int × Int × Int × Bool) × Int × List Int × List UInt8 × Int) =>
  (bindO (M_l_toByteS x1) fun (y29 : List UInt8) =>
  (bindO (M_s_VtFeed y21 y29) fun (y33 : (Int × Int × List Int × Int × Int × Bool) × Int × List Int × List UInt8 × Int) =>
  (bindO (M_l_toVt x0) fun (y41 : (Int × Int × List Int × Int × Int × Bool) × Int × List Int × List UInt8 × Int) =>
  (bindO (M_l_toByteS x1) fun (y49 : List UInt8) =>
  (bindO (M_i_VtFeed y41 y49) fun (y53 : (Int × Int × List Int × Int × Int × Bool) × Int × List Int × List UInt8 × Int) =>
  (bindO (M_l_eqVt y53 y33) fun (y61 : Bool) =>
  (bif (!y61) then
  some false
  else
  (bindO (M_l_toVt x0) fun (y63 : (Int × Int × List Int × Int × Int × Bool) × Int × List Int × List UInt8 × Int) =>
  (bindO (M_l_eqVt y41 y63) fun (y71 : Bool) =>
  (bif (!y71) then
  some false
  else
  (bindO (M_l_toByteS x1) fun (y74 : List UInt8) =>
  (bindO (M_l_eqByteS y49 y74) fun (y78 : Bool) =>
  (bif (!y78) then
  some false
  else
  (bindO (M_l_markVt y41 1) fun (y80, y81, y82, y83) =>
  (bindO (M_l_markByteS y49 y80) fun (y88, y89) =>
  (callO ((decide (y88 < 0)) = false) (M_l_eqVt y53 y33) false fun (y92 : Bool) =>
  (bif (bif (decide (y88 < 0)) then true else (!y92)) then
  some false
  else
  (bindO (M_l_markVt y53 1) fun (y95, y96, y97, y98) =>
  (bindO (M_l_heldVt ((y53.1.1, y53.1.2.1, y96, y53.1.2.2.2.1, y53.1.2.2.2.2.1, y53.1.2.2.2.2.2), y53.2.1, y97, y98, y53.2.2.2.2) 1) fun (y103 : Int) =>
  (bif (decide (y103 < 0)) then
  some false
  else
  (bif (!(decide (y103 = y95))) then
  some false
  else
  (bindO (M_l_toVt x0) fun (y105 : (Int × Int × List Int × Int × Int × Bool) × Int × List Int × List UInt8 × Int) =>
  (bindO (M_l_toByteS x1) fun (y113 : List UInt8) =>
  (bindO (M_i_VtFeed y105 y113) fun (y117 : (Int × Int × List Int × Int × Int × Bool) × Int × List Int × List UInt8 × Int) =>
  (bindO (M_l_eqVt y117 y33) fun (y125 : Bool) =>
  (bif (!y125) then
  some false
  else
  (bindO (M_l_heldVt ((y53.1.1, y53.1.2.1, y96, y53.1.2.2.2.1, y53.1.2.2.2.2.1, y53.1.2.2.2.2.2), y53.2.1, y97, y98, y53.2.2.2.2) 1) fun (y127 : Int) =>
  (bif (decide (y127 < 0)) then
  some false
  else
  (bif (!(decide (y127 = y95))) then
  some false
  else
  some true)))))))))))))))))))))))))))))))))

theorem ok_l_FnExactVtFeed (x0 : (Int × Int × List Int × Int × Int × Bool) × Int × List Int × List UInt8 × Int) (x1 : List UInt8) (a3 : Option Addr) (c4 : Nat) (l5 : Nat) (hl6 : x0.1.2.2.1.length = l5) (a7 : Option Addr) (c8 : Nat) (l9 : Nat) (hl10 : x0.2.2.1.length = l9) (a11 : Option Addr) (c12 : Nat) (l13 : Nat) (hl14 : x0.2.2.2.1.length = l13) (a15 : Option Addr) (c16 : Nat) (l17 : Nat) (hl18 : x1.length = l17) (r : Bool) (h : M_l_FnExactVtFeed x0 x1 = some r) :
    FC Try.prog 8 [.agg #[.int .i64 x0.1.1, .int .i64 x0.1.2.1, .slice a3 l5 c4, .int .i64 x0.1.2.2.2.1, .int .i64 x0.1.2.2.2.2.1, .bool x0.1.2.2.2.2.2, .int .i64 x0.2.1, .slice a7 l9 c8, .slice a11 l13 c12, .int .i64 x0.2.2.2.2], .slice a15 l17 c16] [⟨(.int .i64), ⟨a3, l5, c4⟩, x0.1.2.2.1⟩, ⟨(.int .i64), ⟨a7, l9, c8⟩, x0.2.2.1⟩, ⟨.byte, ⟨a11, l13, c12⟩, x0.2.2.2.1⟩, ⟨.byte, ⟨a15, l17, c16⟩, x1⟩] (fun _ : Unit => True) (fun _ => .bool r) (fun _ => []) :=
  by
    subst hl6
    subst hl10
    subst hl14
    subst hl18
    refine FC.of (T := TTx) Try.call8 Try.func8 rfl rfl fun w0 => ?_
    unfold M_l_FnExactVtFeed at h
    refine JS.seq (JS.region (JO.regB ttOk 2 [] [5] [(2, .bp 5 0)] (.new 5 54 (cl54 x0 a3 c4 a7 c8 a11 c12) .nil) rfl ⟨⟨rfl, trivial⟩, ⟨rfl, rfl, rfl, rfl, trivial⟩⟩ (JO.done rfl (JS.seq (JS.seq (JS.region (JO.reg ttOk 3 [] [] [(16, .v (.bool (decide (1048576 < (x1.length : Int)))))] _ rfl ⟨⟨rfl, trivial⟩, rfl⟩ (JO.done rfl ?_))))))))
    refine JS.cond rfl (fun ht151 => ?_) (fun ht151 => ?_)
    · have h := condT h ht151
      refine JS.seq (JS.region (JO.reg ttOk 1 [] [] [(4, .v (.bool true))] _ rfl ⟨⟨rfl, trivial⟩, rfl⟩ (JO.done rfl ?_)))
      cases h
      exact JS.ret ttOk () trivial rfl rfl [] rfl
    have h := condF h ht151
    refine JS.skip (JS.seq (JS.region (JO.reg ttOk 1 [] [] [(5, .v (.int .i64 1048576))] _ rfl ⟨⟨rfl, trivial⟩, rfl⟩ (JO.done rfl (JS.seq (JS.region (JO.reg ttOk 2 [] [] [(17, .v (.agg (cl54 x0 a3 c4 a7 c8 a11 c12).toArray)), (18, .v (.int .i64 1048576))] _ rfl ⟨⟨rfl, rfl, trivial⟩, rfl⟩ ?_)))))))
    obtain ⟨y19, hy20, h⟩ := bindO_some h
    refine JO.call rfl rfl rfl rfl (ok_l_szVt x0 1048576 a3 c4 x0.1.2.2.1.length rfl a7 c8 x0.2.2.1.length rfl a11 c12 x0.2.2.2.1.length rfl _ hy20) rfl [0, 1, 2] rfl rfl fun _ _ => JO.reg ttOk 1 [] [] [(5, .v (.int .i64 y19))] _ rfl ⟨⟨rfl, trivial⟩, rfl⟩ (JO.done rfl (JS.seq (JS.seq (JS.region (JO.reg ttOk 2 [] [] [(21, .v (.bool (decide (y19 < 0))))] _ rfl ⟨⟨rfl, trivial⟩, rfl⟩ (JO.done rfl ?_))))))
    refine JS.cond rfl (fun ht150 => ?_) (fun ht150 => ?_)
    · have h := condT h ht150
      refine JS.seq (JS.region (JO.reg ttOk 1 [] [] [(4, .v (.bool true))] _ rfl ⟨⟨rfl, trivial⟩, rfl⟩ (JO.done rfl ?_)))
      cases h
      exact JS.ret ttOk () trivial rfl rfl [] rfl
    have h := condF h ht150
    refine JS.skip (JS.seq (JS.region (JO.reg ttOk 1 [] [] [(22, .v (.agg (cl54 x0 a3 c4 a7 c8 a11 c12).toArray))] _ rfl ⟨⟨rfl, trivial⟩, rfl⟩ ?_)))
    obtain ⟨y21, hy22, h⟩ := bindO_some h
    refine JO.call rfl rfl rfl rfl (ok_l_toVt x0 a3 c4 x0.1.2.2.1.length rfl a7 c8 x0.2.2.1.length rfl a11 c12 x0.2.2.2.1.length rfl _ hy22) rfl [0, 1, 2] rfl rfl ?_
    rintro ⟨a23, c24, a25, c26, a27, c28⟩ -
    refine JO.reg ttOk 1 [] [] [(24, .v (.slice a15 x1.length c16))] _ rfl ⟨⟨rfl, trivial⟩, rfl⟩ ?_
    obtain ⟨y29, hy30, h⟩ := bindO_some h
    refine JO.call rfl rfl rfl rfl (ok_l_toByteS x1 a15 c16 x1.length rfl _ hy30) rfl [3] rfl rfl ?_
    rintro ⟨a31, c32⟩ -
    obtain ⟨y33, hy34, h⟩ := bindO_some h
    refine JO.call rfl rfl rfl rfl (ok_s_VtFeed y21 y29 a23 c24 y21.1.2.2.1.length rfl a25 c26 y21.2.2.1.length rfl a27 c28 y21.2.2.2.1.length rfl a31 c32 y29.length rfl _ hy34) rfl [5, 6, 7, 4] rfl rfl ?_
    rintro ⟨a35, c36, a37, c38, a39, c40⟩ -
    refine JO.regB ttOk 2 [] [35] [(6, .bp 35 0)] (.new 5 54 (cl54 x0 a3 c4 a7 c8 a11 c12) (.new 35 45 (cl45 y33 a35 c36 a37 c38 a39 c40) .nil)) rfl ⟨⟨rfl, trivial⟩, ⟨rfl, rfl, rfl, rfl, rfl, rfl, rfl, rfl, trivial⟩⟩ (JO.done rfl (JS.seq (JS.region (JO.reg ttOk 1 [] [] [(27, .v (.agg (cl54 x0 a3 c4 a7 c8 a11 c12).toArray))] _ rfl ⟨⟨rfl, trivial⟩, rfl⟩ ?_))))
    obtain ⟨y41, hy42, h⟩ := bindO_some h
    refine JO.call rfl rfl rfl rfl (ok_l_toVt x0 a3 c4 x0.1.2.2.1.length rfl a7 c8 x0.2.2.1.length rfl a11 c12 x0.2.2.2.1.length rfl _ hy42) rfl [0, 1, 2] rfl rfl ?_
    rintro ⟨a43, c44, a45, c46, a47, c48⟩ -
    refine JO.regB ttOk 2 [] [47] [(7, .bp 47 0)] (.new 5 54 (cl54 x0 a3 c4 a7 c8 a11 c12) (.new 35 45 (cl45 y33 a35 c36 a37 c38 a39 c40) (.new 47 45 (cl45 y41 a43 c44 a45 c46 a47 c48) .nil))) rfl ⟨⟨rfl, trivial⟩, ⟨rfl, rfl, rfl, rfl, rfl, rfl, rfl, rfl, rfl, rfl, rfl, rfl, trivial⟩⟩ (JO.done rfl (JS.seq (JS.region (JO.reg ttOk 1 [] [] [(29, .v (.slice a15 x1.length c16))] _ rfl ⟨⟨rfl, trivial⟩, rfl⟩ ?_))))
    obtain ⟨y49, hy50, h⟩ := bindO_some h
    refine JO.call rfl rfl rfl rfl (ok_l_toByteS x1 a15 c16 x1.length rfl _ hy50) rfl [3] rfl rfl ?_
    rintro ⟨a51, c52⟩ -
    refine JO.reg ttOk 1 [] [] [(8, .v (.slice a51 y49.length c52))] _ rfl ⟨⟨rfl, trivial⟩, rfl⟩ (JO.done rfl (JS.seq (JS.region (JO.reg ttOk 2 [] [] [(31, .v (.agg (cl45 y41 a43 c44 a45 c46 a47 c48).toArray)), (32, .v (.slice a51 y49.length c52))] _ rfl ⟨⟨rfl, rfl, trivial⟩, rfl⟩ ?_))))
    obtain ⟨y53, hy54, h⟩ := bindO_some h
    refine JO.call rfl rfl rfl rfl (ok_i_VtFeed y41 y49 a43 c44 y41.1.2.2.1.length rfl a45 c46 y41.2.2.1.length rfl a47 c48 y41.2.2.2.1.length rfl a51 c52 y49.length rfl _ hy54) rfl [5, 6, 7, 4] rfl rfl ?_
    rintro ⟨a55, c56, a57, c58, a59, c60⟩ -
    refine JO.regB ttOk 2 [] [64] [(9, .bp 64 0)] (.new 5 54 (cl54 x0 a3 c4 a7 c8 a11 c12) (.new 35 45 (cl45 y33 a35 c36 a37 c38 a39 c40) (.new 47 45 (cl45 y41 a43 c44 a45 c46 a47 c48) (.new 64 45 (cl45 y53 a55 c56 a57 c58 a59 c60) .nil)))) rfl ⟨⟨rfl, trivial⟩, ⟨rfl, rfl, rfl, rfl, rfl, rfl, rfl, rfl, rfl, rfl, rfl, rfl, rfl, rfl, rfl, rfl, trivial⟩⟩ (JO.done rfl (JS.seq (JS.seq (JS.norm [true, true, true, true, true, true, true, true, true, true, false, false, false, false] [⟨(.int .i64), ⟨a3, x0.1.2.2.1.length, c4⟩, x0.1.2.2.1⟩, ⟨(.int .i64), ⟨a7, x0.2.2.1.length, c8⟩, x0.2.2.1⟩, ⟨.byte, ⟨a11, x0.2.2.2.1.length, c12⟩, x0.2.2.2.1⟩, ⟨.byte, ⟨a15, x1.length, c16⟩, x1⟩] [⟨(.int .i64), ⟨a55, y53.1.2.2.1.length, c56⟩, y53.1.2.2.1⟩, ⟨(.int .i64), ⟨a57, y53.2.2.1.length, c58⟩, y53.2.2.1⟩, ⟨.byte, ⟨a59, y53.2.2.2.1.length, c60⟩, y53.2.2.2.1⟩, ⟨.byte, ⟨a51, y49.length, c52⟩, y49⟩, ⟨(.int .i64), ⟨a43, y41.1.2.2.1.length, c44⟩, y41.1.2.2.1⟩, ⟨(.int .i64), ⟨a45, y41.2.2.1.length, c46⟩, y41.2.2.1⟩, ⟨.byte, ⟨a47, y41.2.2.2.1.length, c48⟩, y41.2.2.2.1⟩, ⟨(.int .i64), ⟨a35, y33.1.2.2.1.length, c36⟩, y33.1.2.2.1⟩, ⟨(.int .i64), ⟨a37, y33.2.2.1.length, c38⟩, y33.2.2.1⟩, ⟨.byte, ⟨a39, y33.2.2.2.1.length, c40⟩, y33.2.2.2.1⟩] rfl rfl (JS.region (JO.reg ttOk 2 [] [] [(34, .v (.agg (cl45 y53 a55 c56 a57 c58 a59 c60).toArray)), (35, .v (.agg (cl45 y33 a35 c36 a37 c38 a39 c40).toArray))] _ rfl ⟨⟨rfl, rfl, trivial⟩, rfl⟩ ?_))))))
    obtain ⟨y61, hy62, h⟩ := bindO_some h
    refine JO.call rfl rfl rfl rfl (ok_l_eqVt y53 y33 a55 c56 y53.1.2.2.1.length rfl a57 c58 y53.2.2.1.length rfl a59 c60 y53.2.2.2.1.length rfl a35 c36 y33.1.2.2.1.length rfl a37 c38 y33.2.2.1.length rfl a39 c40 y33.2.2.2.1.length rfl _ hy62) rfl [4, 5, 6, 11, 12, 13] rfl rfl fun _ _ => JO.reg ttOk 1 [] [] [(37, .v (.bool (!y61)))] _ rfl ⟨⟨rfl, trivial⟩, rfl⟩ (JO.done rfl ?_)
    refine JS.cond rfl (fun ht149 => ?_) (fun ht149 => ?_)
    · have h := condT h ht149
      refine JS.seq (JS.region (JO.reg ttOk 1 [] [] [(4, .v (.bool false))] _ rfl ⟨⟨rfl, trivial⟩, rfl⟩ (JO.done rfl ?_)))
      cases h
      exact JS.ret ttOk () trivial rfl rfl [] rfl
    have h := condF h ht149
    refine JS.skip (JS.seq (JS.seq ?_))
    obtain ⟨y63, hy64, h⟩ := bindO_some h
    obtain ⟨y71, hy72, h⟩ := bindO_some h
    refine JS.regionA rfl (.new 5 54 (cl54 x0 a3 c4 a7 c8 a11 c12) (.new 47 45 (cl45 y41 a43 c44 a45 c46 a47 c48) .nil)) [] [3, 4] ⟨rfl, rfl, rfl, rfl, rfl, rfl, rfl, rfl, trivial⟩ rfl (fun be73 => ?_)
    refine JA.reg ttOk panic_cx true 3 [0, 1] rfl (by kernel_rfl) [] [(38, .v (.agg (cl45 y41 a43 c44 a45 c46 a47 c48).toArray)), (39, .v (.agg (cl54 x0 a3 c4 a7 c8 a11 c12).toArray))] ⟨rfl, rfl, rfl, rfl, rfl, rfl, rfl, rfl, trivial⟩ [] rfl rfl ⟨rfl, rfl, trivial⟩ (JA.one 2 (by kernel_rfl) (JK.call rfl rfl rfl rfl (ok_l_toVt x0 a3 c4 x0.1.2.2.1.length rfl a7 c8 x0.2.2.1.length rfl a11 c12 x0.2.2.2.1.length rfl _ hy64) rfl [0, 1, 2] rfl rfl ?_))
    rintro ⟨a65, c66, a67, c68, a69, c70⟩ -
    refine JA.next ⟨rfl, rfl, rfl, rfl, rfl, rfl, rfl, rfl, trivial⟩ [] rfl (JA.one 3 (by kernel_rfl) (JK.call rfl rfl rfl rfl (ok_l_eqVt y41 y63 a43 c44 y41.1.2.2.1.length rfl a45 c46 y41.2.2.1.length rfl a47 c48 y41.2.2.2.1.length rfl a65 c66 y63.1.2.2.1.length rfl a67 c68 y63.2.2.1.length rfl a69 c70 y63.2.2.2.1.length rfl _ hy72) rfl [11, 12, 13, 4, 5, 6] rfl rfl fun _ _ => JA.nextL rfl (JA.regL ttOk panic_cx 0 [4] rfl (by kernel_rfl) [] [(42, .v (.bool (!y71)))] rfl ⟨rfl, trivial⟩ (JA.done (by kernel_rfl) (JS.boxes (B' := (.new 5 54 (cl54 x0 a3 c4 a7 c8 a11 c12) (.new 35 45 (cl45 y33 a35 c36 a37 c38 a39 c40) (.new 47 45 (cl45 y41 a43 c44 a45 c46 a47 c48) (.new 64 45 (cl45 y53 a55 c56 a57 c58 a59 c60) .nil))))) ⟨rfl, rfl, rfl, rfl, rfl, rfl, rfl, rfl, rfl, rfl, rfl, rfl, rfl, rfl, rfl, rfl, trivial⟩ ?_)))))
    refine JS.cond rfl (fun ht148 => ?_) (fun ht148 => ?_)
    · have h := condT h ht148
      refine JS.seq (JS.norm [false, false, false, true, true, true, false, true, true, true, true, true, true] [⟨(.int .i64), ⟨a3, x0.1.2.2.1.length, c4⟩, x0.1.2.2.1⟩, ⟨(.int .i64), ⟨a7, x0.2.2.1.length, c8⟩, x0.2.2.1⟩, ⟨.byte, ⟨a11, x0.2.2.2.1.length, c12⟩, x0.2.2.2.1⟩, ⟨.byte, ⟨a15, x1.length, c16⟩, x1⟩] [⟨(.int .i64), ⟨a55, y53.1.2.2.1.length, c56⟩, y53.1.2.2.1⟩, ⟨(.int .i64), ⟨a57, y53.2.2.1.length, c58⟩, y53.2.2.1⟩, ⟨.byte, ⟨a59, y53.2.2.2.1.length, c60⟩, y53.2.2.2.1⟩, ⟨(.int .i64), ⟨a43, y41.1.2.2.1.length, c44⟩, y41.1.2.2.1⟩, ⟨(.int .i64), ⟨a45, y41.2.2.1.length, c46⟩, y41.2.2.1⟩, ⟨.byte, ⟨a47, y41.2.2.2.1.length, c48⟩, y41.2.2.2.1⟩, ⟨(.int .i64), ⟨a35, y33.1.2.2.1.length, c36⟩, y33.1.2.2.1⟩, ⟨(.int .i64), ⟨a37, y33.2.2.1.length, c38⟩, y33.2.2.1⟩, ⟨.byte, ⟨a39, y33.2.2.2.1.length, c40⟩, y33.2.2.2.1⟩] rfl rfl (JS.region (JO.reg ttOk 1 [] [] [(4, .v (.bool false))] _ rfl ⟨⟨rfl, trivial⟩, rfl⟩ (JO.done rfl ?_))))
      cases h
      exact JS.ret ttOk () trivial rfl rfl [] rfl
    have h := condF h ht148
    refine JS.skip (JS.seq (JS.seq (JS.norm [false, false, false, true, true, true, true, true, true, true, true, true, true] [⟨(.int .i64), ⟨a3, x0.1.2.2.1.length, c4⟩, x0.1.2.2.1⟩, ⟨(.int .i64), ⟨a7, x0.2.2.1.length, c8⟩, x0.2.2.1⟩, ⟨.byte, ⟨a11, x0.2.2.2.1.length, c12⟩, x0.2.2.2.1⟩, ⟨.byte, ⟨a15, x1.length, c16⟩, x1⟩] [⟨(.int .i64), ⟨a55, y53.1.2.2.1.length, c56⟩, y53.1.2.2.1⟩, ⟨(.int .i64), ⟨a57, y53.2.2.1.length, c58⟩, y53.2.2.1⟩, ⟨.byte, ⟨a59, y53.2.2.2.1.length, c60⟩, y53.2.2.2.1⟩, ⟨.byte, ⟨a51, y49.length, c52⟩, y49⟩, ⟨(.int .i64), ⟨a43, y41.1.2.2.1.length, c44⟩, y41.1.2.2.1⟩, ⟨(.int .i64), ⟨a45, y41.2.2.1.length, c46⟩, y41.2.2.1⟩, ⟨.byte, ⟨a47, y41.2.2.2.1.length, c48⟩, y41.2.2.2.1⟩, ⟨(.int .i64), ⟨a35, y33.1.2.2.1.length, c36⟩, y33.1.2.2.1⟩, ⟨(.int .i64), ⟨a37, y33.2.2.1.length, c38⟩, y33.2.2.1⟩, ⟨.byte, ⟨a39, y33.2.2.2.1.length, c40⟩, y33.2.2.2.1⟩] rfl rfl (JS.region (JO.reg ttOk 2 [] [] [(43, .v (.slice a51 y49.length c52)), (44, .v (.slice a15 x1.length c16))] _ rfl ⟨⟨rfl, rfl, trivial⟩, rfl⟩ ?_)))))
    obtain ⟨y74, hy75, h⟩ := bindO_some h
    refine JO.call rfl rfl rfl rfl (ok_l_toByteS x1 a15 c16 x1.length rfl _ hy75) rfl [3] rfl rfl ?_
    rintro ⟨a76, c77⟩ -
    obtain ⟨y78, hy79, h⟩ := bindO_some h
    refine JO.call rfl rfl rfl rfl (ok_l_eqByteS y49 y74 a51 c52 y49.length rfl a76 c77 y74.length rfl _ hy79) rfl [8, 4] rfl rfl fun _ _ => JO.reg ttOk 1 [] [] [(47, .v (.bool (!y78)))] _ rfl ⟨⟨rfl, trivial⟩, rfl⟩ (JO.done rfl ?_)
    refine JS.cond rfl (fun ht147 => ?_) (fun ht147 => ?_)
    · have h := condT h ht147
      refine JS.seq (JS.region (JO.reg ttOk 1 [] [] [(4, .v (.bool false))] _ rfl ⟨⟨rfl, trivial⟩, rfl⟩ (JO.done rfl ?_)))
      cases h
      exact JS.ret ttOk () trivial rfl rfl [] rfl
    have h := condF h ht147
    refine JS.skip (JS.seq (JS.region (JO.reg ttOk 1 [] [] [(10, .v (.int .i64 1))] _ rfl ⟨⟨rfl, trivial⟩, rfl⟩ (JO.done rfl (JS.seq (JS.region (JO.reg ttOk 2 [] [] [(48, .v (.agg (cl45 y41 a43 c44 a45 c46 a47 c48).toArray)), (49, .v (.int .i64 1))] _ rfl ⟨⟨rfl, rfl, trivial⟩, rfl⟩ ?_)))))))
    obtain ⟨⟨y80, y81, y82, y83⟩, hy84, h⟩ := bindO_some h
    refine JO.callX rfl rfl rfl rfl (ok_l_markVt y41 1 a43 c44 y41.1.2.2.1.length rfl a45 c46 y41.2.2.1.length rfl a47 c48 y41.2.2.2.1.length rfl _ hy84) rfl [5, 5, 5] rfl [] rfl rfl fun _ _ => JO.know 4 rfl fun hs85 => JO.know 5 rfl fun hs86 => JO.know 6 rfl fun hs87 => JO.reg ttOk 1 [] [] [(10, .v (.int .i64 y80))] _ rfl ⟨⟨rfl, trivial⟩, rfl⟩ (JO.done rfl (JS.seq (JS.region (JO.reg ttOk 2 [] [] [(51, .v (.slice a51 y49.length c52)), (52, .v (.int .i64 y80))] _ rfl ⟨⟨rfl, rfl, trivial⟩, rfl⟩ ?_))))
    obtain ⟨⟨y88, y89⟩, hy90, h⟩ := bindO_some h
    refine JO.callX rfl rfl rfl rfl (ok_l_markByteS y49 y80 a51 c52 y49.length rfl _ hy90) rfl [7] rfl [] rfl rfl fun _ _ => JO.know 4 rfl fun hs91 => JO.reg ttOk 1 [] [] [(10, .v (.int .i64 y88))] _ rfl ⟨⟨rfl, trivial⟩, rfl⟩ (JO.done rfl (JS.seq (JS.seq (JS.region (JO.reg ttOk 5 [] [] [(56, .v (.bool (decide (y88 < 0)))), (57, .cd [(56, false)] (.v (.agg (cl45 y53 a55 c56 a57 c58 a59 c60).toArray))), (58, .cd [(56, false)] (.v (.agg (cl45 y33 a35 c36 a37 c38 a39 c40).toArray)))] _ rfl ⟨⟨rfl, rfl, rfl, trivial⟩, rfl⟩ ?_)))))
    obtain ⟨y92, hy93, -, h⟩ := callO_some h
    refine JO.callg rfl rfl rfl rfl (fun q140 => ok_l_eqVt y53 y33 a55 c56 y53.1.2.2.1.length rfl a57 c58 y53.2.2.1.length rfl a59 c60 y53.2.2.2.1.length rfl a35 c36 y33.1.2.2.1.length rfl a37 c38 y33.2.2.1.length rfl a39 c40 y33.2.2.2.1.length rfl _ (hy93 q140)) rfl [9, 10, 11, 12, 13, 14] rfl rfl (JO.reg ttOk 2 [] [] [(61, .v (.bool (bif (decide (y88 < 0)) then true else (!y92))))] _ rfl ⟨⟨rfl, trivial⟩, rfl⟩ (JO.done rfl ?_))
    refine JS.cond rfl (fun ht146 => ?_) (fun ht146 => ?_)
    · have h := condT h ht146
      refine JS.seq (JS.region (JO.reg ttOk 1 [] [] [(4, .v (.bool false))] _ rfl ⟨⟨rfl, trivial⟩, rfl⟩ (JO.done rfl ?_)))
      cases h
      exact JS.ret ttOk () trivial rfl rfl [] rfl
    have h := condF h ht146
    refine JS.skip (JS.seq (JS.region (JO.reg ttOk 1 [] [] [(11, .v (.int .i64 1))] _ rfl ⟨⟨rfl, trivial⟩, rfl⟩ (JO.done rfl (JS.seq (JS.region (JO.reg ttOk 2 [] [] [(62, .v (.agg (cl45 y53 a55 c56 a57 c58 a59 c60).toArray)), (63, .v (.int .i64 1))] _ rfl ⟨⟨rfl, rfl, trivial⟩, rfl⟩ ?_)))))))
    obtain ⟨⟨y95, y96, y97, y98⟩, hy99, h⟩ := bindO_some h
    refine JO.callX rfl rfl rfl rfl (ok_l_markVt y53 1 a55 c56 y53.1.2.2.1.length rfl a57 c58 y53.2.2.1.length rfl a59 c60 y53.2.2.2.1.length rfl _ hy99) rfl [5, 5, 5] rfl [] rfl rfl fun _ _ => JO.know 4 rfl fun hs100 => JO.know 5 rfl fun hs101 => JO.know 6 rfl fun hs102 => JO.reg ttOk 1 [] [] [(11, .v (.int .i64 y95))] _ rfl ⟨⟨rfl, trivial⟩, rfl⟩ (JO.done rfl (JS.seq (JS.region (JO.reg ttOk 1 [] [] [(12, .v (.int .i64 1))] _ rfl ⟨⟨rfl, trivial⟩, rfl⟩ (JO.done rfl (JS.seq (JS.region (JO.reg ttOk 2 [] [] [(65, .v (.agg (cl45 y53 a55 c56 a57 c58 a59 c60).toArray)), (66, .v (.int .i64 1))] _ rfl ⟨⟨rfl, rfl, trivial⟩, rfl⟩ ?_))))))))
    obtain ⟨y103, hy104, h⟩ := bindO_some h
    refine JO.call rfl rfl rfl rfl (ok_l_heldVt ((y53.1.1, y53.1.2.1, y96, y53.1.2.2.2.1, y53.1.2.2.2.2.1, y53.1.2.2.2.2.2), y53.2.1, y97, y98, y53.2.2.2.2) 1 a55 c56 y53.1.2.2.1.length hs100.len.symm a57 c58 y53.2.2.1.length hs101.len.symm a59 c60 y53.2.2.2.1.length hs102.len.symm _ hy104) rfl [4, 5, 6] rfl rfl fun _ _ => JO.reg ttOk 1 [] [] [(12, .v (.int .i64 y103))] _ rfl ⟨⟨rfl, trivial⟩, rfl⟩ (JO.done rfl (JS.seq (JS.seq (JS.region (JO.reg ttOk 2 [] [] [(69, .v (.bool (decide (y103 < 0))))] _ rfl ⟨⟨rfl, trivial⟩, rfl⟩ (JO.done rfl ?_))))))
    refine JS.cond rfl (fun ht145 => ?_) (fun ht145 => ?_)
    · have h := condT h ht145
      refine JS.seq (JS.region (JO.reg ttOk 1 [] [] [(4, .v (.bool false))] _ rfl ⟨⟨rfl, trivial⟩, rfl⟩ (JO.done rfl ?_)))
      cases h
      exact JS.ret ttOk () trivial rfl rfl [] rfl
    have h := condF h ht145
    refine JS.skip (JS.seq (JS.seq (JS.region (JO.reg ttOk 3 [] [] [(72, .v (.bool (!(decide (y103 = y95)))))] _ rfl ⟨⟨rfl, trivial⟩, rfl⟩ (JO.done rfl ?_)))))
    refine JS.cond rfl (fun ht144 => ?_) (fun ht144 => ?_)
    · have h := condT h ht144
      refine JS.seq (JS.region (JO.reg ttOk 1 [] [] [(4, .v (.bool false))] _ rfl ⟨⟨rfl, trivial⟩, rfl⟩ (JO.done rfl ?_)))
      cases h
      exact JS.ret ttOk () trivial rfl rfl [] rfl
    have h := condF h ht144
    refine JS.skip (JS.seq (JS.region (JO.reg ttOk 1 [] [] [(73, .v (.agg (cl54 x0 a3 c4 a7 c8 a11 c12).toArray))] _ rfl ⟨⟨rfl, trivial⟩, rfl⟩ ?_)))
    obtain ⟨y105, hy106, h⟩ := bindO_some h
    refine JO.call rfl rfl rfl rfl (ok_l_toVt x0 a3 c4 x0.1.2.2.1.length rfl a7 c8 x0.2.2.1.length rfl a11 c12 x0.2.2.2.1.length rfl _ hy106) rfl [0, 1, 2] rfl rfl ?_
    rintro ⟨a107, c108, a109, c110, a111, c112⟩ -
    refine JO.reg ttOk 1 [] [] [(75, .v (.slice a15 x1.length c16))] _ rfl ⟨⟨rfl, trivial⟩, rfl⟩ ?_
    obtain ⟨y113, hy114, h⟩ := bindO_some h
    refine JO.call rfl rfl rfl rfl (ok_l_toByteS x1 a15 c16 x1.length rfl _ hy114) rfl [3] rfl rfl ?_
    rintro ⟨a115, c116⟩ -
    obtain ⟨y117, hy118, h⟩ := bindO_some h
    refine JO.call rfl rfl rfl rfl (ok_i_VtFeed y105 y113 a107 c108 y105.1.2.2.1.length rfl a109 c110 y105.2.2.1.length rfl a111 c112 y105.2.2.2.1.length rfl a115 c116 y113.length rfl _ hy118) rfl [5, 6, 7, 4] rfl rfl ?_
    rintro ⟨a119, c120, a121, c122, a123, c124⟩ -
    refine JO.regB ttOk 2 [] [139] [(13, .bp 139 0)] (.new 35 45 (cl45 y33 a35 c36 a37 c38 a39 c40) (.new 64 45 (cl45 y53 a55 c56 a57 c58 a59 c60) (.new 139 45 (cl45 y117 a119 c120 a121 c122 a123 c124) .nil))) rfl ⟨⟨rfl, trivial⟩, ⟨rfl, rfl, rfl, rfl, rfl, rfl, rfl, rfl, rfl, rfl, rfl, rfl, trivial⟩⟩ (JO.done rfl (JS.seq (JS.seq (JS.norm [true, true, true, false, false, false, false, true, true, true, false, false, false, false, false, true, true, true] [⟨(.int .i64), ⟨a3, x0.1.2.2.1.length, c4⟩, x0.1.2.2.1⟩, ⟨(.int .i64), ⟨a7, x0.2.2.1.length, c8⟩, x0.2.2.1⟩, ⟨.byte, ⟨a11, x0.2.2.2.1.length, c12⟩, x0.2.2.2.1⟩, ⟨.byte, ⟨a15, x1.length, c16⟩, x1⟩] [⟨(.int .i64), ⟨a119, y117.1.2.2.1.length, c120⟩, y117.1.2.2.1⟩, ⟨(.int .i64), ⟨a121, y117.2.2.1.length, c122⟩, y117.2.2.1⟩, ⟨.byte, ⟨a123, y117.2.2.2.1.length, c124⟩, y117.2.2.2.1⟩, ⟨(.int .i64), ⟨a55, y53.1.2.2.1.length, c56⟩, y96⟩, ⟨(.int .i64), ⟨a57, y53.2.2.1.length, c58⟩, y97⟩, ⟨.byte, ⟨a59, y53.2.2.2.1.length, c60⟩, y98⟩, ⟨(.int .i64), ⟨a35, y33.1.2.2.1.length, c36⟩, y33.1.2.2.1⟩, ⟨(.int .i64), ⟨a37, y33.2.2.1.length, c38⟩, y33.2.2.1⟩, ⟨.byte, ⟨a39, y33.2.2.2.1.length, c40⟩, y33.2.2.2.1⟩] rfl rfl (JS.region (JO.reg ttOk 2 [] [] [(78, .v (.agg (cl45 y117 a119 c120 a121 c122 a123 c124).toArray)), (79, .v (.agg (cl45 y33 a35 c36 a37 c38 a39 c40).toArray))] _ rfl ⟨⟨rfl, rfl, trivial⟩, rfl⟩ ?_))))))
    obtain ⟨y125, hy126, h⟩ := bindO_some h
    refine JO.call rfl rfl rfl rfl (ok_l_eqVt y117 y33 a119 c120 y117.1.2.2.1.length rfl a121 c122 y117.2.2.1.length rfl a123 c124 y117.2.2.2.1.length rfl a35 c36 y33.1.2.2.1.length rfl a37 c38 y33.2.2.1.length rfl a39 c40 y33.2.2.2.1.length rfl _ hy126) rfl [4, 5, 6, 10, 11, 12] rfl rfl fun _ _ => JO.reg ttOk 1 [] [] [(81, .v (.bool (!y125)))] _ rfl ⟨⟨rfl, trivial⟩, rfl⟩ (JO.done rfl ?_)
    refine JS.cond rfl (fun ht143 => ?_) (fun ht143 => ?_)
    · have h := condT h ht143
      refine JS.seq (JS.region (JO.reg ttOk 1 [] [] [(4, .v (.bool false))] _ rfl ⟨⟨rfl, trivial⟩, rfl⟩ (JO.done rfl ?_)))
      cases h
      exact JS.ret ttOk () trivial rfl rfl [] rfl
    have h := condF h ht143
    refine JS.skip (JS.seq (JS.region (JO.reg ttOk 1 [] [] [(12, .v (.int .i64 1))] _ rfl ⟨⟨rfl, trivial⟩, rfl⟩ (JO.done rfl (JS.seq (JS.region (JO.reg ttOk 2 [] [] [(82, .v (.agg (cl45 y53 a55 c56 a57 c58 a59 c60).toArray)), (83, .v (.int .i64 1))] _ rfl ⟨⟨rfl, rfl, trivial⟩, rfl⟩ ?_)))))))
    obtain ⟨y127, hy128, h⟩ := bindO_some h
    refine JO.call rfl rfl rfl rfl (ok_l_heldVt ((y53.1.1, y53.1.2.1, y96, y53.1.2.2.2.1, y53.1.2.2.2.2.1, y53.1.2.2.2.2.2), y53.2.1, y97, y98, y53.2.2.2.2) 1 a55 c56 y53.1.2.2.1.length hs100.len.symm a57 c58 y53.2.2.1.length hs101.len.symm a59 c60 y53.2.2.2.1.length hs102.len.symm _ hy128) rfl [7, 8, 9] rfl rfl fun _ _ => JO.reg ttOk 1 [] [] [(12, .v (.int .i64 y127))] _ rfl ⟨⟨rfl, trivial⟩, rfl⟩ (JO.done rfl (JS.seq (JS.seq (JS.region (JO.reg ttOk 2 [] [] [(86, .v (.bool (decide (y127 < 0))))] _ rfl ⟨⟨rfl, trivial⟩, rfl⟩ (JO.done rfl ?_))))))
    refine JS.cond rfl (fun ht142 => ?_) (fun ht142 => ?_)
    · have h := condT h ht142
      refine JS.seq (JS.region (JO.reg ttOk 1 [] [] [(4, .v (.bool false))] _ rfl ⟨⟨rfl, trivial⟩, rfl⟩ (JO.done rfl ?_)))
      cases h
      exact JS.ret ttOk () trivial rfl rfl [] rfl
    have h := condF h ht142
    refine JS.skip (JS.seq (JS.seq (JS.region (JO.reg ttOk 3 [] [] [(89, .v (.bool (!(decide (y127 = y95)))))] _ rfl ⟨⟨rfl, trivial⟩, rfl⟩ (JO.done rfl ?_)))))
    refine JS.cond rfl (fun ht141 => ?_) (fun ht141 => ?_)
    · have h := condT h ht141
      refine JS.seq (JS.region (JO.reg ttOk 1 [] [] [(4, .v (.bool false))] _ rfl ⟨⟨rfl, trivial⟩, rfl⟩ (JO.done rfl ?_)))
      cases h
      exact JS.ret ttOk () trivial rfl rfl [] rfl
    have h := condF h ht141
    refine JS.skip (JS.seq (JS.region (JO.reg ttOk 1 [] [] [(4, .v (.bool true))] _ rfl ⟨⟨rfl, trivial⟩, rfl⟩ (JO.done rfl ?_))))
    cases h
    exact JS.ret ttOk () trivial rfl rfl [] rfl

end
end Go.Eng
