/- The walks of the functions that FnExactPlainKey reaches: what each computes, as a plain function (M_..), and that the model computes it (ok_..). Condition of each: that the plain function answers. -/
import Derived.Test.YtlpgcohnjhomgaaGreatFnExactPlainKeyWalkA
set_option linter.unusedVariables false
set_option linter.unusedSimpArgs false
namespace Go.Eng
open Go Go.Proofs
noncomputable section

def M_s_RuneBytes (x0 : Int) : Option (List UInt8) :=
  (bindO (M_s_RuneOk x0) fun (y2 : Bool) =>
  (bif (!y2) then
  some ([])
  else
  (bif (decide (x0 < 128)) then
  some ([(u8 (x0))] : List UInt8)
  else
  (bif (decide (x0 < 2048)) then
  some ([(u8 ((W (192 + (W (Int.tdiv x0 64)))))), (u8 ((W (128 + (Int.tmod x0 64)))))] : List UInt8)
  else
  (bif (decide (x0 < 65536)) then
  some ([(u8 ((W (224 + (W (Int.tdiv x0 4096)))))), (u8 ((W (128 + (Int.tmod (W (Int.tdiv x0 64)) 64))))), (u8 ((W (128 + (Int.tmod x0 64)))))] : List UInt8)
  else
  some ([(u8 ((W (240 + (W (Int.tdiv x0 262144)))))), (u8 ((W (128 + (Int.tmod (W (Int.tdiv x0 4096)) 64))))), (u8 ((W (128 + (Int.tmod (W (Int.tdiv x0 64)) 64))))), (u8 ((W (128 + (Int.tmod x0 64)))))] : List UInt8))))))

theorem ok_s_RuneBytes (x0 : Int) (r : List UInt8) (h : M_s_RuneBytes x0 = some r) :
  FC Tryz.prog 136 [.int .i64 x0] [] (fun _ : Option Addr × Nat => True) (fun q => .slice q.1 r.length q.2) (fun q => [⟨.byte, ⟨q.1, r.length, q.2⟩, r⟩]) :=
 by
  refine FC.of (T := TTx) Tryz.call136 Tryz.func136 E E fun w0 => ?_
  unfold M_s_RuneBytes at h
  refine JS.rg0 ttOk 1 [] ⟨V, E⟩ E E (JS.seq (JS.seq (JS.region (JO.reg ttOk 1 [] [] [(3, .v (I x0))] _ E ⟨⟨E, V⟩, E⟩ ?_))))
  obtain ⟨y2, hy3, h⟩ := bindO_some h
  refine JO.call E E E E (ok_s_RuneOk x0 _ hy3) E [] E E fun _ _ => JO.reg ttOk 1 [] [] [(5, .v (.bool (!y2)))] _ E ⟨⟨E, V⟩, E⟩ (JO.done E ?_)
  refine JS.cond E (fun ht27 => ?_) (fun ht27 => ?_)
  ·
   have h := condT h ht27
   refine JS.rg0 ttOk 1 [(2, .v (.slice none 0 0))] ⟨⟨E, V⟩, E⟩ E E ?_
   cases h
   refine JS.nilO .byte Sl.nil E E (JS.ret ttOk (none, 0) V E E [0] E)
  have h := condF h ht27
  refine JS.skip (JS.seq (JS.rg0 ttOk 2 [(7, .v (.bool (decide (x0 < 128))))] ⟨⟨E, V⟩, E⟩ E E ?_))
  refine JS.cond E (fun ht26 => ?_) (fun ht26 => ?_)
  ·
   have h := condT h ht26
   refine JS.seq (JS.region (JO.reg ttOk 2 [((u8 (x0)).toNat : Int)] [] [(9, .v (.int .u8 ((u8 (x0)).toNat : Int)))] _ E ⟨⟨V, u8_wrap _⟩, ⟨E, V⟩, E⟩ ?_))
   refine JO.ofK E (JK.buildSlice ttOk E E E E E E E E E E E [] E .byte [(u8 (x0))] ⟨E, E⟩ E E fun a4 => JO.toK ?_)
   refine JO.reg ttOk 1 [] [] [(2, .v (.slice a4 ([(u8 (x0))] : List UInt8).length ([(u8 (x0))] : List UInt8).length))] _ E ⟨⟨E, V⟩, E⟩ (JO.done E ?_)
   cases h
   exact JS.ret ttOk (a4, ([(u8 (x0))] : List UInt8).length) V E E [0] E
  have h := condF h ht26
  refine JS.skip (JS.seq (JS.rg0 ttOk 2 [(12, .v (.bool (decide (x0 < 2048))))] ⟨⟨E, V⟩, E⟩ E E ?_))
  refine JS.cond E (fun ht25 => ?_) (fun ht25 => ?_)
  ·
   have h := condT h ht25
   refine JS.seq (JS.region ?_)
   have g5 : (64 : Int) ≠ 0 := by decide
   have g6 : (64 : Int) ≠ 0 := by decide
   refine JO.reg ttOk 8 [(W (Int.tdiv x0 64)), (W (192 + (W (Int.tdiv x0 64)))), ((u8 ((W (192 + (W (Int.tdiv x0 64)))))).toNat : Int), (W (128 + (Int.tmod x0 64))), ((u8 ((W (128 + (Int.tmod x0 64))))).toNat : Int)] [] [(16, .v (.int .u8 ((u8 ((W (192 + (W (Int.tdiv x0 64)))))).toNat : Int))), (20, .v (.int .u8 ((u8 ((W (128 + (Int.tmod x0 64))))).toNat : Int)))] _ E ⟨⟨g5, E⟩, ⟨V, E⟩, ⟨V, u8_wrap _⟩, g6, ⟨V, E⟩, ⟨V, u8_wrap _⟩, (Es E), E⟩ ?_
   refine JO.ofK E (JK.buildSlice ttOk E E E E E E E E E E E [] E .byte [(u8 ((W (192 + (W (Int.tdiv x0 64)))))), (u8 ((W (128 + (Int.tmod x0 64)))))] ⟨E, E⟩ E E fun a7 => JO.toK ?_)
   refine JO.reg ttOk 1 [] [] [(2, .v (.slice a7 ([(u8 ((W (192 + (W (Int.tdiv x0 64)))))), (u8 ((W (128 + (Int.tmod x0 64)))))] : List UInt8).length ([(u8 ((W (192 + (W (Int.tdiv x0 64)))))), (u8 ((W (128 + (Int.tmod x0 64)))))] : List UInt8).length))] _ E ⟨⟨E, V⟩, E⟩ (JO.done E ?_)
   cases h
   exact JS.ret ttOk (a7, ([(u8 ((W (192 + (W (Int.tdiv x0 64)))))), (u8 ((W (128 + (Int.tmod x0 64)))))] : List UInt8).length) V E E [0] E
  have h := condF h ht25
  refine JS.skip (JS.seq (JS.rg0 ttOk 2 [(23, .v (.bool (decide (x0 < 65536))))] ⟨⟨E, V⟩, E⟩ E E ?_))
  refine JS.cond E (fun ht24 => ?_) (fun ht24 => ?_)
  ·
   have h := condT h ht24
   refine JS.seq (JS.region ?_)
   have g8 : (4096 : Int) ≠ 0 := by decide
   have g9 : (64 : Int) ≠ 0 := by decide
   have g10 : (64 : Int) ≠ 0 := by decide
   have g11 : (64 : Int) ≠ 0 := by decide
   refine JO.reg ttOk 13 [(W (Int.tdiv x0 4096)), (W (224 + (W (Int.tdiv x0 4096)))), ((u8 ((W (224 + (W (Int.tdiv x0 4096)))))).toNat : Int), (W (Int.tdiv x0 64)), (W (128 + (Int.tmod (W (Int.tdiv x0 64)) 64))), ((u8 ((W (128 + (Int.tmod (W (Int.tdiv x0 64)) 64))))).toNat : Int), (W (128 + (Int.tmod x0 64))), ((u8 ((W (128 + (Int.tmod x0 64))))).toNat : Int)] [] [(27, .v (.int .u8 ((u8 ((W (224 + (W (Int.tdiv x0 4096)))))).toNat : Int))), (32, .v (.int .u8 ((u8 ((W (128 + (Int.tmod (W (Int.tdiv x0 64)) 64))))).toNat : Int))), (36, .v (.int .u8 ((u8 ((W (128 + (Int.tmod x0 64))))).toNat : Int)))] _ E ⟨⟨g8, E⟩, ⟨V, E⟩, ⟨V, u8_wrap _⟩, ⟨g9, E⟩, g10, ⟨V, E⟩, ⟨V, u8_wrap _⟩, g11, ⟨V, E⟩, ⟨V, u8_wrap _⟩, (Es E), E⟩ ?_
   refine JO.ofK E (JK.buildSlice ttOk E E E E E E E E E E E [] E .byte [(u8 ((W (224 + (W (Int.tdiv x0 4096)))))), (u8 ((W (128 + (Int.tmod (W (Int.tdiv x0 64)) 64))))), (u8 ((W (128 + (Int.tmod x0 64)))))] ⟨E, E⟩ E E fun a12 => JO.toK ?_)
   refine JO.reg ttOk 1 [] [] [(2, .v (.slice a12 ([(u8 ((W (224 + (W (Int.tdiv x0 4096)))))), (u8 ((W (128 + (Int.tmod (W (Int.tdiv x0 64)) 64))))), (u8 ((W (128 + (Int.tmod x0 64)))))] : List UInt8).length ([(u8 ((W (224 + (W (Int.tdiv x0 4096)))))), (u8 ((W (128 + (Int.tmod (W (Int.tdiv x0 64)) 64))))), (u8 ((W (128 + (Int.tmod x0 64)))))] : List UInt8).length))] _ E ⟨⟨E, V⟩, E⟩ (JO.done E ?_)
   cases h
   exact JS.ret ttOk (a12, ([(u8 ((W (224 + (W (Int.tdiv x0 4096)))))), (u8 ((W (128 + (Int.tmod (W (Int.tdiv x0 64)) 64))))), (u8 ((W (128 + (Int.tmod x0 64)))))] : List UInt8).length) V E E [0] E
  have h := condF h ht24
  refine JS.skip (JS.seq (JS.region ?_))
  have g13 : (262144 : Int) ≠ 0 := by decide
  have g14 : (4096 : Int) ≠ 0 := by decide
  have g15 : (64 : Int) ≠ 0 := by decide
  have g16 : (64 : Int) ≠ 0 := by decide
  have g17 : (64 : Int) ≠ 0 := by decide
  have g18 : (64 : Int) ≠ 0 := by decide
  refine JO.reg ttOk 18 [(W (Int.tdiv x0 262144)), (W (240 + (W (Int.tdiv x0 262144)))), ((u8 ((W (240 + (W (Int.tdiv x0 262144)))))).toNat : Int), (W (Int.tdiv x0 4096)), (W (128 + (Int.tmod (W (Int.tdiv x0 4096)) 64))), ((u8 ((W (128 + (Int.tmod (W (Int.tdiv x0 4096)) 64))))).toNat : Int), (W (Int.tdiv x0 64)), (W (128 + (Int.tmod (W (Int.tdiv x0 64)) 64))), ((u8 ((W (128 + (Int.tmod (W (Int.tdiv x0 64)) 64))))).toNat : Int), (W (128 + (Int.tmod x0 64))), ((u8 ((W (128 + (Int.tmod x0 64))))).toNat : Int)] [] [(41, .v (.int .u8 ((u8 ((W (240 + (W (Int.tdiv x0 262144)))))).toNat : Int))), (46, .v (.int .u8 ((u8 ((W (128 + (Int.tmod (W (Int.tdiv x0 4096)) 64))))).toNat : Int))), (51, .v (.int .u8 ((u8 ((W (128 + (Int.tmod (W (Int.tdiv x0 64)) 64))))).toNat : Int))), (55, .v (.int .u8 ((u8 ((W (128 + (Int.tmod x0 64))))).toNat : Int)))] _ E ⟨⟨g13, E⟩, ⟨V, E⟩, ⟨V, u8_wrap _⟩, ⟨g14, E⟩, g15, ⟨V, E⟩, ⟨V, u8_wrap _⟩, ⟨g16, E⟩, g17, ⟨V, E⟩, ⟨V, u8_wrap _⟩, g18, ⟨V, E⟩, ⟨V, u8_wrap _⟩, (Es E), E⟩ ?_
  refine JO.ofK E (JK.buildSlice ttOk E E E E E E E E E E E [] E .byte [(u8 ((W (240 + (W (Int.tdiv x0 262144)))))), (u8 ((W (128 + (Int.tmod (W (Int.tdiv x0 4096)) 64))))), (u8 ((W (128 + (Int.tmod (W (Int.tdiv x0 64)) 64))))), (u8 ((W (128 + (Int.tmod x0 64)))))] ⟨E, E⟩ E E fun a19 => JO.toK ?_)
  refine JO.reg ttOk 1 [] [] [(2, .v (.slice a19 ([(u8 ((W (240 + (W (Int.tdiv x0 262144)))))), (u8 ((W (128 + (Int.tmod (W (Int.tdiv x0 4096)) 64))))), (u8 ((W (128 + (Int.tmod (W (Int.tdiv x0 64)) 64))))), (u8 ((W (128 + (Int.tmod x0 64)))))] : List UInt8).length ([(u8 ((W (240 + (W (Int.tdiv x0 262144)))))), (u8 ((W (128 + (Int.tmod (W (Int.tdiv x0 4096)) 64))))), (u8 ((W (128 + (Int.tmod (W (Int.tdiv x0 64)) 64))))), (u8 ((W (128 + (Int.tmod x0 64)))))] : List UInt8).length))] _ E ⟨⟨E, V⟩, E⟩ (JO.done E ?_)
  cases h
  exact JS.ret ttOk (a19, ([(u8 ((W (240 + (W (Int.tdiv x0 262144)))))), (u8 ((W (128 + (Int.tmod (W (Int.tdiv x0 4096)) 64))))), (u8 ((W (128 + (Int.tmod (W (Int.tdiv x0 64)) 64))))), (u8 ((W (128 + (Int.tmod x0 64)))))] : List UInt8).length) V E E [0] E

def M_s_RuneRead_L1 (x0 : List UInt8) (x1 : Int) (x7 : Int) (j29 : Int → Option (Int × Int)) (k24 : (Int × Int) → Option (Int × Int)) : (Int × Int) → Option (Int × Int) := fun (x19, x20) =>
  (bif (decide (x20 < x7)) then
  (guardO (0 ≤ (W (x1 + x20)) ∧ (W (x1 + x20)) < (x0.length : Int)) <|
  k24 ((W ((W ((W (x19 * 64)) + ((at' x0 (W (x1 + x20))).toNat : Int))) - 128)), (W (x20 + 1))))
  else
  j29 x19)

def M_s_RuneRead_L2 (x0 : List UInt8) (x1 : Int) (j101 : Unit → Option (Int × Int)) (k77 : Int → Option (Int × Int)) : Int → Option (Int × Int) := fun x7 =>
  (bif (bif (decide (x7 ≤ 4)) then (decide (x7 ≤ (W ((x0.length : Int) - x1)))) else false) then
  (joinO (fun (_ : Unit) =>
  k77 (W (x7 + 1))) fun j55 =>
  (guardO (0 ≤ x1 ∧ x1 < (x0.length : Int)) <|
  (joinO (fun (x15 : Int) =>
  (joinO (fun (x28 : Int) =>
  (bindO (M_s_RuneBytes x28) fun (y32 : List UInt8) =>
  (guardO (((decide ((y32.length : Int) = x7)) = true) → 0 ≤ x1 ∧ x1 ≤ (W (x1 + x7)) ∧ (W (x1 + x7)) ≤ (x0.length : Int)) <|
  (bif (bif (decide ((y32.length : Int) = x7)) then (decide (y32 = (sub' x0 x1 (W (x1 + x7))))) else false) then
  some (x28, x7)
  else
  j55 ())))) fun j29 =>
  (fixF (M_s_RuneRead_L1 x0 x1 x7 j29) FUEL (x15, 1)))) fun j16 =>
  (bif (decide (1 < x7)) then
  (guardO (0 ≤ x7 ∧ x7 < (([0, 0, 192, 224, 240] : List Int).length : Int)) <|
  j16 (W (((at' x0 x1).toNat : Int) - (at' ([0, 0, 192, 224, 240] : List Int) x7))))
  else
  j16 ((at' x0 x1).toNat : Int)))))
  else
  j101 ())

def M_s_RuneRead (x0 : List UInt8) (x1 : Int) : Option (Int × Int) :=
  (bif (bif (decide (x1 < 0)) then true else (decide ((x0.length : Int) ≤ x1))) then
  some (0, 0)
  else
  (joinO (fun (_ : Unit) =>
  some (0, 0)) fun j101 =>
  (fixF (M_s_RuneRead_L2 x0 x1 j101) FUEL 1)))

theorem ok_s_RuneRead (x0 : List UInt8) (x1 : Int) (a3 : Option Addr) (c4 : Nat) (l5 : Nat) (hl6 : x0.length = l5) (r : Int × Int) (h : M_s_RuneRead x0 x1 = some r) :
  FC Tryz.prog 231 [.slice a3 l5 c4, .int .i64 x1] [⟨.byte, ⟨a3, l5, c4⟩, x0⟩] (fun _ : Unit => True) (fun _ => .tuple #[.int .i64 r.1, .int .i64 r.2]) (fun _ => []) :=
 by
  subst hl6
  refine FC.of (T := TTx) Tryz.call231 Tryz.func231 E E fun w0 => ?_
  unfold M_s_RuneRead at h
  refine JS.rg0 ttOk 2 [] ⟨V, E⟩ E E (JS.seq (JS.rg0 ttOk 8 [(17, .v (.bool (bif (decide (x1 < 0)) then true else (decide ((x0.length : Int) ≤ x1)))))] ⟨⟨E, V⟩, E⟩ E E ?_))
  refine JS.cond E (fun ht149 => ?_) (fun ht149 => ?_)
  ·
   have h := condT h ht149
   refine JS.rg0 ttOk 2 [(4, .v (I 0)), (5, .v (I 0))] ⟨(Es E), E⟩ E E ?_
   cases h
   exact JS.ret ttOk () V E E [] E
  have h := condF h ht149
  refine JS.skip (JS.seq (JS.rg0 ttOk 1 [(6, .v (I 1))] ⟨⟨E, V⟩, E⟩ E E ?_))
  obtain ⟨j101, hj148, h⟩ := joinO_some h
  refine JS.blockJ (ι := Unit) ⟨fun _ => j101 () = some r, fun _ => [], fun _ => .nil, fun _ => [], fun _ => [], fun _ => 0⟩ ?_ ?_
  ·
   refine JS.loop (ι := Nat × Int) ⟨fun z => fixF (M_s_RuneRead_L2 x0 x1 j101) z.1 z.2 = some r, fun z => [(0, .v (.slice a3 x0.length c4)), (1, .v (I x1)), (6, .v (I z.2))], fun z => .nil, fun z => [⟨.byte, ⟨a3, x0.length, c4⟩, x0⟩], fun z => [], fun z => z.1⟩ (FUEL, 1) h (Es E) V [0] E [] E ?_
   rintro ⟨n78, x7⟩ h
   obtain ⟨n78, rfl, h⟩ := fixF_some h
   rw [M_s_RuneRead_L2] at h
   refine JS.seq (JS.rg ttOk 10 [(W ((x0.length : Int) - x1))] [] [(27, .v (.bool (bif (decide (x7 ≤ 4)) then (decide (x7 ≤ (W ((x0.length : Int) - x1)))) else false)))] _ ⟨(fun q126 => ⟨V, E⟩), ⟨E, V⟩, E⟩ E E ?_)
   refine JS.cond E (fun ht147 => ?_) (fun ht147 => ?_)
   ·
    have h := condT h ht147
    refine JS.skip (JS.seq ?_)
    obtain ⟨j55, hj146, h⟩ := joinO_some h
    refine JS.blockJ (ι := Unit) ⟨fun _ => j55 () = some r, fun _ => [(0, .v (.slice a3 x0.length c4)), (1, .v (I x1)), (6, .v (I x7))], fun _ => .nil, fun _ => [⟨.byte, ⟨a3, x0.length, c4⟩, x0⟩], fun _ => [], fun _ => 0⟩ ?_ ?_
    ·
     refine JS.seq (JS.region (JO.know 0 E fun hs127 => ?_))
     obtain ⟨g10, h⟩ := guardO_some h
     refine JO.reg ttOk 3 [] [] [(32, .ep ⟨a3, x0.length, c4⟩ (Int.toNat x1 * 1))] _ E ⟨hs127.ix g10, ⟨E, V⟩, E⟩ (JO.load ttOk E E E E E E E 0 E E (Int.toNat x1) 0 (at' x0 x1) ⟨at_some g10, E⟩ E E (JO.reg ttOk 2 [((at' x0 x1).toNat : Int)] [] [(7, .v (I ((at' x0 x1).toNat : Int)))] _ E ⟨⟨V, W_byte _⟩, ⟨E, V⟩, E⟩ (JO.done E ?_)))
     obtain ⟨j16, hj145, h⟩ := joinO_some h
     refine JS.seqJ (ι := Int) ⟨fun z => j16 z = some r, fun z => [(0, .v (.slice a3 x0.length c4)), (1, .v (I x1)), (6, .v (I x7)), (7, .v (I z))], fun z => .nil, fun z => [⟨.byte, ⟨a3, x0.length, c4⟩, x0⟩], fun z => [], fun z => 0⟩ ?_ ?_
     ·
      refine JS.rg0 ttOk 2 [(36, .v (.bool (decide (1 < x7))))] ⟨⟨E, V⟩, E⟩ E E ?_
      refine JS.cond E (fun ht129 => ?_) (fun ht129 => ?_)
      ·
       have h := condT h ht129
       refine JS.region (JO.reg ttOk 1 [] [] [(37, .v (I ((at' x0 x1).toNat : Int)))] _ E ⟨⟨E, V⟩, E⟩ ?_)
       refine JO.ofK E (JK.buildSlice ttOk E E E E E E E E E E E [] E (.int .i64) [0, 0, 192, 224, 240] ⟨E, E⟩ E E fun a11 => JO.toK ?_)
       refine JO.know 1 E fun hs128 => ?_
       obtain ⟨g13, h⟩ := guardO_some h
       refine JO.reg ttOk 2 [] [] [(40, .ep ⟨a11, ([0, 0, 192, 224, 240] : List Int).length, ([0, 0, 192, 224, 240] : List Int).length⟩ (Int.toNat x7 * 1))] _ E ⟨hs128.ix g13, ⟨E, V⟩, E⟩ (JO.load ttOk E E E E E E E 1 E E (Int.toNat x7) 0 (at' ([0, 0, 192, 224, 240] : List Int) x7) ⟨at_some g13, E⟩ E E (JO.reg ttOk 2 [(W (((at' x0 x1).toNat : Int) - (at' ([0, 0, 192, 224, 240] : List Int) x7)))] [] [(7, .v (I (W (((at' x0 x1).toNat : Int) - (at' ([0, 0, 192, 224, 240] : List Int) x7)))))] _ E ⟨⟨V, E⟩, ⟨E, V⟩, E⟩ (JO.done E (JS.endJ (W (((at' x0 x1).toNat : Int) - (at' ([0, 0, 192, 224, 240] : List Int) x7))) h (Es E) V [0] E [] E))))
      have h := condF h ht129
      refine JS.skip (JS.endJ ((at' x0 x1).toNat : Int) h (Es E) V [0] E [] E)
     rintro x15 h
     subst hj145
     refine JS.seq (JS.rg0 ttOk 1 [(8, .v (I 1))] ⟨⟨E, V⟩, E⟩ E E ?_)
     obtain ⟨j29, hj144, h⟩ := joinO_some h
     refine JS.blockJ (ι := Int) ⟨fun z => j29 z = some r, fun z => [(0, .v (.slice a3 x0.length c4)), (1, .v (I x1)), (6, .v (I x7)), (7, .v (I z))], fun z => .nil, fun z => [⟨.byte, ⟨a3, x0.length, c4⟩, x0⟩], fun z => [], fun z => 0⟩ ?_ ?_
     ·
      refine JS.loop (ι := Nat × Int × Int) ⟨fun z => fixF (M_s_RuneRead_L1 x0 x1 x7 j29) z.1 (z.2.1, z.2.2) = some r, fun z => [(0, .v (.slice a3 x0.length c4)), (1, .v (I x1)), (6, .v (I x7)), (7, .v (I z.2.1)), (8, .v (I z.2.2))], fun z => .nil, fun z => [⟨.byte, ⟨a3, x0.length, c4⟩, x0⟩], fun z => [], fun z => z.1⟩ (FUEL, x15, 1) h (Es E) V [0] E [] E ?_
      rintro ⟨n25, x19, x20⟩ h
      obtain ⟨n25, rfl, h⟩ := fixF_some h
      rw [M_s_RuneRead_L1] at h
      refine JS.seq (JS.rg0 ttOk 3 [(45, .v (.bool (decide (x20 < x7))))] ⟨⟨E, V⟩, E⟩ E E ?_)
      refine JS.cond E (fun ht131 => ?_) (fun ht131 => ?_)
      ·
       have h := condT h ht131
       refine JS.skip (JS.seq (JS.block (JS.region (JO.know 0 E fun hs130 => ?_))))
       obtain ⟨g22, h⟩ := guardO_some h
       refine JO.reg ttOk 7 [(W (x19 * 64)), (W (x1 + x20))] [] [(49, .v (I (W (x19 * 64)))), (54, .ep ⟨a3, x0.length, c4⟩ (Int.toNat (W (x1 + x20)) * 1))] _ E ⟨⟨V, E⟩, ⟨V, E⟩, hs130.ix g22, (Es E), E⟩ (JO.load ttOk E E E E E E E 0 E E (Int.toNat (W (x1 + x20))) 0 (at' x0 (W (x1 + x20))) ⟨at_some g22, E⟩ E E (JO.reg ttOk 4 [((at' x0 (W (x1 + x20))).toNat : Int), (W ((W (x19 * 64)) + ((at' x0 (W (x1 + x20))).toNat : Int))), (W ((W ((W (x19 * 64)) + ((at' x0 (W (x1 + x20))).toNat : Int))) - 128))] [] [(7, .v (I (W ((W ((W (x19 * 64)) + ((at' x0 (W (x1 + x20))).toNat : Int))) - 128))))] _ E ⟨⟨V, W_byte _⟩, ⟨V, E⟩, ⟨V, E⟩, ⟨E, V⟩, E⟩ (JO.done E (JS.endB (JS.re ttOk 3 [(W (x20 + 1))] [] [(8, .v (I (W (x20 + 1))))] _ ⟨⟨V, E⟩, ⟨E, V⟩, E⟩ E E (JS.endL (n25, (W ((W ((W (x19 * 64)) + ((at' x0 (W (x1 + x20))).toNat : Int))) - 128)), (W (x20 + 1))) h (Nat.lt_succ_self _) (Es E) V [0] E [] E))))))
      have h := condF h ht131
      refine JS.exit E (JS.endJ x19 h (Es E) V [0] E [] E)
     rintro x28 h
     subst hj144
     refine JS.seq (JS.region (JO.reg ttOk 1 [] [] [(59, .v (I x28))] _ E ⟨⟨E, V⟩, E⟩ ?_))
     obtain ⟨y32, hy33, h⟩ := bindO_some h
     refine JO.call E E E E (ok_s_RuneBytes x28 _ hy33) E [] E E ?_
     rintro ⟨a34, c35⟩ -
     refine JO.reg ttOk 1 [] [] [(9, .v (.slice a34 y32.length c35))] _ E ⟨⟨E, V⟩, E⟩ (JO.done E (JS.seq ?_))
     obtain ⟨g37, h⟩ := guardO_some h
     refine JS.subR 0 E x1 (W (x1 + x7)) fun a38 c39 hu40 => JS.know 1 E fun hs139 => ?_
     refine JS.regionA E .nil [2, 0] [14, 15] V E (fun be49 => ?_)
     refine JA.reg ttOk panic_cx true 5 [0, 1, 2, 3, 4, 5, 7, 8, 9, 10, 11] E (by kernel_rfl) [(W (x1 + x7))] [(65, .v (.bool (decide ((y32.length : Int) = x7)))), (66, .cd [(65, true)] (.v (.slice a34 y32.length c35))), (68, .cd [(65, true)] (.v (.slice a3 x0.length c4))), (69, .cd [(65, true)] (.v (I x1))), (72, .cd [(65, true)] (.v (I (W (x1 + x7)))))] V [2, 0] E E ⟨(fun q141 => ⟨V, E⟩), (Es E)⟩ (JA.strOf ttOk panic_cx 6 E (by kernel_rfl) E E E E E E E 0 E E V [2, 0] E (JA.sliceP ttOk panic_cx 12 E (by kernel_rfl) E E E E E E x1 (W (x1 + x7)) E E (fun q142 => ⟨(g37 q142).1, (g37 q142).2.1, (g37 q142).2.2, hs139.cap, hu40 (g37 q142)⟩) E (JA.strOf ttOk panic_cx 13 E (by kernel_rfl) E E E E E E E 1 E E V [2, 0] E (JA.regL ttOk panic_cx 0 [14, 15] E (by kernel_rfl) [] [(76, .v (.bool (bif (decide ((y32.length : Int) = x7)) then (decide (y32 = (sub' x0 x1 (W (x1 + x7))))) else false)))] E ⟨E, V⟩ (JA.done (by kernel_rfl) (JS.boxes (B' := .nil) V ?_))))))
     refine JS.cond E (fun ht143 => ?_) (fun ht143 => ?_)
     ·
      have h := condT h ht143
      refine JS.rg0 ttOk 4 [(4, .v (I x28)), (5, .v (I x7))] ⟨(Es E), E⟩ E E ?_
      cases h
      exact JS.ret ttOk () V E E [] E
     have h := condF h ht143
     refine JS.skip (JS.endB (JS.endJ () h (Es E) V [1] E [] E))
    rintro _ h
    subst hj146
    refine JS.re ttOk 3 [(W (x7 + 1))] [] [(6, .v (I (W (x7 + 1))))] _ ⟨⟨V, E⟩, ⟨E, V⟩, E⟩ E E (JS.endL (n78, (W (x7 + 1))) h (Nat.lt_succ_self _) (Es E) V [0] E [] E)
   have h := condF h ht147
   refine JS.exit E (JS.endJ () h V V [] E [] E)
  rintro _ h
  subst hj148
  refine JS.rg0 ttOk 2 [(4, .v (I 0)), (5, .v (I 0))] ⟨(Es E), E⟩ E E ?_
  cases h
  exact JS.ret ttOk () V E E [] E

def M_s_RunesOf_L1 (x0 : List UInt8) (j30 : (List Int) → Option (List Int × Bool)) (k23 : (List Int × Int) → Option (List Int × Bool)) : (List Int × Int) → Option (List Int × Bool) := fun (x8, x11) =>
  (bif (decide (x11 < (x0.length : Int))) then
  (bindO (M_s_RuneRead x0 x11) fun (y12, y13) =>
  (bif (decide (y13 = 0)) then
  some ([], false)
  else
  (guardO (x8.length + ([y12] : List Int).length ≤ 536870912) <|
  k23 ((x8 ++ ([y12] : List Int)), (W (x11 + y13))))))
  else
  j30 x8)

def M_s_RunesOf (x0 : List UInt8) : Option (List Int × Bool) :=
  (bif (decide (65536 < (x0.length : Int))) then
  some ([], false)
  else
  (joinO (fun (x27 : List Int) =>
  some (x27, true)) fun j30 =>
  (fixF (M_s_RunesOf_L1 x0 j30) FUEL (([] : List Int), 0))))

theorem ok_s_RunesOf (x0 : List UInt8) (r : List Int × Bool) (h : M_s_RunesOf x0 = some r) :
  FC Tryz.prog 134 [.string (bs x0)] [] (fun _ : Option Addr × Nat => True) (fun q => .tuple #[.slice q.1 r.1.length q.2, .bool r.2]) (fun q => [⟨(.int .i64), ⟨q.1, r.1.length, q.2⟩, r.1⟩]) :=
 by
  refine FC.of (T := TTx) Tryz.call134 Tryz.func134 E E fun w0 => ?_
  unfold M_s_RunesOf at h
  refine JS.rg0 ttOk 2 [] ⟨V, E⟩ E E (JS.seq (JS.rg0 ttOk 3 [(11, .v (.bool (decide (65536 < (x0.length : Int)))))] ⟨⟨E, V⟩, E⟩ E E ?_))
  refine JS.cond E (fun ht38 => ?_) (fun ht38 => ?_)
  ·
   have h := condT h ht38
   refine JS.rg0 ttOk 2 [(2, .v (.slice none 0 0)), (3, .v (.bool false))] ⟨(Es E), E⟩ E E ?_
   cases h
   refine JS.nilO (.int .i64) Sl.nil E E (JS.ret ttOk (none, 0) V E E [0] E)
  have h := condF h ht38
  refine JS.skip (JS.seq (JS.region (JO.reg ttOk 1 [] [] [(12, .v (.string (bs x0)))] _ E ⟨⟨E, V⟩, E⟩ (JO.bytesOf ttOk E E E E E E E E E fun a2 c3 => JO.reg ttOk 1 [] [] [(4, .v (.slice a2 x0.length c3))] _ E ⟨⟨E, V⟩, E⟩ (JO.done E (JS.seq (JS.region ?_)))))))
  refine JO.ofK E (JK.buildSlice ttOk E E E E E E E E E E E [] E (.int .i64) [] ⟨E, E⟩ E E fun a4 => JO.toK ?_)
  refine JO.reg ttOk 1 [] [] [(5, .v (.slice a4 ([] : List Int).length ([] : List Int).length))] _ E ⟨⟨E, V⟩, E⟩ (JO.done E (JS.rg0 ttOk 1 [(6, .v (I 0))] ⟨⟨E, V⟩, E⟩ E E (JS.seq ?_)))
  obtain ⟨j30, hj37, h⟩ := joinO_some h
  refine JS.blockJ (ι := List Int × Option Addr × Nat) ⟨fun z => j30 z.1 = some r, fun z => [(5, .v (.slice z.2.1 z.1.length z.2.2))], fun z => .nil, fun z => [], fun z => [⟨(.int .i64), ⟨z.2.1, z.1.length, z.2.2⟩, z.1⟩], fun z => 0⟩ ?_ ?_
  ·
   refine JS.loop (ι := Nat × List Int × Int × Option Addr × Nat) ⟨fun z => fixF (M_s_RunesOf_L1 x0 j30) z.1 (z.2.1, z.2.2.1) = some r, fun z => [(4, .v (.slice a2 x0.length c3)), (5, .v (.slice z.2.2.2.1 z.2.1.length (Q4 z))), (6, .v (I z.2.2.1))], fun z => .nil, fun z => [], fun z => [⟨(.int .i64), ⟨z.2.2.2.1, z.2.1.length, (Q4 z)⟩, z.2.1⟩, ⟨.byte, ⟨a2, x0.length, c3⟩, x0⟩], fun z => z.1⟩ (FUEL, ([] : List Int), 0, a4, ([] : List Int).length) h (Es E) V [] E [0, 0] E ?_
   rintro ⟨n24, x8, x11, a9, c10⟩ h
   obtain ⟨n24, rfl, h⟩ := fixF_some h
   rw [M_s_RunesOf_L1] at h
   refine JS.seq (JS.rg0 ttOk 4 [(18, .v (.bool (decide (x11 < (x0.length : Int)))))] ⟨⟨E, V⟩, E⟩ E E ?_)
   refine JS.cond E (fun ht36 => ?_) (fun ht36 => ?_)
   ·
    have h := condT h ht36
    refine JS.skip (JS.block (JS.seq (JS.region (JO.reg ttOk 2 [] [] [(20, .v (.slice a2 x0.length c3)), (21, .v (I x11))] _ E ⟨(Es E), E⟩ ?_))))
    obtain ⟨⟨y12, y13⟩, hy14, h⟩ := bindO_some h
    refine JO.call E E E E (ok_s_RuneRead x0 x11 a2 c3 x0.length E _ hy14) E [1] E E fun _ _ => JO.reg ttOk 5 [] [] [(7, .v (I y12)), (8, .v (I y13))] _ E ⟨(Es E), E⟩ (JO.done E (JS.seq (JS.rg0 ttOk 2 [(26, .v (.bool (decide (y13 = 0))))] ⟨⟨E, V⟩, E⟩ E E ?_)))
    refine JS.cond E (fun ht35 => ?_) (fun ht35 => ?_)
    ·
     have h := condT h ht35
     refine JS.rg0 ttOk 2 [(2, .v (.slice none 0 0)), (3, .v (.bool false))] ⟨(Es E), E⟩ E E ?_
     cases h
     refine JS.nilO (.int .i64) Sl.nil E E (JS.ret ttOk (none, 0) V E E [0] E)
    have h := condF h ht35
    refine JS.skip (JS.seq (JS.region (JO.reg ttOk 2 [] [] [(27, .v (.slice a9 x8.length c10)), (28, .v (I y12))] _ E ⟨(Es E), E⟩ ?_)))
    refine JO.ofK E (JK.buildSlice ttOk E E E E E E E E E E E [] E (.int .i64) [y12] ⟨E, E⟩ E E fun a15 => JO.toK ?_)
    obtain ⟨g16, h⟩ := guardO_some h
    refine JO.appendR' ttOk E E E E ⟨E, E, E, E, V, E, E, E, E⟩ E E E [1] E 0 E g16 E fun a17 c18 => JO.reg ttOk 1 [] [] [(5, .v (.slice a17 (x8 ++ ([y12] : List Int)).length c18))] _ E ⟨⟨E, V⟩, E⟩ (JO.done E (JS.re ttOk 4 [(W (x11 + y13))] [] [(6, .v (I (W (x11 + y13))))] _ ⟨⟨V, E⟩, ⟨E, V⟩, E⟩ E E (JS.endB (JS.endL (n24, (x8 ++ ([y12] : List Int)), (W (x11 + y13)), a17, c18) h (Nat.lt_succ_self _) (Es E) V [] E [0, 1] E))))
   have h := condF h ht36
   refine JS.exit E (JS.endJ (x8, a9, c10) h ⟨E, V⟩ V [] E [0] E)
  rintro ⟨x27, a28, c29⟩ h
  subst hj37
  refine JS.rg0 ttOk 3 [(2, .v (.slice a28 x27.length c29)), (3, .v (.bool true))] ⟨(Es E), E⟩ E E ?_
  cases h
  exact JS.ret ttOk (a28, c29) V E E [0] E

def M_s_l13If (x0 : List Int × Int) (x1 : Bool) : Option ((List Int × Int) × Bool) :=
  (callO ((!x1) = false) (M_s_LineOk x0) false fun (y7 : Bool) =>
  (bif (bif (!x1) then true else (!y7)) then
  some (([], 0), false)
  else
  some (x0, true)))

theorem ok_s_l13If (x0 : List Int × Int) (x1 : Bool) (a3 : Option Addr) (c4 : Nat) (l5 : Nat) (hl6 : x0.1.length = l5) (r : (List Int × Int) × Bool) (h : M_s_l13If x0 x1 = some r) :
  FX Tryz.prog 135 [.agg #[.slice a3 l5 c4, .int .i64 x0.2], .bool x1] [] [⟨(.int .i64), ⟨a3, l5, c4⟩, x0.1⟩] (fun _ : Option Addr × Nat => True) (fun q => .tuple #[.agg #[.slice q.1 r.1.1.length q.2, .int .i64 r.1.2], .bool r.2]) (fun q => [⟨(.int .i64), ⟨q.1, r.1.1.length, q.2⟩, r.1.1⟩]) :=
 by
  subst hl6
  refine FX.of (T := TTx) Tryz.call135 Tryz.func135 E E fun w0 L0 => ?_
  unfold M_s_l13If at h
  refine JS.rgB ttOk 3 [] [2, 3] [(2, .bp 2 0), (4, .bp 3 0)] (.new 2 38 [.slice a3 x0.1.length c4, .int .i64 x0.2] (.new 3 38 [.slice none 0 0, .int .i64 0] .nil)) ⟨(Es E), (Bs E E)⟩ E E (JS.seq (JS.seq (JS.region (JO.reg ttOk 4 [] [] [(8, .v (.bool (!x1))), (9, .cd [(8, false)] (.v (.agg #[.slice a3 x0.1.length c4, .int .i64 x0.2])))] _ E ⟨(Es E), E⟩ ?_))))
  obtain ⟨y7, hy8, -, h⟩ := callO_some h
  refine JO.callg E E E E (fun q11 => ok_s_LineOk x0 a3 c4 x0.1.length E _ (hy8 q11)) E [0] E E (JO.reg ttOk 2 [] [] [(12, .v (.bool (bif (!x1) then true else (!y7))))] _ E ⟨⟨E, V⟩, E⟩ (JO.done E ?_))
  refine JS.cond E (fun ht12 => ?_) (fun ht12 => ?_)
  ·
   have h := condT h ht12
   refine JS.rgB ttOk 3 [] [] [(5, .v (.bool false))] (.new 3 38 [.slice none 0 0, .int .i64 0] .nil) ⟨⟨E, V⟩, (Bs E E)⟩ E E ?_
   cases h
   refine JS.nilO (.int .i64) Sl.nil E E (JS.retX ttOk (none, 0) V E E [0] E)
  have h := condF h ht12
  refine JS.skip (JS.rgB ttOk 3 [] [] [(5, .v (.bool true))] (.new 3 38 [.slice a3 x0.1.length c4, .int .i64 x0.2] .nil) ⟨⟨E, V⟩, (Bs E E)⟩ E E ?_)
  cases h
  exact JS.retX ttOk (a3, c4) V E E [0] E

def M_s_LineOf (x0 : List UInt8) : Option ((List Int × Int) × Bool) :=
  (bindO (M_s_RunesOf x0) fun (y2, y3) =>
  (bindO (M_s_l13If (y2, (y2.length : Int)) y3) fun (y7, y8) =>
  some (y7, y8)))

theorem ok_s_LineOf (x0 : List UInt8) (r : (List Int × Int) × Bool) (h : M_s_LineOf x0 = some r) :
  FC Tryz.prog 48 [.string (bs x0)] [] (fun _ : Option Addr × Nat => True) (fun q => .tuple #[.agg #[.slice q.1 r.1.1.length q.2, .int .i64 r.1.2], .bool r.2]) (fun q => [⟨(.int .i64), ⟨q.1, r.1.1.length, q.2⟩, r.1.1⟩]) :=
 by
  refine FC.of (T := TTx) Tryz.call48 Tryz.func48 E E fun w0 => ?_
  unfold M_s_LineOf at h
  refine JS.rgB ttOk 2 [] [1] [(2, .bp 1 0)] (.new 1 38 [.slice none 0 0, .int .i64 0] .nil) ⟨⟨E, V⟩, (Bs E E)⟩ E E (JS.seq (JS.region (JO.reg ttOk 1 [] [] [(7, .v (.string (bs x0)))] _ E ⟨⟨E, V⟩, E⟩ ?_)))
  obtain ⟨⟨y2, y3⟩, hy4, h⟩ := bindO_some h
  refine JO.call E E E E (ok_s_RunesOf x0 _ hy4) E [] E E ?_
  rintro ⟨a5, c6⟩ -
  refine JO.reg ttOk 5 [] [] [(4, .v (.slice a5 y2.length c6)), (5, .v (.bool y3))] _ E ⟨(Es E), E⟩ (JO.done E (JS.seq (JS.region (JO.reg ttOk 5 [] [] [(14, .v (.agg #[.slice a5 y2.length c6, .int .i64 (y2.length : Int)])), (15, .v (.bool y3))] _ E ⟨(Es E), E⟩ ?_))))
  obtain ⟨⟨y7, y8⟩, hy9, h⟩ := bindO_some h
  refine JO.callX E E E E (ok_s_l13If (y2, (y2.length : Int)) y3 a5 c6 y2.length E _ hy9) E [0] E [] E E ?_
  rintro ⟨a10, c11⟩ -
  refine JO.regB ttOk 4 [] [] [(3, .v (.bool y8))] (.new 1 38 [.slice a10 y7.1.length c11, .int .i64 y7.2] .nil) E ⟨⟨E, V⟩, (Bs E E)⟩ (JO.done E ?_)
  cases h
  exact JS.ret ttOk (a10, c11) V E E [0] E

def M_s_EdStep (x0 : EdQ) (x1 : Int × List (List UInt8)) (x2 : Int) : Option (EdQ × Bool) :=
  (bindO (M_s_EdOk x0) fun (y32 : Bool) =>
  (bif (bif (!y32) then true else (bif (!(decide (x2 = 1))) then (!(decide (x2 = (-1)))) else false)) then
  some ((false, 0, ([], 0), 0, 0, 0, 0, 0, 0, 0, [], [], 0, ([], 0), [], 0, ([], 0)), false)
  else
  (bindO (M_s_HistLast x1) fun (y34 : Int) =>
  (joinO (fun (x37 : Int) =>
  (bindO (M_s_l21Copy x0) fun (y40 : EdQ) =>
  (bindO (M_s_l21Idle y40) fun (y54 : EdQ) =>
  (bif (bif (bif (!(decide (x0.2.2.2.2.2.2.2.2.2.2.2.2.1 = 0))) then (decide (x2 = 1)) else false) then (decide ((W (x37 + x2)) = (W (y34 + 1)))) else false) then
  (bindO (M_s_l15Line x0.2.2.2.2.2.2.2.2.2.2.2.2.2.1) fun (y57 : List Int × Int) =>
  (bindO (M_s_l21Clip (y54.1, y54.2.1, y57, y54.2.2.2.1, y54.2.2.2.2.1, y54.2.2.2.2.2.1, y54.2.2.2.2.2.2.1, y54.2.2.2.2.2.2.2.1, y54.2.2.2.2.2.2.2.2.1, 0, y40.2.2.2.2.2.2.2.2.2.2.1, ([] : List (List Int × Int)), 0, (([] : List Int), 0), y40.2.2.2.2.2.2.2.2.2.2.2.2.2.2.1, y54.2.2.2.2.2.2.2.2.2.2.2.2.2.2.2.1, (y40.2.2.2.2.2.2.2.2.2.2.2.2.2.2.2.2.1, y54.2.2.2.2.2.2.2.2.2.2.2.2.2.2.2.2.2))) fun (y61 : EdQ) =>
  some ((y61.1, y61.2.1, (y57.1, y61.2.2.1.2), y61.2.2.2.1, y61.2.2.2.2.1, y61.2.2.2.2.2.1, y61.2.2.2.2.2.2.1, y61.2.2.2.2.2.2.2.1, y61.2.2.2.2.2.2.2.2.1, y61.2.2.2.2.2.2.2.2.2.1, y40.2.2.2.2.2.2.2.2.2.2.1, [], y61.2.2.2.2.2.2.2.2.2.2.2.2.1, ([], y61.2.2.2.2.2.2.2.2.2.2.2.2.2.1.2), y40.2.2.2.2.2.2.2.2.2.2.2.2.2.2.1, y61.2.2.2.2.2.2.2.2.2.2.2.2.2.2.2.1, (y40.2.2.2.2.2.2.2.2.2.2.2.2.2.2.2.2.1, y61.2.2.2.2.2.2.2.2.2.2.2.2.2.2.2.2.2)), true)))
  else
  (bindO (M_s_HistGet x1 (W (x37 + x2))) fun (y63, y64) =>
  (bindO (M_s_LineOf y63) fun (y66, y67) =>
  (bif (bif (!y64) then true else (!y67)) then
  some ((false, 0, ([], 0), 0, 0, 0, 0, 0, 0, 0, [], [], 0, ([], 0), [], 0, ([], 0)), false)
  else
  (joinO (fun ((x76, x79) : List Int × Int) =>
  (joinO (fun (x83 : Int) =>
  some ((y54.1, y54.2.1, (y66.1, x83), y54.2.2.2.1, y54.2.2.2.2.1, y54.2.2.2.2.2.1, y54.2.2.2.2.2.2.1, y54.2.2.2.2.2.2.2.1, y54.2.2.2.2.2.2.2.2.1, 0, y40.2.2.2.2.2.2.2.2.2.2.1, [], (W (x37 + x2)), (x76, x79), y40.2.2.2.2.2.2.2.2.2.2.2.2.2.2.1, y54.2.2.2.2.2.2.2.2.2.2.2.2.2.2.2.1, (y40.2.2.2.2.2.2.2.2.2.2.2.2.2.2.2.2.1, y54.2.2.2.2.2.2.2.2.2.2.2.2.2.2.2.2.2)), true)) fun j84 =>
  (bif (decide (x0.2.1 = 2)) then
  j84 0
  else
  j84 y66.2))) fun j80 =>
  (bif (decide (x0.2.2.2.2.2.2.2.2.2.2.2.2.1 = 0)) then
  (bindO (M_s_l15Line x0.2.2.1) fun (y71 : List Int × Int) =>
  j80 (y71.1, y71.2))
  else
  j80 (y40.2.2.2.2.2.2.2.2.2.2.2.2.2.1.1, y54.2.2.2.2.2.2.2.2.2.2.2.2.2.1.2)))))))))) fun j38 =>
  (bif (decide (x0.2.2.2.2.2.2.2.2.2.2.2.2.1 = 0)) then
  j38 (W (y34 + 1))
  else
  j38 x0.2.2.2.2.2.2.2.2.2.2.2.2.1)))))

theorem ok_s_EdStep (x0 : EdQ) (x1 : Int × List (List UInt8)) (x2 : Int) (a4 : Option Addr) (c5 : Nat) (l6 : Nat) (hl7 : x0.2.2.1.1.length = l6) (a8 : Option Addr) (c9 : Nat) (l10 : Nat) (hl11 : (Q8 x0).2.2.1.length = l10) (a12 : Option Addr) (c13 : Nat) (l14 : Nat) (hl15 : (Q8 x0).2.2.2.1.length = l14) (a16 : Option Addr) (c17 : Nat) (l18 : Nat) (hl19 : (Q12 x0).2.1.1.length = l18) (a20 : Option Addr) (c21 : Nat) (l22 : Nat) (hl23 : (Q12 x0).2.2.1.length = l22) (a24 : Option Addr) (c25 : Nat) (l26 : Nat) (hl27 : (Q16 x0).1.length = l26) (a28 : Option Addr) (c29 : Nat) (l30 : Nat) (hl31 : x1.2.length = l30) (r : EdQ × Bool) (h : M_s_EdStep x0 x1 x2 = some r) :
  FC Tryz.prog 243 [.agg #[.bool x0.1, .int .i64 x0.2.1, .slice a4 l6 c5, .int .i64 x0.2.2.1.2, .int .i64 x0.2.2.2.1, .int .i64 (Q4 x0).1, .int .i64 (Q4 x0).2.1, .int .i64 (Q4 x0).2.2.1, .int .i64 (Q4 x0).2.2.2.1, .int .i64 (Q8 x0).1, .int .i64 (Q8 x0).2.1, .slice a8 l10 c9, .slice a12 l14 c13, .int .i64 (Q12 x0).1, .slice a16 l18 c17, .int .i64 (Q12 x0).2.1.2, .slice a20 l22 c21, .int .i64 (Q12 x0).2.2.2.1, .slice a24 l26 c25, .int .i64 (Q16 x0).2], .agg #[.int .i64 x1.1, .slice a28 l30 c29], .int .i64 x2] [⟨(.int .i64), ⟨a4, l6, c5⟩, x0.2.2.1.1⟩, ⟨(.sl (.int .i64)), ⟨a8, l10, c9⟩, (Q8 x0).2.2.1⟩, ⟨(.pair (.sl (.int .i64)) (.int .i64)), ⟨a12, l14, c13⟩, (Q8 x0).2.2.2.1⟩, ⟨(.int .i64), ⟨a16, l18, c17⟩, (Q12 x0).2.1.1⟩, ⟨(.int .i64), ⟨a20, l22, c21⟩, (Q12 x0).2.2.1⟩, ⟨(.int .i64), ⟨a24, l26, c25⟩, (Q16 x0).1⟩, ⟨.str, ⟨a28, l30, c29⟩, x1.2⟩] (fun _ : Option Addr × Nat × Option Addr × Nat × Option Addr × Nat × Option Addr × Nat × Option Addr × Nat => True) (fun q => .tuple #[.agg (cl46 (r.1.1, r.1.2.1, r.1.2.2.1, r.1.2.2.2.1, r.1.2.2.2.2.1, r.1.2.2.2.2.2.1, r.1.2.2.2.2.2.2.1, r.1.2.2.2.2.2.2.2.1, r.1.2.2.2.2.2.2.2.2.1, r.1.2.2.2.2.2.2.2.2.2.1, r.1.2.2.2.2.2.2.2.2.2.2.1, [], r.1.2.2.2.2.2.2.2.2.2.2.2.2.1, r.1.2.2.2.2.2.2.2.2.2.2.2.2.2.1, r.1.2.2.2.2.2.2.2.2.2.2.2.2.2.2.1, r.1.2.2.2.2.2.2.2.2.2.2.2.2.2.2.2.1, r.1.2.2.2.2.2.2.2.2.2.2.2.2.2.2.2.2) q.1 q.2.1 q.2.2.1 q.2.2.2.1 none 0 (Q4 q).1 (Q4 q).2.1 (Q4 q).2.2.1 (Q4 q).2.2.2.1 (Q8 q).1 (Q8 q).2).toArray, .bool r.2]) (fun q => [⟨(.int .i64), ⟨q.1, r.1.2.2.1.1.length, q.2.1⟩, r.1.2.2.1.1⟩, ⟨(.sl (.int .i64)), ⟨q.2.2.1, r.1.2.2.2.2.2.2.2.2.2.2.1.length, q.2.2.2.1⟩, r.1.2.2.2.2.2.2.2.2.2.2.1⟩, ⟨(.int .i64), ⟨(Q4 q).1, r.1.2.2.2.2.2.2.2.2.2.2.2.2.2.1.1.length, (Q4 q).2.1⟩, r.1.2.2.2.2.2.2.2.2.2.2.2.2.2.1.1⟩, ⟨(.int .i64), ⟨(Q4 q).2.2.1, r.1.2.2.2.2.2.2.2.2.2.2.2.2.2.2.1.length, (Q4 q).2.2.2.1⟩, r.1.2.2.2.2.2.2.2.2.2.2.2.2.2.2.1⟩, ⟨(.int .i64), ⟨(Q8 q).1, r.1.2.2.2.2.2.2.2.2.2.2.2.2.2.2.2.2.1.length, (Q8 q).2⟩, r.1.2.2.2.2.2.2.2.2.2.2.2.2.2.2.2.2.1⟩]) :=
 by
  subst hl7
  subst hl11
  subst hl15
  subst hl19
  subst hl23
  subst hl27
  subst hl31
  refine FC.of (T := TTx) Tryz.call243 Tryz.func243 E E fun w0 => ?_
  unfold M_s_EdStep at h
  refine JS.rgB ttOk 4 [] [8, 9, 10] [(3, .bp 8 0), (4, .bp 9 0), (6, .bp 10 0)] (.new 8 46 (cl46 x0 a4 c5 a8 c9 a12 c13 a16 c17 a20 c21 a24 c25) (.new 9 50 [.int .i64 x1.1, .slice a28 x1.2.length c29] (.new 10 46 cz46 .nil))) ⟨(Es E), (Bs E E)⟩ E E (JS.seq (JS.seq (JS.region (JO.reg ttOk 1 [] [] [(15, .v (.agg (cl46 x0 a4 c5 a8 c9 a12 c13 a16 c17 a20 c21 a24 c25).toArray))] _ E ⟨⟨E, V⟩, E⟩ ?_))))
  obtain ⟨y32, hy33, h⟩ := bindO_some h
  refine JO.call E E E E (ok_s_EdOk x0 a4 c5 x0.2.2.1.1.length E a8 c9 (Q8 x0).2.2.1.length E a12 c13 (Q8 x0).2.2.2.1.length E a16 c17 (Q12 x0).2.1.1.length E a20 c21 (Q12 x0).2.2.1.length E a24 c25 (Q16 x0).1.length E _ hy33) E [0, 1, 2, 3, 4, 5] E E fun _ _ => JO.reg ttOk 9 [] [] [(25, .v (.bool (bif (!y32) then true else (bif (!(decide (x2 = 1))) then (!(decide (x2 = (-1)))) else false))))] _ E ⟨⟨E, V⟩, E⟩ (JO.done E ?_)
  refine JS.cond E (fun ht101 => ?_) (fun ht101 => ?_)
  ·
   have h := condT h ht101
   refine JS.rgB ttOk 3 [] [] [(7, .v (.bool false))] (.new 10 46 cz46 .nil) ⟨⟨E, V⟩, (Bs E E)⟩ E E ?_
   cases h
   refine JS.nilO (.int .i64) Sl.nil E E (JS.nilO (.sl (.int .i64)) Sl.nil E E (JS.nilO (.int .i64) Sl.nil E E (JS.nilO (.int .i64) Sl.nil E E (JS.nilO (.int .i64) Sl.nil E E (JS.ret ttOk (none, 0, none, 0, none, 0, none, 0, none, 0) V E E [4, 3, 2, 1, 0] E)))))
  have h := condF h ht101
  refine JS.skip (JS.seq (JS.region (JO.reg ttOk 1 [] [] [(27, .v (.agg #[.int .i64 x1.1, .slice a28 x1.2.length c29]))] _ E ⟨⟨E, V⟩, E⟩ ?_)))
  obtain ⟨y34, hy35, h⟩ := bindO_some h
  refine JO.call E E E E (ok_s_HistLast x1 a28 c29 x1.2.length E _ hy35) E [6] E E fun _ _ => JO.reg ttOk 1 [] [] [(8, .v (I y34))] _ E ⟨⟨E, V⟩, E⟩ (JO.done E (JS.rg0 ttOk 3 [(9, .v (I (Q12 x0).1))] ⟨⟨E, V⟩, E⟩ E E ?_))
  obtain ⟨j38, hj100, h⟩ := joinO_some h
  refine JS.seqJ (ι := Int) ⟨fun z => j38 z = some r, fun z => [(2, .v (I x2)), (3, .bp 8 0), (4, .bp 9 0), (6, .bp 10 0), (8, .v (I y34)), (9, .v (I z))], fun z => (.new 8 46 (cl46 x0 a4 c5 a8 c9 a12 c13 a16 c17 a20 c21 a24 c25) (.new 9 50 [.int .i64 x1.1, .slice a28 x1.2.length c29] (.new 10 46 cz46 .nil))), fun z => (fl32 x0 a4 c5 a8 c9 a12 c13 a16 c17 a20 c21 a24 c25 [⟨.str, ⟨a28, x1.2.length, c29⟩, x1.2⟩]), fun z => [], fun z => 0⟩ ?_ ?_
  ·
   refine JS.rg0 ttOk 2 [(32, .v (.bool (decide ((Q12 x0).1 = 0))))] ⟨⟨E, V⟩, E⟩ E E ?_
   refine JS.cond E (fun ht92 => ?_) (fun ht92 => ?_)
   ·
    have h := condT h ht92
    refine JS.re ttOk 3 [(W (y34 + 1))] [] [(9, .v (I (W (y34 + 1))))] _ ⟨⟨V, E⟩, ⟨E, V⟩, E⟩ E E (JS.endJ (W (y34 + 1)) h (Es E) (Bs E E) [0, 1, 2, 3, 4, 5, 6] E [] E)
   have h := condF h ht92
   refine JS.skip (JS.endJ (Q12 x0).1 h (Es E) (Bs E E) [0, 1, 2, 3, 4, 5, 6] E [] E)
  rintro x37 h
  subst hj100
  refine JS.seq (JS.region (JO.reg ttOk 1 [] [] [(35, .v (.agg (cl46 x0 a4 c5 a8 c9 a12 c13 a16 c17 a20 c21 a24 c25).toArray))] _ E ⟨⟨E, V⟩, E⟩ ?_))
  obtain ⟨y40, hy41, h⟩ := bindO_some h
  refine JO.call E E E E (ok_s_l21Copy x0 a4 c5 x0.2.2.1.1.length E a8 c9 (Q8 x0).2.2.1.length E a12 c13 (Q8 x0).2.2.2.1.length E a16 c17 (Q12 x0).2.1.1.length E a20 c21 (Q12 x0).2.2.1.length E a24 c25 (Q16 x0).1.length E _ hy41) E [0, 1, 2, 3, 4, 5] E E ?_
  rintro ⟨a42, c43, a44, c45, a46, c47, a48, c49, a50, c51, a52, c53⟩ -
  obtain ⟨y54, hy55, h⟩ := bindO_some h
  refine JO.call E E E E (ok_s_l21Idle y40 a42 c43 y40.2.2.1.1.length E a44 c45 (Q8 y40).2.2.1.length E a46 c47 (Q8 y40).2.2.2.1.length E a48 c49 (Q12 y40).2.1.1.length E a50 c51 (Q12 y40).2.2.1.length E a52 c53 (Q16 y40).1.length E _ hy55) E [7, 8, 9, 10, 11, 12] E E fun _ _ => JO.regB ttOk 2 [] [39] [(10, .bp 39 0)] (.new 8 46 (cl46 x0 a4 c5 a8 c9 a12 c13 a16 c17 a20 c21 a24 c25) (.new 9 50 [.int .i64 x1.1, .slice a28 x1.2.length c29] (.new 10 46 cz46 (.new 39 46 (cl46 (y54.1, y54.2.1, (y40.2.2.1.1, y54.2.2.1.2), y54.2.2.2.1, (Q4 y54).1, (Q4 y54).2.1, (Q4 y54).2.2.1, (Q4 y54).2.2.2.1, (Q8 y54).1, (Q8 y54).2.1, (Q8 y40).2.2.1, (Q8 y40).2.2.2.1, (Q12 y54).1, ((Q12 y40).2.1.1, (Q12 y54).2.1.2), (Q12 y40).2.2.1, (Q12 y54).2.2.2.1, ((Q16 y40).1, (Q16 y54).2)) a42 c43 a44 c45 a46 c47 a48 c49 a50 c51 a52 c53) .nil)))) E ⟨⟨E, V⟩, (Bs E E)⟩ (JO.done E (JS.rgB ttOk 2 [] [] [] (.new 8 46 (cl46 x0 a4 c5 a8 c9 a12 c13 a16 c17 a20 c21 a24 c25) (.new 9 50 [.int .i64 x1.1, .slice a28 x1.2.length c29] (.new 10 46 cz46 (.new 39 46 (cl46 (y54.1, y54.2.1, (y40.2.2.1.1, y54.2.2.1.2), y54.2.2.2.1, (Q4 y54).1, (Q4 y54).2.1, (Q4 y54).2.2.1, (Q4 y54).2.2.2.1, (Q8 y54).1, 0, (Q8 y40).2.2.1, (Q8 y40).2.2.2.1, (Q12 y54).1, ((Q12 y40).2.1.1, (Q12 y54).2.1.2), (Q12 y40).2.2.1, (Q12 y54).2.2.2.1, ((Q16 y40).1, (Q16 y54).2)) a42 c43 a44 c45 a46 c47 a48 c49 a50 c51 a52 c53) .nil)))) ⟨V, (Bs E E)⟩ E E (JS.rgB ttOk 3 [] [] [] (.new 8 46 (cl46 x0 a4 c5 a8 c9 a12 c13 a16 c17 a20 c21 a24 c25) (.new 9 50 [.int .i64 x1.1, .slice a28 x1.2.length c29] (.new 10 46 cz46 (.new 39 46 (cl46 (y54.1, y54.2.1, (y40.2.2.1.1, y54.2.2.1.2), y54.2.2.2.1, (Q4 y54).1, (Q4 y54).2.1, (Q4 y54).2.2.1, (Q4 y54).2.2.2.1, (Q8 y54).1, 0, (Q8 y40).2.2.1, [], (Q12 y54).1, ((Q12 y40).2.1.1, (Q12 y54).2.1.2), (Q12 y40).2.2.1, (Q12 y54).2.2.2.1, ((Q16 y40).1, (Q16 y54).2)) a42 c43 a44 c45 none 0 a48 c49 a50 c51 a52 c53) .nil)))) ⟨V, (Bs E E)⟩ E E (JS.rg ttOk 4 [(W (x37 + x2))] [] [(9, .v (I (W (x37 + x2))))] _ ⟨⟨V, E⟩, ⟨E, V⟩, E⟩ E E (JS.seq (JS.rg ttOk 13 [(W (y34 + 1))] [] [(56, .v (.bool (bif (bif (!(decide ((Q12 x0).1 = 0))) then (decide (x2 = 1)) else false) then (decide ((W (x37 + x2)) = (W (y34 + 1)))) else false)))] _ ⟨(fun q93 => ⟨V, E⟩), ⟨E, V⟩, E⟩ E E ?_))))))
  refine JS.cond E (fun ht99 => ?_) (fun ht99 => ?_)
  ·
   have h := condT h ht99
   refine JS.seq (JS.region (JO.reg ttOk 2 [] [] [(58, .v (.agg #[.slice a16 (Q12 x0).2.1.1.length c17, .int .i64 (Q12 x0).2.1.2]))] _ E ⟨⟨E, V⟩, E⟩ ?_))
   obtain ⟨y57, hy58, h⟩ := bindO_some h
   refine JO.call E E E E (ok_s_l15Line (Q12 x0).2.1 a16 c17 (Q12 x0).2.1.1.length E _ hy58) E [3] E E ?_
   rintro ⟨a59, c60⟩ -
   refine JO.regB ttOk 2 [] [] [] (.new 10 46 cz46 (.new 39 46 (cl46 (y54.1, y54.2.1, y57, y54.2.2.2.1, (Q4 y54).1, (Q4 y54).2.1, (Q4 y54).2.2.1, (Q4 y54).2.2.2.1, (Q8 y54).1, 0, (Q8 y40).2.2.1, [], (Q12 y54).1, ((Q12 y40).2.1.1, (Q12 y54).2.1.2), (Q12 y40).2.2.1, (Q12 y54).2.2.2.1, ((Q16 y40).1, (Q16 y54).2)) a59 c60 a44 c45 none 0 a48 c49 a50 c51 a52 c53) .nil)) E ⟨V, (Bs E E)⟩ (JO.done E (JS.rgB ttOk 3 [] [] [] (.new 10 46 cz46 (.new 39 46 (cl46 (y54.1, y54.2.1, y57, y54.2.2.2.1, (Q4 y54).1, (Q4 y54).2.1, (Q4 y54).2.2.1, (Q4 y54).2.2.2.1, (Q8 y54).1, 0, (Q8 y40).2.2.1, [], (Q12 y54).1, ([], 0), (Q12 y40).2.2.1, (Q12 y54).2.2.2.1, ((Q16 y40).1, (Q16 y54).2)) a59 c60 a44 c45 none 0 none 0 a50 c51 a52 c53) .nil)) ⟨V, (Bs E E)⟩ E E (JS.rgB ttOk 2 [] [] [] (.new 10 46 cz46 (.new 39 46 (cl46 (y54.1, y54.2.1, y57, y54.2.2.2.1, (Q4 y54).1, (Q4 y54).2.1, (Q4 y54).2.2.1, (Q4 y54).2.2.2.1, (Q8 y54).1, 0, (Q8 y40).2.2.1, [], 0, ([], 0), (Q12 y40).2.2.1, (Q12 y54).2.2.2.1, ((Q16 y40).1, (Q16 y54).2)) a59 c60 a44 c45 none 0 none 0 a50 c51 a52 c53) .nil)) ⟨V, (Bs E E)⟩ E E (JS.seq (JS.region (JO.reg ttOk 1 [] [] [(64, .v (.agg (cl46 (y54.1, y54.2.1, y57, y54.2.2.2.1, (Q4 y54).1, (Q4 y54).2.1, (Q4 y54).2.2.1, (Q4 y54).2.2.2.1, (Q8 y54).1, 0, (Q8 y40).2.2.1, [], 0, ([], 0), (Q12 y40).2.2.1, (Q12 y54).2.2.2.1, ((Q16 y40).1, (Q16 y54).2)) a59 c60 a44 c45 none 0 none 0 a50 c51 a52 c53).toArray))] _ E ⟨⟨E, V⟩, E⟩ ?_))))))
   obtain ⟨y61, hy62, h⟩ := bindO_some h
   refine JO.nilR (.pair (.sl (.int .i64)) (.int .i64)) Sl.nil E E (JO.nilR (.int .i64) Sl.nil E E (JO.call E E E E (ok_s_l21Clip (y54.1, y54.2.1, y57, y54.2.2.2.1, (Q4 y54).1, (Q4 y54).2.1, (Q4 y54).2.2.1, (Q4 y54).2.2.2.1, (Q8 y54).1, 0, (Q8 y40).2.2.1, ([] : List (List Int × Int)), 0, (([] : List Int), 0), (Q12 y40).2.2.1, (Q12 y54).2.2.2.1, ((Q16 y40).1, (Q16 y54).2)) a59 c60 y57.1.length E a44 c45 (Q8 y40).2.2.1.length E none 0 (([] : List (List Int × Int)).length) E none 0 (([] : List Int).length) E a50 c51 (Q12 y40).2.2.1.length E a52 c53 (Q16 y40).1.length E _ hy62) E [9, 11, 1, 0, 14, 15] E E fun _ _ => JO.regB ttOk 2 [] [] [(7, .v (.bool true))] (.new 10 46 (cl46 (y61.1, y61.2.1, (y57.1, y61.2.2.1.2), y61.2.2.2.1, (Q4 y61).1, (Q4 y61).2.1, (Q4 y61).2.2.1, (Q4 y61).2.2.2.1, (Q8 y61).1, (Q8 y61).2.1, (Q8 y40).2.2.1, [], (Q12 y61).1, ([], (Q12 y61).2.1.2), (Q12 y40).2.2.1, (Q12 y61).2.2.2.1, ((Q16 y40).1, (Q16 y61).2)) a59 c60 a44 c45 none 0 none 0 a50 c51 a52 c53) .nil) E ⟨⟨E, V⟩, (Bs E E)⟩ (JO.done E ?_)))
   cases h
   refine JS.nilO (.int .i64) Sl.nil E E (JS.ret ttOk (a59, c60, a44, c45, none, 0, a50, c51, a52, c53) V E E [1, 2, 0, 3, 3] E)
  have h := condF h ht99
  refine JS.skip (JS.seq (JS.region (JO.reg ttOk 2 [] [] [(67, .v (.agg #[.int .i64 x1.1, .slice a28 x1.2.length c29])), (68, .v (I (W (x37 + x2))))] _ E ⟨(Es E), E⟩ ?_)))
  obtain ⟨⟨y63, y64⟩, hy65, h⟩ := bindO_some h
  refine JO.call E E E E (ok_s_HistGet x1 (W (x37 + x2)) a28 c29 x1.2.length E _ hy65) E [6] E E fun _ _ => JO.reg ttOk 5 [] [] [(11, .v (.string (bs y63))), (12, .v (.bool y64))] _ E ⟨(Es E), E⟩ (JO.done E (JS.seq (JS.region (JO.reg ttOk 1 [] [] [(73, .v (.string (bs y63)))] _ E ⟨⟨E, V⟩, E⟩ ?_))))
  obtain ⟨⟨y66, y67⟩, hy68, h⟩ := bindO_some h
  refine JO.call E E E E (ok_s_LineOf y63 _ hy68) E [] E E ?_
  rintro ⟨a69, c70⟩ -
  refine JO.regB ttOk 6 [] [58] [(13, .bp 58 0), (14, .v (.bool y67))] (.new 8 46 (cl46 x0 a4 c5 a8 c9 a12 c13 a16 c17 a20 c21 a24 c25) (.new 10 46 cz46 (.new 39 46 (cl46 (y54.1, y54.2.1, (y40.2.2.1.1, y54.2.2.1.2), y54.2.2.2.1, (Q4 y54).1, (Q4 y54).2.1, (Q4 y54).2.2.1, (Q4 y54).2.2.2.1, (Q8 y54).1, 0, (Q8 y40).2.2.1, [], (Q12 y54).1, ((Q12 y40).2.1.1, (Q12 y54).2.1.2), (Q12 y40).2.2.1, (Q12 y54).2.2.2.1, ((Q16 y40).1, (Q16 y54).2)) a42 c43 a44 c45 none 0 a48 c49 a50 c51 a52 c53) (.new 58 38 [.slice a69 y66.1.length c70, .int .i64 y66.2] .nil)))) E ⟨(Es E), (Bs E E)⟩ (JO.done E (JS.seq (JS.rg0 ttOk 6 [(82, .v (.bool (bif (!y64) then true else (!y67))))] ⟨⟨E, V⟩, E⟩ E E ?_)))
  refine JS.cond E (fun ht98 => ?_) (fun ht98 => ?_)
  ·
   have h := condT h ht98
   refine JS.rgB ttOk 3 [] [] [(7, .v (.bool false))] (.new 10 46 cz46 .nil) ⟨⟨E, V⟩, (Bs E E)⟩ E E ?_
   cases h
   refine JS.nilO (.int .i64) Sl.nil E E (JS.nilO (.sl (.int .i64)) Sl.nil E E (JS.nilO (.int .i64) Sl.nil E E (JS.nilO (.int .i64) Sl.nil E E (JS.nilO (.int .i64) Sl.nil E E (JS.ret ttOk (none, 0, none, 0, none, 0, none, 0, none, 0) V E E [4, 3, 2, 1, 0] E)))))
  have h := condF h ht98
  refine JS.skip ?_
  obtain ⟨j80, hj97, h⟩ := joinO_some h
  refine JS.seqJ (ι := List Int × Int × Option Addr × Nat) ⟨fun z => j80 (z.1, z.2.1) = some r, fun z => [(3, .bp 8 0), (6, .bp 10 0), (9, .v (I (W (x37 + x2)))), (10, .bp 39 0), (13, .bp 58 0)], fun z => (.new 8 46 (cl46 x0 a4 c5 a8 c9 a12 c13 a16 c17 a20 c21 a24 c25) (.new 10 46 cz46 (.new 39 46 (cl46 (y54.1, y54.2.1, (y40.2.2.1.1, y54.2.2.1.2), y54.2.2.2.1, (Q4 y54).1, (Q4 y54).2.1, (Q4 y54).2.2.1, (Q4 y54).2.2.2.1, (Q8 y54).1, 0, (Q8 y40).2.2.1, [], (Q12 y54).1, (z.1, z.2.1), (Q12 y40).2.2.1, (Q12 y54).2.2.2.1, ((Q16 y40).1, (Q16 y54).2)) a42 c43 a44 c45 none 0 z.2.2.1 z.2.2.2 a50 c51 a52 c53) (.new 58 38 [.slice a69 y66.1.length c70, .int .i64 y66.2] .nil)))), fun z => (fl32 x0 a4 c5 a8 c9 a12 c13 a16 c17 a20 c21 a24 c25 []), fun z => [⟨(.int .i64), ⟨z.2.2.1, z.1.length, z.2.2.2⟩, z.1⟩, ⟨(.int .i64), ⟨a42, y40.2.2.1.1.length, c43⟩, y40.2.2.1.1⟩, ⟨(.sl (.int .i64)), ⟨a44, (Q8 y40).2.2.1.length, c45⟩, (Q8 y40).2.2.1⟩, ⟨(.int .i64), ⟨a50, (Q12 y40).2.2.1.length, c51⟩, (Q12 y40).2.2.1⟩, ⟨(.int .i64), ⟨a52, (Q16 y40).1.length, c53⟩, (Q16 y40).1⟩, ⟨(.int .i64), ⟨a69, y66.1.length, c70⟩, y66.1⟩], fun z => 0⟩ ?_ ?_
  ·
   refine JS.rg0 ttOk 3 [(86, .v (.bool (decide ((Q12 x0).1 = 0))))] ⟨⟨E, V⟩, E⟩ E E ?_
   refine JS.cond E (fun ht94 => ?_) (fun ht94 => ?_)
   ·
    have h := condT h ht94
    refine JS.region (JO.reg ttOk 2 [] [] [(88, .v (.agg #[.slice a4 x0.2.2.1.1.length c5, .int .i64 x0.2.2.1.2]))] _ E ⟨⟨E, V⟩, E⟩ ?_)
    obtain ⟨y71, hy72, h⟩ := bindO_some h
    refine JO.call E E E E (ok_s_l15Line x0.2.2.1 a4 c5 x0.2.2.1.1.length E _ hy72) E [0] E E ?_
    rintro ⟨a73, c74⟩ -
    refine JO.regB ttOk 2 [] [] [] (.new 8 46 (cl46 x0 a4 c5 a8 c9 a12 c13 a16 c17 a20 c21 a24 c25) (.new 10 46 cz46 (.new 39 46 (cl46 (y54.1, y54.2.1, (y40.2.2.1.1, y54.2.2.1.2), y54.2.2.2.1, (Q4 y54).1, (Q4 y54).2.1, (Q4 y54).2.2.1, (Q4 y54).2.2.2.1, (Q8 y54).1, 0, (Q8 y40).2.2.1, [], (Q12 y54).1, y71, (Q12 y40).2.2.1, (Q12 y54).2.2.2.1, ((Q16 y40).1, (Q16 y54).2)) a42 c43 a44 c45 none 0 a73 c74 a50 c51 a52 c53) (.new 58 38 [.slice a69 y66.1.length c70, .int .i64 y66.2] .nil)))) E ⟨V, (Bs E E)⟩ (JO.done E (JS.endJA (y71.1, y71.2, a73, c74) h (Es E) (Bs E E) [0, 1, 2, 3, 4, 5] E [0, 2, 3, 6, 7, 1] E E))
   have h := condF h ht94
   refine JS.skip (JS.endJA ((Q12 y40).2.1.1, (Q12 y54).2.1.2, a48, c49) h (Es E) (Bs E E) [0, 1, 2, 3, 4, 5] E [4, 1, 2, 5, 6, 0] E E)
  rintro ⟨x76, x79, a77, c78⟩ h
  subst hj97
  obtain ⟨j84, hj96, h⟩ := joinO_some h
  refine JS.seqJ (ι := Int) ⟨fun z => j84 z = some r, fun z => [(6, .bp 10 0), (9, .v (I (W (x37 + x2)))), (10, .bp 39 0), (13, .bp 58 0)], fun z => (.new 10 46 cz46 (.new 39 46 (cl46 (y54.1, y54.2.1, (y40.2.2.1.1, y54.2.2.1.2), y54.2.2.2.1, (Q4 y54).1, (Q4 y54).2.1, (Q4 y54).2.2.1, (Q4 y54).2.2.2.1, (Q8 y54).1, 0, (Q8 y40).2.2.1, [], (Q12 y54).1, (x76, x79), (Q12 y40).2.2.1, (Q12 y54).2.2.2.1, ((Q16 y40).1, (Q16 y54).2)) a42 c43 a44 c45 none 0 a77 c78 a50 c51 a52 c53) (.new 58 38 [.slice a69 y66.1.length c70, .int .i64 z] .nil))), fun z => [], fun z => [⟨(.int .i64), ⟨a42, y40.2.2.1.1.length, c43⟩, y40.2.2.1.1⟩, ⟨(.sl (.int .i64)), ⟨a44, (Q8 y40).2.2.1.length, c45⟩, (Q8 y40).2.2.1⟩, ⟨(.int .i64), ⟨a77, x76.length, c78⟩, x76⟩, ⟨(.int .i64), ⟨a50, (Q12 y40).2.2.1.length, c51⟩, (Q12 y40).2.2.1⟩, ⟨(.int .i64), ⟨a52, (Q16 y40).1.length, c53⟩, (Q16 y40).1⟩, ⟨(.int .i64), ⟨a69, y66.1.length, c70⟩, y66.1⟩], fun z => 0⟩ ?_ ?_
  ·
   refine JS.rg0 ttOk 3 [(93, .v (.bool (decide (x0.2.1 = 2))))] ⟨⟨E, V⟩, E⟩ E E ?_
   refine JS.cond E (fun ht95 => ?_) (fun ht95 => ?_)
   ·
    have h := condT h ht95
    refine JS.reB ttOk 2 [] [] [] (.new 10 46 cz46 (.new 39 46 (cl46 (y54.1, y54.2.1, (y40.2.2.1.1, y54.2.2.1.2), y54.2.2.2.1, (Q4 y54).1, (Q4 y54).2.1, (Q4 y54).2.2.1, (Q4 y54).2.2.2.1, (Q8 y54).1, 0, (Q8 y40).2.2.1, [], (Q12 y54).1, (x76, x79), (Q12 y40).2.2.1, (Q12 y54).2.2.2.1, ((Q16 y40).1, (Q16 y54).2)) a42 c43 a44 c45 none 0 a77 c78 a50 c51 a52 c53) (.new 58 38 [.slice a69 y66.1.length c70, .int .i64 0] .nil))) ⟨V, (Bs E E)⟩ E E (JS.endJA 0 h (Es E) (Bs E E) [] E [1, 2, 0, 3, 4, 5] E E)
   have h := condF h ht95
   refine JS.skip (JS.endJA y66.2 h (Es E) (Bs E E) [] E [1, 2, 0, 3, 4, 5] E E)
  rintro x83 h
  subst hj96
  refine JS.rgB ttOk 3 [] [] [] (.new 10 46 cz46 (.new 39 46 (cl46 (y54.1, y54.2.1, (y66.1, x83), y54.2.2.2.1, (Q4 y54).1, (Q4 y54).2.1, (Q4 y54).2.2.1, (Q4 y54).2.2.2.1, (Q8 y54).1, 0, (Q8 y40).2.2.1, [], (Q12 y54).1, (x76, x79), (Q12 y40).2.2.1, (Q12 y54).2.2.2.1, ((Q16 y40).1, (Q16 y54).2)) a69 c70 a44 c45 none 0 a77 c78 a50 c51 a52 c53) .nil)) ⟨V, (Bs E E)⟩ E E (JS.rgB ttOk 3 [] [] [] (.new 10 46 cz46 (.new 39 46 (cl46 (y54.1, y54.2.1, (y66.1, x83), y54.2.2.2.1, (Q4 y54).1, (Q4 y54).2.1, (Q4 y54).2.2.1, (Q4 y54).2.2.2.1, (Q8 y54).1, 0, (Q8 y40).2.2.1, [], (W (x37 + x2)), (x76, x79), (Q12 y40).2.2.1, (Q12 y54).2.2.2.1, ((Q16 y40).1, (Q16 y54).2)) a69 c70 a44 c45 none 0 a77 c78 a50 c51 a52 c53) .nil)) ⟨V, (Bs E E)⟩ E E (JS.rgB ttOk 3 [] [] [(7, .v (.bool true))] (.new 10 46 (cl46 (y54.1, y54.2.1, (y66.1, x83), y54.2.2.2.1, (Q4 y54).1, (Q4 y54).2.1, (Q4 y54).2.2.1, (Q4 y54).2.2.2.1, (Q8 y54).1, 0, (Q8 y40).2.2.1, [], (W (x37 + x2)), (x76, x79), (Q12 y40).2.2.1, (Q12 y54).2.2.2.1, ((Q16 y40).1, (Q16 y54).2)) a69 c70 a44 c45 none 0 a77 c78 a50 c51 a52 c53) .nil) ⟨⟨E, V⟩, (Bs E E)⟩ E E ?_))
  cases h
  exact JS.ret ttOk (a69, c70, a44, c45, a77, c78, a50, c51, a52, c53) V E E [5, 1, 1, 1, 1] E

def M_s_l23Step (x0 : EdQ) (x1 : Int × List (List UInt8)) (x2 : Int) : Option (EdQ × Int) :=
  (bindO (M_s_EdStep x0 x1 x2) fun (y32, y33) =>
  (bif (!y33) then
  (bindO (M_s_l23Bell x0) fun (y45, y46) =>
  some (y45, y46))
  else
  some ((y32.1, y32.2.1, y32.2.2.1, y32.2.2.2.1, y32.2.2.2.2.1, y32.2.2.2.2.2.1, y32.2.2.2.2.2.2.1, y32.2.2.2.2.2.2.2.1, y32.2.2.2.2.2.2.2.2.1, y32.2.2.2.2.2.2.2.2.2.1, y32.2.2.2.2.2.2.2.2.2.2.1, [], y32.2.2.2.2.2.2.2.2.2.2.2.2.1, y32.2.2.2.2.2.2.2.2.2.2.2.2.2.1, y32.2.2.2.2.2.2.2.2.2.2.2.2.2.2.1, y32.2.2.2.2.2.2.2.2.2.2.2.2.2.2.2.1, y32.2.2.2.2.2.2.2.2.2.2.2.2.2.2.2.2), 0)))

theorem ok_s_l23Step (x0 : EdQ) (x1 : Int × List (List UInt8)) (x2 : Int) (a4 : Option Addr) (c5 : Nat) (l6 : Nat) (hl7 : x0.2.2.1.1.length = l6) (a8 : Option Addr) (c9 : Nat) (l10 : Nat) (hl11 : (Q8 x0).2.2.1.length = l10) (a12 : Option Addr) (c13 : Nat) (l14 : Nat) (hl15 : (Q8 x0).2.2.2.1.length = l14) (a16 : Option Addr) (c17 : Nat) (l18 : Nat) (hl19 : (Q12 x0).2.1.1.length = l18) (a20 : Option Addr) (c21 : Nat) (l22 : Nat) (hl23 : (Q12 x0).2.2.1.length = l22) (a24 : Option Addr) (c25 : Nat) (l26 : Nat) (hl27 : (Q16 x0).1.length = l26) (a28 : Option Addr) (c29 : Nat) (l30 : Nat) (hl31 : x1.2.length = l30) (r : EdQ × Int) (h : M_s_l23Step x0 x1 x2 = some r) :
  FC Tryz.prog 163 [.agg #[.bool x0.1, .int .i64 x0.2.1, .slice a4 l6 c5, .int .i64 x0.2.2.1.2, .int .i64 x0.2.2.2.1, .int .i64 (Q4 x0).1, .int .i64 (Q4 x0).2.1, .int .i64 (Q4 x0).2.2.1, .int .i64 (Q4 x0).2.2.2.1, .int .i64 (Q8 x0).1, .int .i64 (Q8 x0).2.1, .slice a8 l10 c9, .slice a12 l14 c13, .int .i64 (Q12 x0).1, .slice a16 l18 c17, .int .i64 (Q12 x0).2.1.2, .slice a20 l22 c21, .int .i64 (Q12 x0).2.2.2.1, .slice a24 l26 c25, .int .i64 (Q16 x0).2], .agg #[.int .i64 x1.1, .slice a28 l30 c29], .int .i64 x2] [⟨(.int .i64), ⟨a4, l6, c5⟩, x0.2.2.1.1⟩, ⟨(.sl (.int .i64)), ⟨a8, l10, c9⟩, (Q8 x0).2.2.1⟩, ⟨(.pair (.sl (.int .i64)) (.int .i64)), ⟨a12, l14, c13⟩, (Q8 x0).2.2.2.1⟩, ⟨(.int .i64), ⟨a16, l18, c17⟩, (Q12 x0).2.1.1⟩, ⟨(.int .i64), ⟨a20, l22, c21⟩, (Q12 x0).2.2.1⟩, ⟨(.int .i64), ⟨a24, l26, c25⟩, (Q16 x0).1⟩, ⟨.str, ⟨a28, l30, c29⟩, x1.2⟩] (fun _ : Option Addr × Nat × Option Addr × Nat × Option Addr × Nat × Option Addr × Nat × Option Addr × Nat × Option Addr × Nat => True) (fun q => .tuple #[.agg (cl46 r.1 q.1 q.2.1 q.2.2.1 q.2.2.2.1 (Q4 q).1 (Q4 q).2.1 (Q4 q).2.2.1 (Q4 q).2.2.2.1 (Q8 q).1 (Q8 q).2.1 (Q8 q).2.2.1 (Q8 q).2.2.2).toArray, .int .i64 r.2]) (fun q => (fl32 r.1 q.1 q.2.1 q.2.2.1 q.2.2.2.1 (Q4 q).1 (Q4 q).2.1 (Q4 q).2.2.1 (Q4 q).2.2.2.1 (Q8 q).1 (Q8 q).2.1 (Q8 q).2.2.1 (Q8 q).2.2.2 [])) :=
 by
  subst hl7
  subst hl11
  subst hl15
  subst hl19
  subst hl23
  subst hl27
  subst hl31
  refine FC.of (T := TTx) Tryz.call163 Tryz.func163 E E fun w0 => ?_
  unfold M_s_l23Step at h
  refine JS.rgB ttOk 4 [] [8, 9, 10] [(3, .bp 8 0), (4, .bp 9 0), (6, .bp 10 0)] (.new 8 46 (cl46 x0 a4 c5 a8 c9 a12 c13 a16 c17 a20 c21 a24 c25) (.new 9 50 [.int .i64 x1.1, .slice a28 x1.2.length c29] (.new 10 46 cz46 .nil))) ⟨(Es E), (Bs E E)⟩ E E (JS.seq (JS.region (JO.reg ttOk 3 [] [] [(11, .v (.agg (cl46 x0 a4 c5 a8 c9 a12 c13 a16 c17 a20 c21 a24 c25).toArray)), (12, .v (.agg #[.int .i64 x1.1, .slice a28 x1.2.length c29])), (13, .v (I x2))] _ E ⟨(Es E), E⟩ ?_)))
  obtain ⟨⟨y32, y33⟩, hy34, h⟩ := bindO_some h
  refine JO.call E E E E (ok_s_EdStep x0 x1 x2 a4 c5 x0.2.2.1.1.length E a8 c9 (Q8 x0).2.2.1.length E a12 c13 (Q8 x0).2.2.2.1.length E a16 c17 (Q12 x0).2.1.1.length E a20 c21 (Q12 x0).2.2.1.length E a24 c25 (Q16 x0).1.length E a28 c29 x1.2.length E _ hy34) E [0, 1, 2, 3, 4, 5, 6] E E ?_
  rintro ⟨a35, c36, a37, c38, a39, c40, a41, c42, a43, c44⟩ -
  refine JO.regB ttOk 6 [] [29] [(8, .bp 29 0), (9, .v (.bool y33))] (.new 8 46 (cl46 x0 a4 c5 a8 c9 a12 c13 a16 c17 a20 c21 a24 c25) (.new 10 46 cz46 (.new 29 46 (cl46 (y32.1, y32.2.1, y32.2.2.1, y32.2.2.2.1, (Q4 y32).1, (Q4 y32).2.1, (Q4 y32).2.2.1, (Q4 y32).2.2.2.1, (Q8 y32).1, (Q8 y32).2.1, (Q8 y32).2.2.1, [], (Q12 y32).1, (Q12 y32).2.1, (Q12 y32).2.2.1, (Q12 y32).2.2.2.1, (Q16 y32)) a35 c36 a37 c38 none 0 a39 c40 a41 c42 a43 c44) .nil))) E ⟨(Es E), (Bs E E)⟩ (JO.done E (JS.seq (JS.rg0 ttOk 2 [(18, .v (.bool (!y33)))] ⟨⟨E, V⟩, E⟩ E E ?_)))
  refine JS.cond E (fun ht61 => ?_) (fun ht61 => ?_)
  ·
   have h := condT h ht61
   refine JS.seq (JS.region (JO.reg ttOk 1 [] [] [(19, .v (.agg (cl46 x0 a4 c5 a8 c9 a12 c13 a16 c17 a20 c21 a24 c25).toArray))] _ E ⟨⟨E, V⟩, E⟩ ?_))
   obtain ⟨⟨y45, y46⟩, hy47, h⟩ := bindO_some h
   refine JO.call E E E E (ok_s_l23Bell x0 a4 c5 x0.2.2.1.1.length E a8 c9 (Q8 x0).2.2.1.length E a12 c13 (Q8 x0).2.2.2.1.length E a16 c17 (Q12 x0).2.1.1.length E a20 c21 (Q12 x0).2.2.1.length E a24 c25 (Q16 x0).1.length E _ hy47) E [0, 1, 2, 3, 4, 5] E E ?_
   rintro ⟨a48, c49, a50, c51, a52, c53, a54, c55, a56, c57, a58, c59⟩ -
   refine JO.regB ttOk 4 [] [] [(7, .v (I y46))] (.new 10 46 (cl46 y45 a48 c49 a50 c51 a52 c53 a54 c55 a56 c57 a58 c59) .nil) E ⟨⟨E, V⟩, (Bs E E)⟩ (JO.done E ?_)
   cases h
   exact JS.ret ttOk (a48, c49, a50, c51, a52, c53, a54, c55, a56, c57, a58, c59) V E E [0, 0, 0, 0, 0, 0] E
  have h := condF h ht61
  refine JS.skip (JS.rgB ttOk 3 [] [] [(7, .v (I 0))] (.new 10 46 (cl46 (y32.1, y32.2.1, y32.2.2.1, y32.2.2.2.1, (Q4 y32).1, (Q4 y32).2.1, (Q4 y32).2.2.1, (Q4 y32).2.2.2.1, (Q8 y32).1, (Q8 y32).2.1, (Q8 y32).2.2.1, [], (Q12 y32).1, (Q12 y32).2.1, (Q12 y32).2.2.1, (Q12 y32).2.2.2.1, (Q16 y32)) a35 c36 a37 c38 none 0 a39 c40 a41 c42 a43 c44) .nil) ⟨⟨E, V⟩, (Bs E E)⟩ E E ?_)
  cases h
  refine JS.nilO (.pair (.sl (.int .i64)) (.int .i64)) Sl.nil E E (JS.ret ttOk (a35, c36, a37, c38, none, 0, a39, c40, a41, c42, a43, c44) V E E [1, 1, 0, 0, 0, 0] E)

def M_s_LineGo (x0 : List Int × Int) (x1 : Int) : Option ((List Int × Int) × Bool) :=
  (bindO (M_s_l13Join x0.1 ([] : List Int) ([] : List Int)) fun (y7 : List Int) =>
  (bindO (M_s_l08Clamp x1 (x0.1.length : Int)) fun (y11 : Int) =>
  (bindO (M_s_LineOk x0) fun (y13 : Bool) =>
  (bindO (M_s_l13If (y7, y11) y13) fun (y15, y16) =>
  some (y15, y16)))))

theorem ok_s_LineGo (x0 : List Int × Int) (x1 : Int) (a3 : Option Addr) (c4 : Nat) (l5 : Nat) (hl6 : x0.1.length = l5) (r : (List Int × Int) × Bool) (h : M_s_LineGo x0 x1 = some r) :
  FC Tryz.prog 242 [.agg #[.slice a3 l5 c4, .int .i64 x0.2], .int .i64 x1] [⟨(.int .i64), ⟨a3, l5, c4⟩, x0.1⟩] (fun _ : Option Addr × Nat => True) (fun q => .tuple #[.agg #[.slice q.1 r.1.1.length q.2, .int .i64 r.1.2], .bool r.2]) (fun q => [⟨(.int .i64), ⟨q.1, r.1.1.length, q.2⟩, r.1.1⟩]) :=
 by
  subst hl6
  refine FC.of (T := TTx) Tryz.call242 Tryz.func242 E E fun w0 => ?_
  unfold M_s_LineGo at h
  refine JS.rgB ttOk 3 [] [2, 3] [(2, .bp 2 0), (4, .bp 3 0)] (.new 2 38 [.slice a3 x0.1.length c4, .int .i64 x0.2] (.new 3 38 [.slice none 0 0, .int .i64 0] .nil)) ⟨(Es E), (Bs E E)⟩ E E (JS.seq ?_)
  obtain ⟨y7, hy8, h⟩ := bindO_some h
  obtain ⟨y11, hy12, h⟩ := bindO_some h
  obtain ⟨y13, hy14, h⟩ := bindO_some h
  obtain ⟨⟨y15, y16⟩, hy17, h⟩ := bindO_some h
  refine JS.regionA E (.new 2 38 [.slice a3 x0.1.length c4, .int .i64 x0.2] .nil) [] [10, 11, 12, 13, 14, 15] ⟨E, E, E, E, V⟩ E (fun be20 => ?_)
  refine JA.reg ttOk panic_cx true 12 [0, 1, 3, 9] E (by kernel_rfl) [] [(7, .v (.slice a3 x0.1.length c4)), (9, .v (I x1)), (15, .v (.agg #[.slice a3 x0.1.length c4, .int .i64 x0.2]))] ⟨E, E, E, E, V⟩ [] E E (Es E) (JA.regL ttOk panic_cx 11 [4] E (by kernel_rfl) [] [(10, .bp 2 0)] E ⟨E, V⟩ (JA.reg ttOk panic_cx true 9 [5, 6] E (by kernel_rfl) [] [(12, .v (I (x0.1.length : Int)))] ⟨E, E, E, E, V⟩ [] E E ⟨E, V⟩ (JA.one 2 (by kernel_rfl) (JK.nilR (.int .i64) Sl.nil E E (JK.nilR (.int .i64) Sl.nil E E (JK.call E E E E (ok_s_l13Join x0.1 ([] : List Int) ([] : List Int) a3 c4 x0.1.length E none 0 (([] : List Int).length) E none 0 (([] : List Int).length) E _ hy8) E [2, 1, 0] E E ?_))))))
  rintro ⟨a9, c10⟩ -
  refine JA.next ⟨E, E, E, E, V⟩ [] E (JA.one 7 (by kernel_rfl) (JK.call E E E E (ok_s_l08Clamp x1 (x0.1.length : Int) _ hy12) E [] E E fun _ _ => JA.next ⟨E, E, E, E, V⟩ [] E (JA.regL ttOk panic_cx 6 [8] E (by kernel_rfl) [] [(14, .v (.agg #[.slice a9 y7.length c10, .int .i64 y11]))] E ⟨E, V⟩ (JA.one 10 (by kernel_rfl) (JK.call E E E E (ok_s_LineOk x0 a3 c4 x0.1.length E _ hy14) E [2] E E fun _ _ => JA.nextL E (JA.one 11 (by kernel_rfl) (JK.callX E E E E (ok_s_l13If (y7, y11) y13 a9 c10 y7.length E _ hy17) E [0] E [] E E ?_)))))))
  rintro ⟨a18, c19⟩ -
  refine JA.nextL E (JA.regL ttOk panic_cx 2 [12, 13] E (by kernel_rfl) [] [(18, .v (.agg #[.slice a18 y15.1.length c19, .int .i64 y15.2])), (19, .v (.bool y16))] E (Es E) (JA.one 14 (by kernel_rfl) (JK.stBox ttOk E E E E E E E E (JA.nextL E (JA.regL ttOk panic_cx 0 [15] E (by kernel_rfl) [] [(5, .v (.bool y16))] E ⟨E, V⟩ (JA.done (by kernel_rfl) (JS.boxes (B' := (.new 3 38 [.slice a18 y15.1.length c19, .int .i64 y15.2] .nil)) (Bs E E) ?_)))))))
  cases h
  exact JS.ret ttOk (a18, c19) V E E [0] E

def M_s_l23Go (x0 : EdQ) (x1 : Int) : Option (EdQ × Int) :=
  (bindO (M_s_LineGo x0.2.2.1 x1) fun (y27, y28) =>
  (bindO (M_s_l23Set x0 y27 y28 0) fun (y32, y33) =>
  some (y32, y33)))

theorem ok_s_l23Go (x0 : EdQ) (x1 : Int) (a3 : Option Addr) (c4 : Nat) (l5 : Nat) (hl6 : x0.2.2.1.1.length = l5) (a7 : Option Addr) (c8 : Nat) (l9 : Nat) (hl10 : (Q8 x0).2.2.1.length = l9) (a11 : Option Addr) (c12 : Nat) (l13 : Nat) (hl14 : (Q8 x0).2.2.2.1.length = l13) (a15 : Option Addr) (c16 : Nat) (l17 : Nat) (hl18 : (Q12 x0).2.1.1.length = l17) (a19 : Option Addr) (c20 : Nat) (l21 : Nat) (hl22 : (Q12 x0).2.2.1.length = l21) (a23 : Option Addr) (c24 : Nat) (l25 : Nat) (hl26 : (Q16 x0).1.length = l25) (r : EdQ × Int) (h : M_s_l23Go x0 x1 = some r) :
  FC Tryz.prog 162 [.agg #[.bool x0.1, .int .i64 x0.2.1, .slice a3 l5 c4, .int .i64 x0.2.2.1.2, .int .i64 x0.2.2.2.1, .int .i64 (Q4 x0).1, .int .i64 (Q4 x0).2.1, .int .i64 (Q4 x0).2.2.1, .int .i64 (Q4 x0).2.2.2.1, .int .i64 (Q8 x0).1, .int .i64 (Q8 x0).2.1, .slice a7 l9 c8, .slice a11 l13 c12, .int .i64 (Q12 x0).1, .slice a15 l17 c16, .int .i64 (Q12 x0).2.1.2, .slice a19 l21 c20, .int .i64 (Q12 x0).2.2.2.1, .slice a23 l25 c24, .int .i64 (Q16 x0).2], .int .i64 x1] [⟨(.int .i64), ⟨a3, l5, c4⟩, x0.2.2.1.1⟩, ⟨(.sl (.int .i64)), ⟨a7, l9, c8⟩, (Q8 x0).2.2.1⟩, ⟨(.pair (.sl (.int .i64)) (.int .i64)), ⟨a11, l13, c12⟩, (Q8 x0).2.2.2.1⟩, ⟨(.int .i64), ⟨a15, l17, c16⟩, (Q12 x0).2.1.1⟩, ⟨(.int .i64), ⟨a19, l21, c20⟩, (Q12 x0).2.2.1⟩, ⟨(.int .i64), ⟨a23, l25, c24⟩, (Q16 x0).1⟩] (fun _ : Option Addr × Nat × Option Addr × Nat × Option Addr × Nat × Option Addr × Nat × Option Addr × Nat × Option Addr × Nat => True) (fun q => .tuple #[.agg (cl46 r.1 q.1 q.2.1 q.2.2.1 q.2.2.2.1 (Q4 q).1 (Q4 q).2.1 (Q4 q).2.2.1 (Q4 q).2.2.2.1 (Q8 q).1 (Q8 q).2.1 (Q8 q).2.2.1 (Q8 q).2.2.2).toArray, .int .i64 r.2]) (fun q => (fl32 r.1 q.1 q.2.1 q.2.2.1 q.2.2.2.1 (Q4 q).1 (Q4 q).2.1 (Q4 q).2.2.1 (Q4 q).2.2.2.1 (Q8 q).1 (Q8 q).2.1 (Q8 q).2.2.1 (Q8 q).2.2.2 [])) :=
 by
  subst hl6
  subst hl10
  subst hl14
  subst hl18
  subst hl22
  subst hl26
  refine FC.of (T := TTx) Tryz.call162 Tryz.func162 E E fun w0 => ?_
  unfold M_s_l23Go at h
  refine JS.rgB ttOk 3 [] [7, 8] [(2, .bp 7 0), (4, .bp 8 0)] (.new 7 46 (cl46 x0 a3 c4 a7 c8 a11 c12 a15 c16 a19 c20 a23 c24) (.new 8 46 cz46 .nil)) ⟨(Es E), (Bs E E)⟩ E E (JS.seq (JS.region (JO.reg ttOk 3 [] [] [(10, .v (.agg #[.slice a3 x0.2.2.1.1.length c4, .int .i64 x0.2.2.1.2])), (11, .v (I x1))] _ E ⟨(Es E), E⟩ ?_)))
  obtain ⟨⟨y27, y28⟩, hy29, h⟩ := bindO_some h
  refine JO.call E E E E (ok_s_LineGo x0.2.2.1 x1 a3 c4 x0.2.2.1.1.length E _ hy29) E [0] E E ?_
  rintro ⟨a30, c31⟩ -
  refine JO.regB ttOk 6 [] [15] [(6, .bp 15 0), (7, .v (.bool y28))] (.new 7 46 (cl46 x0 a3 c4 a7 c8 a11 c12 a15 c16 a19 c20 a23 c24) (.new 8 46 cz46 (.new 15 38 [.slice a30 y27.1.length c31, .int .i64 y27.2] .nil))) E ⟨(Es E), (Bs E E)⟩ (JO.done E (JS.seq (JS.region (JO.reg ttOk 3 [] [] [(15, .v (.agg (cl46 x0 a3 c4 a7 c8 a11 c12 a15 c16 a19 c20 a23 c24).toArray)), (16, .v (.agg #[.slice a30 y27.1.length c31, .int .i64 y27.2])), (17, .v (.bool y28))] _ E ⟨(Es E), E⟩ ?_))))
  obtain ⟨⟨y32, y33⟩, hy34, h⟩ := bindO_some h
  refine JO.call E E E E (ok_s_l23Set x0 y27 y28 0 a3 c4 x0.2.2.1.1.length E a7 c8 (Q8 x0).2.2.1.length E a11 c12 (Q8 x0).2.2.2.1.length E a15 c16 (Q12 x0).2.1.1.length E a19 c20 (Q12 x0).2.2.1.length E a23 c24 (Q16 x0).1.length E a30 c31 y27.1.length E _ hy34) E [0, 1, 2, 3, 4, 5, 6] E E ?_
  rintro ⟨a35, c36, a37, c38, a39, c40, a41, c42, a43, c44, a45, c46⟩ -
  refine JO.regB ttOk 4 [] [] [(5, .v (I y33))] (.new 8 46 (cl46 y32 a35 c36 a37 c38 a39 c40 a41 c42 a43 c44 a45 c46) .nil) E ⟨⟨E, V⟩, (Bs E E)⟩ (JO.done E ?_)
  cases h
  exact JS.ret ttOk (a35, c36, a37, c38, a39, c40, a41, c42, a43, c44, a45, c46) V E E [0, 0, 0, 0, 0, 0] E

def M_s_l23Many_L1 (x0 : Int) (x1 : Int) (j19 : (List Int) → Option (List Int)) (k13 : (List Int × Int) → Option (List Int)) : (List Int × Int) → Option (List Int) := fun (x4, x7) =>
  (bif (decide (x7 < x1)) then
  (guardO (x4.length + ([x0] : List Int).length ≤ 536870912) <|
  k13 ((x4 ++ ([x0] : List Int)), (W (x7 + 1))))
  else
  j19 x4)

def M_s_l23Many (x0 : Int) (x1 : Int) : Option (List Int) :=
  (joinO (fun (x16 : List Int) =>
  some x16) fun j19 =>
  (fixF (M_s_l23Many_L1 x0 x1 j19) FUEL (([] : List Int), 0)))

theorem ok_s_l23Many (x0 : Int) (x1 : Int) (r : List Int) (h : M_s_l23Many x0 x1 = some r) :
  FC Tryz.prog 160 [.int .i64 x0, .int .i64 x1] [] (fun _ : Option Addr × Nat => True) (fun q => .slice q.1 r.length q.2) (fun q => [⟨(.int .i64), ⟨q.1, r.length, q.2⟩, r⟩]) :=
 by
  refine FC.of (T := TTx) Tryz.call160 Tryz.func160 E E fun w0 => ?_
  unfold M_s_l23Many at h
  refine JS.rg0 ttOk 1 [] ⟨V, E⟩ E E (JS.seq (JS.region ?_))
  refine JO.ofK E (JK.buildSlice ttOk E E E E E E E E E E E [] E (.int .i64) [] ⟨E, E⟩ E E fun a3 => JO.toK ?_)
  refine JO.reg ttOk 1 [] [] [(5, .v (.slice a3 ([] : List Int).length ([] : List Int).length))] _ E ⟨⟨E, V⟩, E⟩ (JO.done E (JS.seq (JS.rg0 ttOk 1 [(6, .v (I 0))] ⟨⟨E, V⟩, E⟩ E E ?_)))
  obtain ⟨j19, hj23, h⟩ := joinO_some h
  refine JS.blockJ (ι := List Int × Option Addr × Nat) ⟨fun z => j19 z.1 = some r, fun z => [(5, .v (.slice z.2.1 z.1.length z.2.2))], fun z => .nil, fun z => [], fun z => [⟨(.int .i64), ⟨z.2.1, z.1.length, z.2.2⟩, z.1⟩], fun z => 0⟩ ?_ ?_
  ·
   refine JS.loop (ι := Nat × List Int × Int × Option Addr × Nat) ⟨fun z => fixF (M_s_l23Many_L1 x0 x1 j19) z.1 (z.2.1, z.2.2.1) = some r, fun z => [(0, .v (I x0)), (1, .v (I x1)), (5, .v (.slice z.2.2.2.1 z.2.1.length (Q4 z))), (6, .v (I z.2.2.1))], fun z => .nil, fun z => [], fun z => [⟨(.int .i64), ⟨z.2.2.2.1, z.2.1.length, (Q4 z)⟩, z.2.1⟩], fun z => z.1⟩ (FUEL, ([] : List Int), 0, a3, ([] : List Int).length) h (Es E) V [] E [0] E ?_
   rintro ⟨n14, x4, x7, a5, c6⟩ h
   obtain ⟨n14, rfl, h⟩ := fixF_some h
   rw [M_s_l23Many_L1] at h
   refine JS.seq (JS.rg0 ttOk 3 [(10, .v (.bool (decide (x7 < x1))))] ⟨⟨E, V⟩, E⟩ E E ?_)
   refine JS.cond E (fun ht22 => ?_) (fun ht22 => ?_)
   ·
    have h := condT h ht22
    refine JS.skip (JS.seq (JS.block (JS.region (JO.reg ttOk 2 [] [] [(13, .v (.slice a5 x4.length c6)), (14, .v (I x0))] _ E ⟨(Es E), E⟩ ?_))))
    refine JO.ofK E (JK.buildSlice ttOk E E E E E E E E E E E [] E (.int .i64) [x0] ⟨E, E⟩ E E fun a8 => JO.toK ?_)
    obtain ⟨g9, h⟩ := guardO_some h
    refine JO.appendR' ttOk E E E E ⟨E, E, E, E, V, E, E, E, E⟩ E E E [1] E 0 E g9 E fun a10 c11 => JO.reg ttOk 1 [] [] [(5, .v (.slice a10 (x4 ++ ([x0] : List Int)).length c11))] _ E ⟨⟨E, V⟩, E⟩ (JO.done E (JS.endB (JS.re ttOk 3 [(W (x7 + 1))] [] [(6, .v (I (W (x7 + 1))))] _ ⟨⟨V, E⟩, ⟨E, V⟩, E⟩ E E (JS.endL (n14, (x4 ++ ([x0] : List Int)), (W (x7 + 1)), a10, c11) h (Nat.lt_succ_self _) (Es E) V [] E [0] E))))
   have h := condF h ht22
   refine JS.exit E (JS.endJ (x4, a5, c6) h ⟨E, V⟩ V [] E [0] E)
  rintro ⟨x16, a17, c18⟩ h
  subst hj23
  refine JS.rg0 ttOk 2 [(4, .v (.slice a17 x16.length c18))] ⟨⟨E, V⟩, E⟩ E E ?_
  cases h
  exact JS.ret ttOk (a17, c18) V E E [0] E

def M_s_LinePut (x0 : List Int × Int) (x1 : List Int) : Option ((List Int × Int) × Bool) :=
  (bindO (M_s_LineOk x0) fun (y11 : Bool) =>
  (bif (!y11) then
  some (([], 0), false)
  else
  (guardO (0 ≤ (0 : Int) ∧ (0 : Int) ≤ x0.2 ∧ x0.2 ≤ (x0.1.length : Int)) <|
  (guardO (0 ≤ x0.2 ∧ x0.2 ≤ (x0.1.length : Int) ∧ (x0.1.length : Int) ≤ (x0.1.length : Int)) <|
  (bindO (M_s_l13Join (sub' x0.1 (0 : Int) x0.2) x1 (sub' x0.1 x0.2 (x0.1.length : Int))) fun (y22 : List Int) =>
  (bindO (M_s_l13If (y22, (W (x0.2 + (x1.length : Int)))) true) fun (y26, y27) =>
  some (y26, y27)))))))

theorem ok_s_LinePut (x0 : List Int × Int) (x1 : List Int) (a3 : Option Addr) (c4 : Nat) (l5 : Nat) (hl6 : x0.1.length = l5) (a7 : Option Addr) (c8 : Nat) (l9 : Nat) (hl10 : x1.length = l9) (r : (List Int × Int) × Bool) (h : M_s_LinePut x0 x1 = some r) :
  FC Tryz.prog 241 [.agg #[.slice a3 l5 c4, .int .i64 x0.2], .slice a7 l9 c8] [⟨(.int .i64), ⟨a3, l5, c4⟩, x0.1⟩, ⟨(.int .i64), ⟨a7, l9, c8⟩, x1⟩] (fun _ : Option Addr × Nat => True) (fun q => .tuple #[.agg #[.slice q.1 r.1.1.length q.2, .int .i64 r.1.2], .bool r.2]) (fun q => [⟨(.int .i64), ⟨q.1, r.1.1.length, q.2⟩, r.1.1⟩]) :=
 by
  subst hl6
  subst hl10
  refine FC.of (T := TTx) Tryz.call241 Tryz.func241 E E fun w0 => ?_
  unfold M_s_LinePut at h
  refine JS.rgB ttOk 3 [] [3, 4] [(2, .bp 3 0), (4, .bp 4 0)] (.new 3 38 [.slice a3 x0.1.length c4, .int .i64 x0.2] (.new 4 38 [.slice none 0 0, .int .i64 0] .nil)) ⟨(Es E), (Bs E E)⟩ E E (JS.seq (JS.seq (JS.region (JO.reg ttOk 1 [] [] [(6, .v (.agg #[.slice a3 x0.1.length c4, .int .i64 x0.2]))] _ E ⟨⟨E, V⟩, E⟩ ?_))))
  obtain ⟨y11, hy12, h⟩ := bindO_some h
  refine JO.call E E E E (ok_s_LineOk x0 a3 c4 x0.1.length E _ hy12) E [0] E E fun _ _ => JO.reg ttOk 1 [] [] [(8, .v (.bool (!y11)))] _ E ⟨⟨E, V⟩, E⟩ (JO.done E ?_)
  refine JS.cond E (fun ht38 => ?_) (fun ht38 => ?_)
  ·
   have h := condT h ht38
   refine JS.rgB ttOk 3 [] [] [(5, .v (.bool false))] (.new 4 38 [.slice none 0 0, .int .i64 0] .nil) ⟨⟨E, V⟩, (Bs E E)⟩ E E ?_
   cases h
   refine JS.nilO (.int .i64) Sl.nil E E (JS.ret ttOk (none, 0) V E E [0] E)
  have h := condF h ht38
  refine JS.skip (JS.seq ?_)
  obtain ⟨g13, h⟩ := guardO_some h
  obtain ⟨g18, h⟩ := guardO_some h
  obtain ⟨y22, hy23, h⟩ := bindO_some h
  obtain ⟨⟨y26, y27⟩, hy28, h⟩ := bindO_some h
  refine JS.subR 0 E (0 : Int) x0.2 fun a14 c15 hu16 => JS.subR 1 E x0.2 (x0.1.length : Int) fun a19 c20 hu21 => JS.know 2 E fun hs37 => ?_
  refine JS.regionA E (.new 3 38 [.slice a3 x0.1.length c4, .int .i64 x0.2] .nil) [] [17, 18, 19, 20, 21, 22] ⟨E, E, E, E, V⟩ E (fun be33 => ?_)
  refine JA.reg ttOk panic_cx true 9 [0, 1, 2, 3, 5, 6, 7, 8, 9, 12, 13, 14, 15, 16] E (by kernel_rfl) [(W (x0.2 + (x1.length : Int)))] [(11, .v (.slice a3 x0.1.length c4)), (13, .v (I x0.2)), (15, .v (.slice a7 x1.length c8)), (17, .v (.slice a3 x0.1.length c4)), (19, .v (I x0.2)), (26, .v (I (W (x0.2 + (x1.length : Int)))))] ⟨E, E, E, E, V⟩ [] E E ⟨⟨V, E⟩, (Es E)⟩ (JA.sliceP ttOk panic_cx 4 E (by kernel_rfl) E E E E E E (0 : Int) x0.2 E E ⟨g13.1, g13.2.1, g13.2.2, hs37.cap, hu16 g13⟩ E (JA.sliceP ttOk panic_cx 10 E (by kernel_rfl) E E E E E E x0.2 (x0.1.length : Int) E E ⟨g18.1, g18.2.1, g18.2.2, hs37.cap, hu21 g18⟩ E (JA.one 11 (by kernel_rfl) (JK.call E E E E (ok_s_l13Join (sub' x0.1 (0 : Int) x0.2) x1 (sub' x0.1 x0.2 (x0.1.length : Int)) a14 c15 ((sub' x0.1 (0 : Int) x0.2).length) E a7 c8 x1.length E a19 c20 ((sub' x0.1 x0.2 (x0.1.length : Int)).length) E _ hy23) E [1, 3, 0] E E ?_))))
  rintro ⟨a24, c25⟩ -
  refine JA.next ⟨E, E, E, E, V⟩ [] E (JA.regL ttOk panic_cx 5 [17] E (by kernel_rfl) [] [(27, .v (.agg #[.slice a24 y22.length c25, .int .i64 (W (x0.2 + (x1.length : Int)))]))] E ⟨E, V⟩ (JA.one 18 (by kernel_rfl) (JK.callX E E E E (ok_s_l13If (y22, (W (x0.2 + (x1.length : Int)))) true a24 c25 y22.length E _ hy28) E [0] E [] E E ?_)))
  rintro ⟨a29, c30⟩ -
  refine JA.nextL E (JA.regL ttOk panic_cx 2 [19, 20] E (by kernel_rfl) [] [(29, .v (.agg #[.slice a29 y26.1.length c30, .int .i64 y26.2])), (30, .v (.bool y27))] E (Es E) (JA.one 21 (by kernel_rfl) (JK.stBox ttOk E E E E E E E E (JA.nextL E (JA.regL ttOk panic_cx 0 [22] E (by kernel_rfl) [] [(5, .v (.bool y27))] E ⟨E, V⟩ (JA.done (by kernel_rfl) (JS.boxes (B' := (.new 4 38 [.slice a29 y26.1.length c30, .int .i64 y26.2] .nil)) (Bs E E) ?_)))))))
  cases h
  exact JS.ret ttOk (a29, c30) V E E [0] E

def M_s_l23Put (x0 : EdQ) (x1 : List Int) (x2 : Int) : Option (EdQ × Int) :=
  (bindO (M_s_LinePut x0.2.2.1 x1) fun (y32, y33) =>
  (bindO (M_s_l23Set x0 y32 y33 x2) fun (y37, y38) =>
  some (y37, y38)))

theorem ok_s_l23Put (x0 : EdQ) (x1 : List Int) (x2 : Int) (a4 : Option Addr) (c5 : Nat) (l6 : Nat) (hl7 : x0.2.2.1.1.length = l6) (a8 : Option Addr) (c9 : Nat) (l10 : Nat) (hl11 : (Q8 x0).2.2.1.length = l10) (a12 : Option Addr) (c13 : Nat) (l14 : Nat) (hl15 : (Q8 x0).2.2.2.1.length = l14) (a16 : Option Addr) (c17 : Nat) (l18 : Nat) (hl19 : (Q12 x0).2.1.1.length = l18) (a20 : Option Addr) (c21 : Nat) (l22 : Nat) (hl23 : (Q12 x0).2.2.1.length = l22) (a24 : Option Addr) (c25 : Nat) (l26 : Nat) (hl27 : (Q16 x0).1.length = l26) (a28 : Option Addr) (c29 : Nat) (l30 : Nat) (hl31 : x1.length = l30) (r : EdQ × Int) (h : M_s_l23Put x0 x1 x2 = some r) :
  FC Tryz.prog 159 [.agg #[.bool x0.1, .int .i64 x0.2.1, .slice a4 l6 c5, .int .i64 x0.2.2.1.2, .int .i64 x0.2.2.2.1, .int .i64 (Q4 x0).1, .int .i64 (Q4 x0).2.1, .int .i64 (Q4 x0).2.2.1, .int .i64 (Q4 x0).2.2.2.1, .int .i64 (Q8 x0).1, .int .i64 (Q8 x0).2.1, .slice a8 l10 c9, .slice a12 l14 c13, .int .i64 (Q12 x0).1, .slice a16 l18 c17, .int .i64 (Q12 x0).2.1.2, .slice a20 l22 c21, .int .i64 (Q12 x0).2.2.2.1, .slice a24 l26 c25, .int .i64 (Q16 x0).2], .slice a28 l30 c29, .int .i64 x2] [⟨(.int .i64), ⟨a4, l6, c5⟩, x0.2.2.1.1⟩, ⟨(.sl (.int .i64)), ⟨a8, l10, c9⟩, (Q8 x0).2.2.1⟩, ⟨(.pair (.sl (.int .i64)) (.int .i64)), ⟨a12, l14, c13⟩, (Q8 x0).2.2.2.1⟩, ⟨(.int .i64), ⟨a16, l18, c17⟩, (Q12 x0).2.1.1⟩, ⟨(.int .i64), ⟨a20, l22, c21⟩, (Q12 x0).2.2.1⟩, ⟨(.int .i64), ⟨a24, l26, c25⟩, (Q16 x0).1⟩, ⟨(.int .i64), ⟨a28, l30, c29⟩, x1⟩] (fun _ : Option Addr × Nat × Option Addr × Nat × Option Addr × Nat × Option Addr × Nat × Option Addr × Nat × Option Addr × Nat => True) (fun q => .tuple #[.agg (cl46 r.1 q.1 q.2.1 q.2.2.1 q.2.2.2.1 (Q4 q).1 (Q4 q).2.1 (Q4 q).2.2.1 (Q4 q).2.2.2.1 (Q8 q).1 (Q8 q).2.1 (Q8 q).2.2.1 (Q8 q).2.2.2).toArray, .int .i64 r.2]) (fun q => (fl32 r.1 q.1 q.2.1 q.2.2.1 q.2.2.2.1 (Q4 q).1 (Q4 q).2.1 (Q4 q).2.2.1 (Q4 q).2.2.2.1 (Q8 q).1 (Q8 q).2.1 (Q8 q).2.2.1 (Q8 q).2.2.2 [])) :=
 by
  subst hl7
  subst hl11
  subst hl15
  subst hl19
  subst hl23
  subst hl27
  subst hl31
  refine FC.of (T := TTx) Tryz.call159 Tryz.func159 E E fun w0 => ?_
  unfold M_s_l23Put at h
  refine JS.rgB ttOk 3 [] [8, 9] [(3, .bp 8 0), (6, .bp 9 0)] (.new 8 46 (cl46 x0 a4 c5 a8 c9 a12 c13 a16 c17 a20 c21 a24 c25) (.new 9 46 cz46 .nil)) ⟨(Es E), (Bs E E)⟩ E E (JS.seq (JS.region (JO.reg ttOk 3 [] [] [(12, .v (.agg #[.slice a4 x0.2.2.1.1.length c5, .int .i64 x0.2.2.1.2])), (13, .v (.slice a28 x1.length c29))] _ E ⟨(Es E), E⟩ ?_)))
  obtain ⟨⟨y32, y33⟩, hy34, h⟩ := bindO_some h
  refine JO.call E E E E (ok_s_LinePut x0.2.2.1 x1 a4 c5 x0.2.2.1.1.length E a28 c29 x1.length E _ hy34) E [0, 6] E E ?_
  rintro ⟨a35, c36⟩ -
  refine JO.regB ttOk 6 [] [16] [(8, .bp 16 0), (9, .v (.bool y33))] (.new 8 46 (cl46 x0 a4 c5 a8 c9 a12 c13 a16 c17 a20 c21 a24 c25) (.new 9 46 cz46 (.new 16 38 [.slice a35 y32.1.length c36, .int .i64 y32.2] .nil))) E ⟨(Es E), (Bs E E)⟩ (JO.done E (JS.seq (JS.region (JO.reg ttOk 4 [] [] [(17, .v (.agg (cl46 x0 a4 c5 a8 c9 a12 c13 a16 c17 a20 c21 a24 c25).toArray)), (18, .v (.agg #[.slice a35 y32.1.length c36, .int .i64 y32.2])), (19, .v (.bool y33)), (20, .v (I x2))] _ E ⟨(Es E), E⟩ ?_))))
  obtain ⟨⟨y37, y38⟩, hy39, h⟩ := bindO_some h
  refine JO.call E E E E (ok_s_l23Set x0 y32 y33 x2 a4 c5 x0.2.2.1.1.length E a8 c9 (Q8 x0).2.2.1.length E a12 c13 (Q8 x0).2.2.2.1.length E a16 c17 (Q12 x0).2.1.1.length E a20 c21 (Q12 x0).2.2.1.length E a24 c25 (Q16 x0).1.length E a35 c36 y32.1.length E _ hy39) E [0, 1, 2, 3, 4, 5, 7] E E ?_
  rintro ⟨a40, c41, a42, c43, a44, c45, a46, c47, a48, c49, a50, c51⟩ -
  refine JO.regB ttOk 4 [] [] [(7, .v (I y38))] (.new 9 46 (cl46 y37 a40 c41 a42 c43 a44 c45 a46 c47 a48 c49 a50 c51) .nil) E ⟨⟨E, V⟩, (Bs E E)⟩ (JO.done E ?_)
  cases h
  exact JS.ret ttOk (a40, c41, a42, c43, a44, c45, a46, c47, a48, c49, a50, c51) V E E [0, 0, 0, 0, 0, 0] E

def M_s_l23Plain (x0 : EdQ) (x1 : Int × List (List UInt8)) (x2 : Int × Int) : Option (EdQ × Int) :=
  (bindO (M_s_l23N x0) fun (y32 : Int) =>
  (joinO (fun (_ : Unit) =>
  some ((false, 0, ([], 0), 0, 0, 0, 0, 0, 0, 0, [], [], 0, ([], 0), [], 0, ([], 0)), (-1))) fun j316 =>
  (bif (decide (x2.1 = 1)) then
  (bindO (M_s_l23Many x2.2 y32) fun (y34 : List Int) =>
  (bindO (M_s_l23Put x0 y34 1) fun (y38, y39) =>
  some (y38, y39)))
  else
  (bif (decide (x2.1 = 6)) then
  (bindO (M_s_l23Many 9 y32) fun (y54 : List Int) =>
  (bindO (M_s_l23Put x0 y54 1) fun (y58, y59) =>
  some (y58, y59)))
  else
  (bif (decide (x2.1 = 4)) then
  (bindO (M_s_l21Copy x0) fun (y74 : EdQ) =>
  some (y74, 2))
  else
  (bif (decide (x2.1 = 5)) then
  (bindO (M_s_l23Cut x0 (W (x0.2.2.1.2 - y32)) x0.2.2.1.2) fun (y88, y89) =>
  some (y88, y89))
  else
  (bif (decide (x2.1 = 14)) then
  (bindO (M_s_l23Cut x0 x0.2.2.1.2 (W (x0.2.2.1.2 + y32))) fun (y103, y104) =>
  some (y103, y104))
  else
  (bif (decide (x2.1 = 11)) then
  (bindO (M_s_l23Go x0 (W (x0.2.2.1.2 - y32))) fun (y118, y119) =>
  some (y118, y119))
  else
  (bif (decide (x2.1 = 10)) then
  (bindO (M_s_l23Go x0 (W (x0.2.2.1.2 + y32))) fun (y133, y134) =>
  some (y133, y134))
  else
  (bif (decide (x2.1 = 12)) then
  (bindO (M_s_l23Go x0 0) fun (y148, y149) =>
  some (y148, y149))
  else
  (bif (decide (x2.1 = 13)) then
  (bindO (M_s_l23Go x0 (x0.2.2.1.1.length : Int)) fun (y163, y164) =>
  some (y163, y164))
  else
  (bif (decide (x2.1 = 8)) then
  (bindO (M_s_l23Step x0 x1 (-1)) fun (y178, y179) =>
  some (y178, y179))
  else
  (bif (decide (x2.1 = 9)) then
  (bindO (M_s_l23Step x0 x1 1) fun (y193, y194) =>
  some (y193, y194))
  else
  (bif (decide (x2.1 = 2)) then
  (bif (decide (x2.2 = 99)) then
  (bindO (M_s_l21Copy x0) fun (y208 : EdQ) =>
  some (y208, 3))
  else
  (bif (decide (x2.2 = 108)) then
  (bindO (M_s_l21Copy x0) fun (y222 : EdQ) =>
  some (y222, 5))
  else
  (bif (decide (x2.2 = 100)) then
  (bif (decide ((x0.2.2.1.1.length : Int) = 0)) then
  (bindO (M_s_l21Copy x0) fun (y236 : EdQ) =>
  some (y236, 4))
  else
  (bindO (M_s_l23Cut x0 x0.2.2.1.2 (W (x0.2.2.1.2 + y32))) fun (y250, y251) =>
  some (y250, y251)))
  else
  (bif (decide (x2.2 = 117)) then
  (bindO (M_s_l23Kill x0 0 x0.2.2.1.2 2) fun (y266, y267) =>
  some (y266, y267))
  else
  (bif (decide (x2.2 = 119)) then
  (bindO (M_s_ViWordBack x0.2.2.1.1 x0.2.2.1.2 true) fun (y281 : Int) =>
  (bindO (M_s_l23Kill x0 y281 x0.2.2.1.2 2) fun (y283, y284) =>
  some (y283, y284)))
  else
  j316 ())))))
  else
  j316 ()))))))))))))))

theorem ok_s_l23Plain (x0 : EdQ) (x1 : Int × List (List UInt8)) (x2 : Int × Int) (a4 : Option Addr) (c5 : Nat) (l6 : Nat) (hl7 : x0.2.2.1.1.length = l6) (a8 : Option Addr) (c9 : Nat) (l10 : Nat) (hl11 : (Q8 x0).2.2.1.length = l10) (a12 : Option Addr) (c13 : Nat) (l14 : Nat) (hl15 : (Q8 x0).2.2.2.1.length = l14) (a16 : Option Addr) (c17 : Nat) (l18 : Nat) (hl19 : (Q12 x0).2.1.1.length = l18) (a20 : Option Addr) (c21 : Nat) (l22 : Nat) (hl23 : (Q12 x0).2.2.1.length = l22) (a24 : Option Addr) (c25 : Nat) (l26 : Nat) (hl27 : (Q16 x0).1.length = l26) (a28 : Option Addr) (c29 : Nat) (l30 : Nat) (hl31 : x1.2.length = l30) (r : EdQ × Int) (h : M_s_l23Plain x0 x1 x2 = some r) :
  FC Tryz.prog 87 [.agg #[.bool x0.1, .int .i64 x0.2.1, .slice a4 l6 c5, .int .i64 x0.2.2.1.2, .int .i64 x0.2.2.2.1, .int .i64 (Q4 x0).1, .int .i64 (Q4 x0).2.1, .int .i64 (Q4 x0).2.2.1, .int .i64 (Q4 x0).2.2.2.1, .int .i64 (Q8 x0).1, .int .i64 (Q8 x0).2.1, .slice a8 l10 c9, .slice a12 l14 c13, .int .i64 (Q12 x0).1, .slice a16 l18 c17, .int .i64 (Q12 x0).2.1.2, .slice a20 l22 c21, .int .i64 (Q12 x0).2.2.2.1, .slice a24 l26 c25, .int .i64 (Q16 x0).2], .agg #[.int .i64 x1.1, .slice a28 l30 c29], .agg #[.int .i64 x2.1, .int .i64 x2.2]] [⟨(.int .i64), ⟨a4, l6, c5⟩, x0.2.2.1.1⟩, ⟨(.sl (.int .i64)), ⟨a8, l10, c9⟩, (Q8 x0).2.2.1⟩, ⟨(.pair (.sl (.int .i64)) (.int .i64)), ⟨a12, l14, c13⟩, (Q8 x0).2.2.2.1⟩, ⟨(.int .i64), ⟨a16, l18, c17⟩, (Q12 x0).2.1.1⟩, ⟨(.int .i64), ⟨a20, l22, c21⟩, (Q12 x0).2.2.1⟩, ⟨(.int .i64), ⟨a24, l26, c25⟩, (Q16 x0).1⟩, ⟨.str, ⟨a28, l30, c29⟩, x1.2⟩] (fun _ : Option Addr × Nat × Option Addr × Nat × Option Addr × Nat × Option Addr × Nat × Option Addr × Nat × Option Addr × Nat => True) (fun q => .tuple #[.agg (cl46 r.1 q.1 q.2.1 q.2.2.1 q.2.2.2.1 (Q4 q).1 (Q4 q).2.1 (Q4 q).2.2.1 (Q4 q).2.2.2.1 (Q8 q).1 (Q8 q).2.1 (Q8 q).2.2.1 (Q8 q).2.2.2).toArray, .int .i64 r.2]) (fun q => (fl32 r.1 q.1 q.2.1 q.2.2.1 q.2.2.2.1 (Q4 q).1 (Q4 q).2.1 (Q4 q).2.2.1 (Q4 q).2.2.2.1 (Q8 q).1 (Q8 q).2.1 (Q8 q).2.2.1 (Q8 q).2.2.2 [])) :=
 by
  subst hl7
  subst hl11
  subst hl15
  subst hl19
  subst hl23
  subst hl27
  subst hl31
  refine FC.of (T := TTx) Tryz.call87 Tryz.func87 E E fun w0 => ?_
  unfold M_s_l23Plain at h
  refine JS.rgB ttOk 5 [] [8, 9, 10, 11] [(3, .bp 8 0), (4, .bp 9 0), (5, .bp 10 0), (6, .bp 11 0)] (.new 8 46 (cl46 x0 a4 c5 a8 c9 a12 c13 a16 c17 a20 c21 a24 c25) (.new 9 50 [.int .i64 x1.1, .slice a28 x1.2.length c29] (.new 10 64 [.int .i64 x2.1, .int .i64 x2.2] (.new 11 46 cz46 .nil)))) ⟨(Es E), (Bs E E)⟩ E E (JS.rg0 ttOk 4 [(8, .v (I x0.2.2.1.2))] ⟨⟨E, V⟩, E⟩ E E (JS.seq (JS.region (JO.reg ttOk 1 [] [] [(14, .v (.agg (cl46 x0 a4 c5 a8 c9 a12 c13 a16 c17 a20 c21 a24 c25).toArray))] _ E ⟨⟨E, V⟩, E⟩ ?_))))
  obtain ⟨y32, hy33, h⟩ := bindO_some h
  refine JO.call E E E E (ok_s_l23N x0 a4 c5 x0.2.2.1.1.length E a8 c9 (Q8 x0).2.2.1.length E a12 c13 (Q8 x0).2.2.2.1.length E a16 c17 (Q12 x0).2.1.1.length E a20 c21 (Q12 x0).2.2.1.length E a24 c25 (Q16 x0).1.length E _ hy33) E [0, 1, 2, 3, 4, 5] E E fun _ _ => JO.reg ttOk 1 [] [] [(9, .v (I y32))] _ E ⟨⟨E, V⟩, E⟩ (JO.done E (JS.rg0 ttOk 5 [(10, .v (I (x0.2.2.1.1.length : Int)))] ⟨⟨E, V⟩, E⟩ E E (JS.seq (JS.rg0 ttOk 2 [(21, .v (I x2.1))] ⟨⟨E, V⟩, E⟩ E E ?_))))
  obtain ⟨j316, hj354, h⟩ := joinO_some h
  refine JS.blockJ (ι := Unit) ⟨fun _ => j316 () = some r, fun _ => [(6, .bp 11 0)], fun _ => (.new 11 46 cz46 .nil), fun _ => [], fun _ => [], fun _ => 0⟩ ?_ ?_
  ·
   refine JS.rg0 ttOk 2 [(22, .v (.bool (decide (x2.1 = 1))))] ⟨⟨E, V⟩, E⟩ E E ?_
   refine JS.cond E (fun ht353 => ?_) (fun ht353 => ?_)
   ·
    have h := condT h ht353
    refine JS.seq ?_
    obtain ⟨y34, hy35, h⟩ := bindO_some h
    obtain ⟨⟨y38, y39⟩, hy40, h⟩ := bindO_some h
    refine JS.regionA E (.new 8 46 (cl46 x0 a4 c5 a8 c9 a12 c13 a16 c17 a20 c21 a24 c25) (.new 10 64 [.int .i64 x2.1, .int .i64 x2.2] .nil)) [] [5, 6, 7, 8, 9] ⟨E, E, E, E, E, E, E, E, V⟩ E (fun be53 => ?_)
    refine JA.reg ttOk panic_cx true 6 [0, 1, 2, 3] E (by kernel_rfl) [] [(24, .v (.agg (cl46 x0 a4 c5 a8 c9 a12 c13 a16 c17 a20 c21 a24 c25).toArray)), (26, .v (I x2.2)), (27, .v (I y32))] ⟨E, E, E, E, E, E, E, E, V⟩ [] E E (Es E) (JA.one 4 (by kernel_rfl) (JK.call E E E E (ok_s_l23Many x2.2 y32 _ hy35) E [] E E ?_))
    rintro ⟨a36, c37⟩ -
    refine JA.next ⟨E, E, E, E, E, E, E, E, V⟩ [] E (JA.one 5 (by kernel_rfl) (JK.call E E E E (ok_s_l23Put x0 y34 1 a4 c5 x0.2.2.1.1.length E a8 c9 (Q8 x0).2.2.1.length E a12 c13 (Q8 x0).2.2.2.1.length E a16 c17 (Q12 x0).2.1.1.length E a20 c21 (Q12 x0).2.2.1.length E a24 c25 (Q16 x0).1.length E a36 c37 y34.length E _ hy40) E [0, 1, 2, 3, 4, 5, 7] E E ?_))
    rintro ⟨a41, c42, a43, c44, a45, c46, a47, c48, a49, c50, a51, c52⟩ -
    refine JA.nextL E (JA.regL ttOk panic_cx 2 [6, 7] E (by kernel_rfl) [] [(30, .v (.agg (cl46 y38 a41 c42 a43 c44 a45 c46 a47 c48 a49 c50 a51 c52).toArray)), (31, .v (I y39))] E (Es E) (JA.one 8 (by kernel_rfl) (JK.stBox ttOk E E E E E E E E (JA.nextL E (JA.regL ttOk panic_cx 0 [9] E (by kernel_rfl) [] [(7, .v (I y39))] E ⟨E, V⟩ (JA.done (by kernel_rfl) (JS.boxes (B' := (.new 11 46 (cl46 y38 a41 c42 a43 c44 a45 c46 a47 c48 a49 c50 a51 c52) .nil)) (Bs E E) ?_)))))))
    cases h
    exact JS.ret ttOk (a41, c42, a43, c44, a45, c46, a47, c48, a49, c50, a51, c52) V E E [0, 0, 0, 0, 0, 0] E
   have h := condF h ht353
   refine JS.rg0 ttOk 2 [(32, .v (.bool (decide (x2.1 = 6))))] ⟨⟨E, V⟩, E⟩ E E ?_
   refine JS.cond E (fun ht352 => ?_) (fun ht352 => ?_)
   ·
    have h := condT h ht352
    refine JS.seq ?_
    obtain ⟨y54, hy55, h⟩ := bindO_some h
    obtain ⟨⟨y58, y59⟩, hy60, h⟩ := bindO_some h
    refine JS.regionA E (.new 8 46 (cl46 x0 a4 c5 a8 c9 a12 c13 a16 c17 a20 c21 a24 c25) .nil) [] [3, 4, 5, 6, 7] ⟨E, E, E, E, V⟩ E (fun be73 => ?_)
    refine JA.reg ttOk panic_cx true 6 [0, 1] E (by kernel_rfl) [] [(34, .v (.agg (cl46 x0 a4 c5 a8 c9 a12 c13 a16 c17 a20 c21 a24 c25).toArray)), (35, .v (I y32))] ⟨E, E, E, E, V⟩ [] E E (Es E) (JA.one 2 (by kernel_rfl) (JK.call E E E E (ok_s_l23Many 9 y32 _ hy55) E [] E E ?_))
    rintro ⟨a56, c57⟩ -
    refine JA.next ⟨E, E, E, E, V⟩ [] E (JA.one 3 (by kernel_rfl) (JK.call E E E E (ok_s_l23Put x0 y54 1 a4 c5 x0.2.2.1.1.length E a8 c9 (Q8 x0).2.2.1.length E a12 c13 (Q8 x0).2.2.2.1.length E a16 c17 (Q12 x0).2.1.1.length E a20 c21 (Q12 x0).2.2.1.length E a24 c25 (Q16 x0).1.length E a56 c57 y54.length E _ hy60) E [0, 1, 2, 3, 4, 5, 7] E E ?_))
    rintro ⟨a61, c62, a63, c64, a65, c66, a67, c68, a69, c70, a71, c72⟩ -
    refine JA.nextL E (JA.regL ttOk panic_cx 2 [4, 5] E (by kernel_rfl) [] [(38, .v (.agg (cl46 y58 a61 c62 a63 c64 a65 c66 a67 c68 a69 c70 a71 c72).toArray)), (39, .v (I y59))] E (Es E) (JA.one 6 (by kernel_rfl) (JK.stBox ttOk E E E E E E E E (JA.nextL E (JA.regL ttOk panic_cx 0 [7] E (by kernel_rfl) [] [(7, .v (I y59))] E ⟨E, V⟩ (JA.done (by kernel_rfl) (JS.boxes (B' := (.new 11 46 (cl46 y58 a61 c62 a63 c64 a65 c66 a67 c68 a69 c70 a71 c72) .nil)) (Bs E E) ?_)))))))
    cases h
    exact JS.ret ttOk (a61, c62, a63, c64, a65, c66, a67, c68, a69, c70, a71, c72) V E E [0, 0, 0, 0, 0, 0] E
   have h := condF h ht352
   refine JS.rg0 ttOk 2 [(40, .v (.bool (decide (x2.1 = 4))))] ⟨⟨E, V⟩, E⟩ E E ?_
   refine JS.cond E (fun ht351 => ?_) (fun ht351 => ?_)
   ·
    have h := condT h ht351
    refine JS.seq (JS.region (JO.reg ttOk 1 [] [] [(42, .v (.agg (cl46 x0 a4 c5 a8 c9 a12 c13 a16 c17 a20 c21 a24 c25).toArray))] _ E ⟨⟨E, V⟩, E⟩ ?_))
    obtain ⟨y74, hy75, h⟩ := bindO_some h
    refine JO.call E E E E (ok_s_l21Copy x0 a4 c5 x0.2.2.1.1.length E a8 c9 (Q8 x0).2.2.1.length E a12 c13 (Q8 x0).2.2.2.1.length E a16 c17 (Q12 x0).2.1.1.length E a20 c21 (Q12 x0).2.2.1.length E a24 c25 (Q16 x0).1.length E _ hy75) E [0, 1, 2, 3, 4, 5] E E ?_
    rintro ⟨a76, c77, a78, c79, a80, c81, a82, c83, a84, c85, a86, c87⟩ -
    refine JO.regB ttOk 2 [] [] [(7, .v (I 2))] (.new 11 46 (cl46 y74 a76 c77 a78 c79 a80 c81 a82 c83 a84 c85 a86 c87) .nil) E ⟨⟨E, V⟩, (Bs E E)⟩ (JO.done E ?_)
    cases h
    exact JS.ret ttOk (a76, c77, a78, c79, a80, c81, a82, c83, a84, c85, a86, c87) V E E [0, 0, 0, 0, 0, 0] E
   have h := condF h ht351
   refine JS.rg0 ttOk 2 [(44, .v (.bool (decide (x2.1 = 5))))] ⟨⟨E, V⟩, E⟩ E E ?_
   refine JS.cond E (fun ht350 => ?_) (fun ht350 => ?_)
   ·
    have h := condT h ht350
    refine JS.seq (JS.region (JO.reg ttOk 5 [(W (x0.2.2.1.2 - y32))] [] [(46, .v (.agg (cl46 x0 a4 c5 a8 c9 a12 c13 a16 c17 a20 c21 a24 c25).toArray)), (49, .v (I (W (x0.2.2.1.2 - y32)))), (50, .v (I x0.2.2.1.2))] _ E ⟨⟨V, E⟩, (Es E), E⟩ ?_))
    obtain ⟨⟨y88, y89⟩, hy90, h⟩ := bindO_some h
    refine JO.call E E E E (ok_s_l23Cut x0 (W (x0.2.2.1.2 - y32)) x0.2.2.1.2 a4 c5 x0.2.2.1.1.length E a8 c9 (Q8 x0).2.2.1.length E a12 c13 (Q8 x0).2.2.2.1.length E a16 c17 (Q12 x0).2.1.1.length E a20 c21 (Q12 x0).2.2.1.length E a24 c25 (Q16 x0).1.length E _ hy90) E [0, 1, 2, 3, 4, 5] E E ?_
    rintro ⟨a91, c92, a93, c94, a95, c96, a97, c98, a99, c100, a101, c102⟩ -
    refine JO.regB ttOk 4 [] [] [(7, .v (I y89))] (.new 11 46 (cl46 y88 a91 c92 a93 c94 a95 c96 a97 c98 a99 c100 a101 c102) .nil) E ⟨⟨E, V⟩, (Bs E E)⟩ (JO.done E ?_)
    cases h
    exact JS.ret ttOk (a91, c92, a93, c94, a95, c96, a97, c98, a99, c100, a101, c102) V E E [0, 0, 0, 0, 0, 0] E
   have h := condF h ht350
   refine JS.rg0 ttOk 2 [(54, .v (.bool (decide (x2.1 = 14))))] ⟨⟨E, V⟩, E⟩ E E ?_
   refine JS.cond E (fun ht349 => ?_) (fun ht349 => ?_)
   ·
    have h := condT h ht349
    refine JS.seq (JS.region (JO.reg ttOk 5 [(W (x0.2.2.1.2 + y32))] [] [(56, .v (.agg (cl46 x0 a4 c5 a8 c9 a12 c13 a16 c17 a20 c21 a24 c25).toArray)), (57, .v (I x0.2.2.1.2)), (60, .v (I (W (x0.2.2.1.2 + y32))))] _ E ⟨⟨V, E⟩, (Es E), E⟩ ?_))
    obtain ⟨⟨y103, y104⟩, hy105, h⟩ := bindO_some h
    refine JO.call E E E E (ok_s_l23Cut x0 x0.2.2.1.2 (W (x0.2.2.1.2 + y32)) a4 c5 x0.2.2.1.1.length E a8 c9 (Q8 x0).2.2.1.length E a12 c13 (Q8 x0).2.2.2.1.length E a16 c17 (Q12 x0).2.1.1.length E a20 c21 (Q12 x0).2.2.1.length E a24 c25 (Q16 x0).1.length E _ hy105) E [0, 1, 2, 3, 4, 5] E E ?_
    rintro ⟨a106, c107, a108, c109, a110, c111, a112, c113, a114, c115, a116, c117⟩ -
    refine JO.regB ttOk 4 [] [] [(7, .v (I y104))] (.new 11 46 (cl46 y103 a106 c107 a108 c109 a110 c111 a112 c113 a114 c115 a116 c117) .nil) E ⟨⟨E, V⟩, (Bs E E)⟩ (JO.done E ?_)
    cases h
    exact JS.ret ttOk (a106, c107, a108, c109, a110, c111, a112, c113, a114, c115, a116, c117) V E E [0, 0, 0, 0, 0, 0] E
   have h := condF h ht349
   refine JS.rg0 ttOk 2 [(64, .v (.bool (decide (x2.1 = 11))))] ⟨⟨E, V⟩, E⟩ E E ?_
   refine JS.cond E (fun ht348 => ?_) (fun ht348 => ?_)
   ·
    have h := condT h ht348
    refine JS.seq (JS.region (JO.reg ttOk 4 [(W (x0.2.2.1.2 - y32))] [] [(66, .v (.agg (cl46 x0 a4 c5 a8 c9 a12 c13 a16 c17 a20 c21 a24 c25).toArray)), (69, .v (I (W (x0.2.2.1.2 - y32))))] _ E ⟨⟨V, E⟩, (Es E), E⟩ ?_))
    obtain ⟨⟨y118, y119⟩, hy120, h⟩ := bindO_some h
    refine JO.call E E E E (ok_s_l23Go x0 (W (x0.2.2.1.2 - y32)) a4 c5 x0.2.2.1.1.length E a8 c9 (Q8 x0).2.2.1.length E a12 c13 (Q8 x0).2.2.2.1.length E a16 c17 (Q12 x0).2.1.1.length E a20 c21 (Q12 x0).2.2.1.length E a24 c25 (Q16 x0).1.length E _ hy120) E [0, 1, 2, 3, 4, 5] E E ?_
    rintro ⟨a121, c122, a123, c124, a125, c126, a127, c128, a129, c130, a131, c132⟩ -
    refine JO.regB ttOk 4 [] [] [(7, .v (I y119))] (.new 11 46 (cl46 y118 a121 c122 a123 c124 a125 c126 a127 c128 a129 c130 a131 c132) .nil) E ⟨⟨E, V⟩, (Bs E E)⟩ (JO.done E ?_)
    cases h
    exact JS.ret ttOk (a121, c122, a123, c124, a125, c126, a127, c128, a129, c130, a131, c132) V E E [0, 0, 0, 0, 0, 0] E
   have h := condF h ht348
   refine JS.rg0 ttOk 2 [(73, .v (.bool (decide (x2.1 = 10))))] ⟨⟨E, V⟩, E⟩ E E ?_
   refine JS.cond E (fun ht347 => ?_) (fun ht347 => ?_)
   ·
    have h := condT h ht347
    refine JS.seq (JS.region (JO.reg ttOk 4 [(W (x0.2.2.1.2 + y32))] [] [(75, .v (.agg (cl46 x0 a4 c5 a8 c9 a12 c13 a16 c17 a20 c21 a24 c25).toArray)), (78, .v (I (W (x0.2.2.1.2 + y32))))] _ E ⟨⟨V, E⟩, (Es E), E⟩ ?_))
    obtain ⟨⟨y133, y134⟩, hy135, h⟩ := bindO_some h
    refine JO.call E E E E (ok_s_l23Go x0 (W (x0.2.2.1.2 + y32)) a4 c5 x0.2.2.1.1.length E a8 c9 (Q8 x0).2.2.1.length E a12 c13 (Q8 x0).2.2.2.1.length E a16 c17 (Q12 x0).2.1.1.length E a20 c21 (Q12 x0).2.2.1.length E a24 c25 (Q16 x0).1.length E _ hy135) E [0, 1, 2, 3, 4, 5] E E ?_
    rintro ⟨a136, c137, a138, c139, a140, c141, a142, c143, a144, c145, a146, c147⟩ -
    refine JO.regB ttOk 4 [] [] [(7, .v (I y134))] (.new 11 46 (cl46 y133 a136 c137 a138 c139 a140 c141 a142 c143 a144 c145 a146 c147) .nil) E ⟨⟨E, V⟩, (Bs E E)⟩ (JO.done E ?_)
    cases h
    exact JS.ret ttOk (a136, c137, a138, c139, a140, c141, a142, c143, a144, c145, a146, c147) V E E [0, 0, 0, 0, 0, 0] E
   have h := condF h ht347
   refine JS.rg0 ttOk 2 [(82, .v (.bool (decide (x2.1 = 12))))] ⟨⟨E, V⟩, E⟩ E E ?_
   refine JS.cond E (fun ht346 => ?_) (fun ht346 => ?_)
   ·
    have h := condT h ht346
    refine JS.seq (JS.region (JO.reg ttOk 1 [] [] [(84, .v (.agg (cl46 x0 a4 c5 a8 c9 a12 c13 a16 c17 a20 c21 a24 c25).toArray))] _ E ⟨⟨E, V⟩, E⟩ ?_))
    obtain ⟨⟨y148, y149⟩, hy150, h⟩ := bindO_some h
    refine JO.call E E E E (ok_s_l23Go x0 0 a4 c5 x0.2.2.1.1.length E a8 c9 (Q8 x0).2.2.1.length E a12 c13 (Q8 x0).2.2.2.1.length E a16 c17 (Q12 x0).2.1.1.length E a20 c21 (Q12 x0).2.2.1.length E a24 c25 (Q16 x0).1.length E _ hy150) E [0, 1, 2, 3, 4, 5] E E ?_
    rintro ⟨a151, c152, a153, c154, a155, c156, a157, c158, a159, c160, a161, c162⟩ -
    refine JO.regB ttOk 4 [] [] [(7, .v (I y149))] (.new 11 46 (cl46 y148 a151 c152 a153 c154 a155 c156 a157 c158 a159 c160 a161 c162) .nil) E ⟨⟨E, V⟩, (Bs E E)⟩ (JO.done E ?_)
    cases h
    exact JS.ret ttOk (a151, c152, a153, c154, a155, c156, a157, c158, a159, c160, a161, c162) V E E [0, 0, 0, 0, 0, 0] E
   have h := condF h ht346
   refine JS.rg0 ttOk 2 [(88, .v (.bool (decide (x2.1 = 13))))] ⟨⟨E, V⟩, E⟩ E E ?_
   refine JS.cond E (fun ht345 => ?_) (fun ht345 => ?_)
   ·
    have h := condT h ht345
    refine JS.seq (JS.region (JO.reg ttOk 2 [] [] [(90, .v (.agg (cl46 x0 a4 c5 a8 c9 a12 c13 a16 c17 a20 c21 a24 c25).toArray)), (91, .v (I (x0.2.2.1.1.length : Int)))] _ E ⟨(Es E), E⟩ ?_))
    obtain ⟨⟨y163, y164⟩, hy165, h⟩ := bindO_some h
    refine JO.call E E E E (ok_s_l23Go x0 (x0.2.2.1.1.length : Int) a4 c5 x0.2.2.1.1.length E a8 c9 (Q8 x0).2.2.1.length E a12 c13 (Q8 x0).2.2.2.1.length E a16 c17 (Q12 x0).2.1.1.length E a20 c21 (Q12 x0).2.2.1.length E a24 c25 (Q16 x0).1.length E _ hy165) E [0, 1, 2, 3, 4, 5] E E ?_
    rintro ⟨a166, c167, a168, c169, a170, c171, a172, c173, a174, c175, a176, c177⟩ -
    refine JO.regB ttOk 4 [] [] [(7, .v (I y164))] (.new 11 46 (cl46 y163 a166 c167 a168 c169 a170 c171 a172 c173 a174 c175 a176 c177) .nil) E ⟨⟨E, V⟩, (Bs E E)⟩ (JO.done E ?_)
    cases h
    exact JS.ret ttOk (a166, c167, a168, c169, a170, c171, a172, c173, a174, c175, a176, c177) V E E [0, 0, 0, 0, 0, 0] E
   have h := condF h ht345
   refine JS.rg0 ttOk 2 [(95, .v (.bool (decide (x2.1 = 8))))] ⟨⟨E, V⟩, E⟩ E E ?_
   refine JS.cond E (fun ht344 => ?_) (fun ht344 => ?_)
   ·
    have h := condT h ht344
    refine JS.seq (JS.region (JO.reg ttOk 2 [] [] [(97, .v (.agg (cl46 x0 a4 c5 a8 c9 a12 c13 a16 c17 a20 c21 a24 c25).toArray)), (98, .v (.agg #[.int .i64 x1.1, .slice a28 x1.2.length c29]))] _ E ⟨(Es E), E⟩ ?_))
    obtain ⟨⟨y178, y179⟩, hy180, h⟩ := bindO_some h
    refine JO.call E E E E (ok_s_l23Step x0 x1 (-1) a4 c5 x0.2.2.1.1.length E a8 c9 (Q8 x0).2.2.1.length E a12 c13 (Q8 x0).2.2.2.1.length E a16 c17 (Q12 x0).2.1.1.length E a20 c21 (Q12 x0).2.2.1.length E a24 c25 (Q16 x0).1.length E a28 c29 x1.2.length E _ hy180) E [0, 1, 2, 3, 4, 5, 6] E E ?_
    rintro ⟨a181, c182, a183, c184, a185, c186, a187, c188, a189, c190, a191, c192⟩ -
    refine JO.regB ttOk 4 [] [] [(7, .v (I y179))] (.new 11 46 (cl46 y178 a181 c182 a183 c184 a185 c186 a187 c188 a189 c190 a191 c192) .nil) E ⟨⟨E, V⟩, (Bs E E)⟩ (JO.done E ?_)
    cases h
    exact JS.ret ttOk (a181, c182, a183, c184, a185, c186, a187, c188, a189, c190, a191, c192) V E E [0, 0, 0, 0, 0, 0] E
   have h := condF h ht344
   refine JS.rg0 ttOk 2 [(102, .v (.bool (decide (x2.1 = 9))))] ⟨⟨E, V⟩, E⟩ E E ?_
   refine JS.cond E (fun ht343 => ?_) (fun ht343 => ?_)
   ·
    have h := condT h ht343
    refine JS.seq (JS.region (JO.reg ttOk 2 [] [] [(104, .v (.agg (cl46 x0 a4 c5 a8 c9 a12 c13 a16 c17 a20 c21 a24 c25).toArray)), (105, .v (.agg #[.int .i64 x1.1, .slice a28 x1.2.length c29]))] _ E ⟨(Es E), E⟩ ?_))
    obtain ⟨⟨y193, y194⟩, hy195, h⟩ := bindO_some h
    refine JO.call E E E E (ok_s_l23Step x0 x1 1 a4 c5 x0.2.2.1.1.length E a8 c9 (Q8 x0).2.2.1.length E a12 c13 (Q8 x0).2.2.2.1.length E a16 c17 (Q12 x0).2.1.1.length E a20 c21 (Q12 x0).2.2.1.length E a24 c25 (Q16 x0).1.length E a28 c29 x1.2.length E _ hy195) E [0, 1, 2, 3, 4, 5, 6] E E ?_
    rintro ⟨a196, c197, a198, c199, a200, c201, a202, c203, a204, c205, a206, c207⟩ -
    refine JO.regB ttOk 4 [] [] [(7, .v (I y194))] (.new 11 46 (cl46 y193 a196 c197 a198 c199 a200 c201 a202 c203 a204 c205 a206 c207) .nil) E ⟨⟨E, V⟩, (Bs E E)⟩ (JO.done E ?_)
    cases h
    exact JS.ret ttOk (a196, c197, a198, c199, a200, c201, a202, c203, a204, c205, a206, c207) V E E [0, 0, 0, 0, 0, 0] E
   have h := condF h ht343
   refine JS.rg0 ttOk 2 [(109, .v (.bool (decide (x2.1 = 2))))] ⟨⟨E, V⟩, E⟩ E E ?_
   refine JS.cond E (fun ht342 => ?_) (fun ht342 => ?_)
   ·
    have h := condT h ht342
    refine JS.rg0 ttOk 2 [(112, .v (I x2.2))] ⟨⟨E, V⟩, E⟩ E E (JS.block (JS.rg0 ttOk 2 [(113, .v (.bool (decide (x2.2 = 99))))] ⟨⟨E, V⟩, E⟩ E E ?_))
    refine JS.cond E (fun ht341 => ?_) (fun ht341 => ?_)
    ·
     have h := condT h ht341
     refine JS.seq (JS.region (JO.reg ttOk 1 [] [] [(115, .v (.agg (cl46 x0 a4 c5 a8 c9 a12 c13 a16 c17 a20 c21 a24 c25).toArray))] _ E ⟨⟨E, V⟩, E⟩ ?_))
     obtain ⟨y208, hy209, h⟩ := bindO_some h
     refine JO.call E E E E (ok_s_l21Copy x0 a4 c5 x0.2.2.1.1.length E a8 c9 (Q8 x0).2.2.1.length E a12 c13 (Q8 x0).2.2.2.1.length E a16 c17 (Q12 x0).2.1.1.length E a20 c21 (Q12 x0).2.2.1.length E a24 c25 (Q16 x0).1.length E _ hy209) E [0, 1, 2, 3, 4, 5] E E ?_
     rintro ⟨a210, c211, a212, c213, a214, c215, a216, c217, a218, c219, a220, c221⟩ -
     refine JO.regB ttOk 2 [] [] [(7, .v (I 3))] (.new 11 46 (cl46 y208 a210 c211 a212 c213 a214 c215 a216 c217 a218 c219 a220 c221) .nil) E ⟨⟨E, V⟩, (Bs E E)⟩ (JO.done E ?_)
     cases h
     exact JS.ret ttOk (a210, c211, a212, c213, a214, c215, a216, c217, a218, c219, a220, c221) V E E [0, 0, 0, 0, 0, 0] E
    have h := condF h ht341
    refine JS.rg0 ttOk 2 [(117, .v (.bool (decide (x2.2 = 108))))] ⟨⟨E, V⟩, E⟩ E E ?_
    refine JS.cond E (fun ht340 => ?_) (fun ht340 => ?_)
    ·
     have h := condT h ht340
     refine JS.seq (JS.region (JO.reg ttOk 1 [] [] [(119, .v (.agg (cl46 x0 a4 c5 a8 c9 a12 c13 a16 c17 a20 c21 a24 c25).toArray))] _ E ⟨⟨E, V⟩, E⟩ ?_))
     obtain ⟨y222, hy223, h⟩ := bindO_some h
     refine JO.call E E E E (ok_s_l21Copy x0 a4 c5 x0.2.2.1.1.length E a8 c9 (Q8 x0).2.2.1.length E a12 c13 (Q8 x0).2.2.2.1.length E a16 c17 (Q12 x0).2.1.1.length E a20 c21 (Q12 x0).2.2.1.length E a24 c25 (Q16 x0).1.length E _ hy223) E [0, 1, 2, 3, 4, 5] E E ?_
     rintro ⟨a224, c225, a226, c227, a228, c229, a230, c231, a232, c233, a234, c235⟩ -
     refine JO.regB ttOk 2 [] [] [(7, .v (I 5))] (.new 11 46 (cl46 y222 a224 c225 a226 c227 a228 c229 a230 c231 a232 c233 a234 c235) .nil) E ⟨⟨E, V⟩, (Bs E E)⟩ (JO.done E ?_)
     cases h
     exact JS.ret ttOk (a224, c225, a226, c227, a228, c229, a230, c231, a232, c233, a234, c235) V E E [0, 0, 0, 0, 0, 0] E
    have h := condF h ht340
    refine JS.rg0 ttOk 2 [(121, .v (.bool (decide (x2.2 = 100))))] ⟨⟨E, V⟩, E⟩ E E ?_
    refine JS.cond E (fun ht339 => ?_) (fun ht339 => ?_)
    ·
     have h := condT h ht339
     refine JS.seq (JS.rg0 ttOk 2 [(124, .v (.bool (decide ((x0.2.2.1.1.length : Int) = 0))))] ⟨⟨E, V⟩, E⟩ E E ?_)
     refine JS.cond E (fun ht336 => ?_) (fun ht336 => ?_)
     ·
      have h := condT h ht336
      refine JS.seq (JS.region (JO.reg ttOk 1 [] [] [(125, .v (.agg (cl46 x0 a4 c5 a8 c9 a12 c13 a16 c17 a20 c21 a24 c25).toArray))] _ E ⟨⟨E, V⟩, E⟩ ?_))
      obtain ⟨y236, hy237, h⟩ := bindO_some h
      refine JO.call E E E E (ok_s_l21Copy x0 a4 c5 x0.2.2.1.1.length E a8 c9 (Q8 x0).2.2.1.length E a12 c13 (Q8 x0).2.2.2.1.length E a16 c17 (Q12 x0).2.1.1.length E a20 c21 (Q12 x0).2.2.1.length E a24 c25 (Q16 x0).1.length E _ hy237) E [0, 1, 2, 3, 4, 5] E E ?_
      rintro ⟨a238, c239, a240, c241, a242, c243, a244, c245, a246, c247, a248, c249⟩ -
      refine JO.regB ttOk 2 [] [] [(7, .v (I 4))] (.new 11 46 (cl46 y236 a238 c239 a240 c241 a242 c243 a244 c245 a246 c247 a248 c249) .nil) E ⟨⟨E, V⟩, (Bs E E)⟩ (JO.done E ?_)
      cases h
      exact JS.ret ttOk (a238, c239, a240, c241, a242, c243, a244, c245, a246, c247, a248, c249) V E E [0, 0, 0, 0, 0, 0] E
     have h := condF h ht336
     refine JS.skip (JS.seq (JS.region (JO.reg ttOk 5 [(W (x0.2.2.1.2 + y32))] [] [(127, .v (.agg (cl46 x0 a4 c5 a8 c9 a12 c13 a16 c17 a20 c21 a24 c25).toArray)), (128, .v (I x0.2.2.1.2)), (131, .v (I (W (x0.2.2.1.2 + y32))))] _ E ⟨⟨V, E⟩, (Es E), E⟩ ?_)))
     obtain ⟨⟨y250, y251⟩, hy252, h⟩ := bindO_some h
     refine JO.call E E E E (ok_s_l23Cut x0 x0.2.2.1.2 (W (x0.2.2.1.2 + y32)) a4 c5 x0.2.2.1.1.length E a8 c9 (Q8 x0).2.2.1.length E a12 c13 (Q8 x0).2.2.2.1.length E a16 c17 (Q12 x0).2.1.1.length E a20 c21 (Q12 x0).2.2.1.length E a24 c25 (Q16 x0).1.length E _ hy252) E [0, 1, 2, 3, 4, 5] E E ?_
     rintro ⟨a253, c254, a255, c256, a257, c258, a259, c260, a261, c262, a263, c264⟩ -
     refine JO.regB ttOk 4 [] [] [(7, .v (I y251))] (.new 11 46 (cl46 y250 a253 c254 a255 c256 a257 c258 a259 c260 a261 c262 a263 c264) .nil) E ⟨⟨E, V⟩, (Bs E E)⟩ (JO.done E ?_)
     cases h
     exact JS.ret ttOk (a253, c254, a255, c256, a257, c258, a259, c260, a261, c262, a263, c264) V E E [0, 0, 0, 0, 0, 0] E
    have h := condF h ht339
    refine JS.rg0 ttOk 2 [(135, .v (.bool (decide (x2.2 = 117))))] ⟨⟨E, V⟩, E⟩ E E ?_
    refine JS.cond E (fun ht338 => ?_) (fun ht338 => ?_)
    ·
     have h := condT h ht338
     refine JS.seq (JS.region (JO.reg ttOk 2 [] [] [(137, .v (.agg (cl46 x0 a4 c5 a8 c9 a12 c13 a16 c17 a20 c21 a24 c25).toArray)), (138, .v (I x0.2.2.1.2))] _ E ⟨(Es E), E⟩ ?_))
     obtain ⟨⟨y266, y267⟩, hy268, h⟩ := bindO_some h
     refine JO.call E E E E (ok_s_l23Kill x0 0 x0.2.2.1.2 2 a4 c5 x0.2.2.1.1.length E a8 c9 (Q8 x0).2.2.1.length E a12 c13 (Q8 x0).2.2.2.1.length E a16 c17 (Q12 x0).2.1.1.length E a20 c21 (Q12 x0).2.2.1.length E a24 c25 (Q16 x0).1.length E _ hy268) E [0, 1, 2, 3, 4, 5] E E ?_
     rintro ⟨a269, c270, a271, c272, a273, c274, a275, c276, a277, c278, a279, c280⟩ -
     refine JO.regB ttOk 4 [] [] [(7, .v (I y267))] (.new 11 46 (cl46 y266 a269 c270 a271 c272 a273 c274 a275 c276 a277 c278 a279 c280) .nil) E ⟨⟨E, V⟩, (Bs E E)⟩ (JO.done E ?_)
     cases h
     exact JS.ret ttOk (a269, c270, a271, c272, a273, c274, a275, c276, a277, c278, a279, c280) V E E [0, 0, 0, 0, 0, 0] E
    have h := condF h ht338
    refine JS.rg0 ttOk 2 [(142, .v (.bool (decide (x2.2 = 119))))] ⟨⟨E, V⟩, E⟩ E E ?_
    refine JS.cond E (fun ht337 => ?_) (fun ht337 => ?_)
    ·
     have h := condT h ht337
     refine JS.seq ?_
     obtain ⟨y281, hy282, h⟩ := bindO_some h
     obtain ⟨⟨y283, y284⟩, hy285, h⟩ := bindO_some h
     refine JS.regionA E (.new 8 46 (cl46 x0 a4 c5 a8 c9 a12 c13 a16 c17 a20 c21 a24 c25) .nil) [] [7, 8, 9, 10, 11] ⟨E, E, E, E, V⟩ E (fun be298 => ?_)
     refine JA.reg ttOk panic_cx true 6 [0, 1, 2, 3, 4, 6] E (by kernel_rfl) [] [(144, .v (.agg (cl46 x0 a4 c5 a8 c9 a12 c13 a16 c17 a20 c21 a24 c25).toArray)), (147, .v (.slice a4 x0.2.2.1.1.length c5)), (148, .v (I x0.2.2.1.2)), (150, .v (I x0.2.2.1.2))] ⟨E, E, E, E, V⟩ [] E E (Es E) (JA.one 5 (by kernel_rfl) (JK.call E E E E (ok_s_ViWordBack x0.2.2.1.1 x0.2.2.1.2 true a4 c5 x0.2.2.1.1.length E _ hy282) E [0] E E fun _ _ => JA.next ⟨E, E, E, E, V⟩ [] E (JA.one 7 (by kernel_rfl) (JK.call E E E E (ok_s_l23Kill x0 y281 x0.2.2.1.2 2 a4 c5 x0.2.2.1.1.length E a8 c9 (Q8 x0).2.2.1.length E a12 c13 (Q8 x0).2.2.2.1.length E a16 c17 (Q12 x0).2.1.1.length E a20 c21 (Q12 x0).2.2.1.length E a24 c25 (Q16 x0).1.length E _ hy285) E [0, 1, 2, 3, 4, 5] E E ?_))))
     rintro ⟨a286, c287, a288, c289, a290, c291, a292, c293, a294, c295, a296, c297⟩ -
     refine JA.nextL E (JA.regL ttOk panic_cx 2 [8, 9] E (by kernel_rfl) [] [(152, .v (.agg (cl46 y283 a286 c287 a288 c289 a290 c291 a292 c293 a294 c295 a296 c297).toArray)), (153, .v (I y284))] E (Es E) (JA.one 10 (by kernel_rfl) (JK.stBox ttOk E E E E E E E E (JA.nextL E (JA.regL ttOk panic_cx 0 [11] E (by kernel_rfl) [] [(7, .v (I y284))] E ⟨E, V⟩ (JA.done (by kernel_rfl) (JS.boxes (B' := (.new 11 46 (cl46 y283 a286 c287 a288 c289 a290 c291 a292 c293 a294 c295 a296 c297) .nil)) (Bs E E) ?_)))))))
     cases h
     exact JS.ret ttOk (a286, c287, a288, c289, a290, c291, a292, c293, a294, c295, a296, c297) V E E [0, 0, 0, 0, 0, 0] E
    have h := condF h ht337
    refine JS.skip (JS.endB (JS.endB (JS.endJ () h ⟨E, V⟩ (Bs E E) [] E [] E)))
   have h := condF h ht342
   refine JS.skip (JS.endB (JS.endJ () h ⟨E, V⟩ (Bs E E) [] E [] E))
  rintro _ h
  subst hj354
  refine JS.rgB ttOk 3 [] [] [(7, .v (I (-1)))] (.new 11 46 cz46 .nil) ⟨⟨E, V⟩, (Bs E E)⟩ E E ?_
  cases h
  refine JS.nilO (.int .i64) Sl.nil E E (JS.nilO (.sl (.int .i64)) Sl.nil E E (JS.nilO (.pair (.sl (.int .i64)) (.int .i64)) Sl.nil E E (JS.nilO (.int .i64) Sl.nil E E (JS.nilO (.int .i64) Sl.nil E E (JS.nilO (.int .i64) Sl.nil E E (JS.ret ttOk (none, 0, none, 0, none, 0, none, 0, none, 0, none, 0) V E E [5, 4, 3, 2, 1, 0] E))))))

def M_s_PlainKey (x0 : EdQ) (x1 : Int × List (List UInt8)) (x2 : Int × Int) : Option (EdQ × Int × Bool) :=
  (bindO (M_s_EdOk x0) fun (y32 : Bool) =>
  (callO ((!y32) = false) (M_s_HistOk x1) false fun (y34 : Bool) =>
  (callO ((bif (!y32) then true else (!y34)) = false) (M_s_KeyOk x2) false fun (y37 : Bool) =>
  (bif (bif (bif (bif (!y32) then true else (!y34)) then true else (!y37)) then true else (bif (!(decide (x0.2.1 = 0))) then (!(decide (x0.2.1 = 1))) else false)) then
  some ((false, 0, ([], 0), 0, 0, 0, 0, 0, 0, 0, [], [], 0, ([], 0), [], 0, ([], 0)), 0, false)
  else
  (bindO (M_s_l23Plain x0 x1 x2) fun (y40, y41) =>
  (bif (decide (y41 < 0)) then
  some ((false, 0, ([], 0), 0, 0, 0, 0, 0, 0, 0, [], [], 0, ([], 0), [], 0, ([], 0)), 0, false)
  else
  some (y40, y41, true)))))))

theorem ok_s_PlainKey (x0 : EdQ) (x1 : Int × List (List UInt8)) (x2 : Int × Int) (a4 : Option Addr) (c5 : Nat) (l6 : Nat) (hl7 : x0.2.2.1.1.length = l6) (a8 : Option Addr) (c9 : Nat) (l10 : Nat) (hl11 : (Q8 x0).2.2.1.length = l10) (a12 : Option Addr) (c13 : Nat) (l14 : Nat) (hl15 : (Q8 x0).2.2.2.1.length = l14) (a16 : Option Addr) (c17 : Nat) (l18 : Nat) (hl19 : (Q12 x0).2.1.1.length = l18) (a20 : Option Addr) (c21 : Nat) (l22 : Nat) (hl23 : (Q12 x0).2.2.1.length = l22) (a24 : Option Addr) (c25 : Nat) (l26 : Nat) (hl27 : (Q16 x0).1.length = l26) (a28 : Option Addr) (c29 : Nat) (l30 : Nat) (hl31 : x1.2.length = l30) (r : EdQ × Int × Bool) (h : M_s_PlainKey x0 x1 x2 = some r) :
  FC Tryz.prog 27 [.agg #[.bool x0.1, .int .i64 x0.2.1, .slice a4 l6 c5, .int .i64 x0.2.2.1.2, .int .i64 x0.2.2.2.1, .int .i64 (Q4 x0).1, .int .i64 (Q4 x0).2.1, .int .i64 (Q4 x0).2.2.1, .int .i64 (Q4 x0).2.2.2.1, .int .i64 (Q8 x0).1, .int .i64 (Q8 x0).2.1, .slice a8 l10 c9, .slice a12 l14 c13, .int .i64 (Q12 x0).1, .slice a16 l18 c17, .int .i64 (Q12 x0).2.1.2, .slice a20 l22 c21, .int .i64 (Q12 x0).2.2.2.1, .slice a24 l26 c25, .int .i64 (Q16 x0).2], .agg #[.int .i64 x1.1, .slice a28 l30 c29], .agg #[.int .i64 x2.1, .int .i64 x2.2]] [⟨(.int .i64), ⟨a4, l6, c5⟩, x0.2.2.1.1⟩, ⟨(.sl (.int .i64)), ⟨a8, l10, c9⟩, (Q8 x0).2.2.1⟩, ⟨(.pair (.sl (.int .i64)) (.int .i64)), ⟨a12, l14, c13⟩, (Q8 x0).2.2.2.1⟩, ⟨(.int .i64), ⟨a16, l18, c17⟩, (Q12 x0).2.1.1⟩, ⟨(.int .i64), ⟨a20, l22, c21⟩, (Q12 x0).2.2.1⟩, ⟨(.int .i64), ⟨a24, l26, c25⟩, (Q16 x0).1⟩, ⟨.str, ⟨a28, l30, c29⟩, x1.2⟩] (fun _ : Option Addr × Nat × Option Addr × Nat × Option Addr × Nat × Option Addr × Nat × Option Addr × Nat × Option Addr × Nat => True) (fun q => .tuple #[.agg (cl46 r.1 q.1 q.2.1 q.2.2.1 q.2.2.2.1 (Q4 q).1 (Q4 q).2.1 (Q4 q).2.2.1 (Q4 q).2.2.2.1 (Q8 q).1 (Q8 q).2.1 (Q8 q).2.2.1 (Q8 q).2.2.2).toArray, .int .i64 r.2.1, .bool r.2.2]) (fun q => (fl32 r.1 q.1 q.2.1 q.2.2.1 q.2.2.2.1 (Q4 q).1 (Q4 q).2.1 (Q4 q).2.2.1 (Q4 q).2.2.2.1 (Q8 q).1 (Q8 q).2.1 (Q8 q).2.2.1 (Q8 q).2.2.2 [])) :=
 by
  subst hl7
  subst hl11
  subst hl15
  subst hl19
  subst hl23
  subst hl27
  subst hl31
  refine FC.of (T := TTx) Tryz.call27 Tryz.func27 E E fun w0 => ?_
  unfold M_s_PlainKey at h
  refine JS.rgB ttOk 6 [] [8, 9, 10, 11] [(3, .bp 8 0), (4, .bp 9 0), (5, .bp 10 0), (6, .bp 11 0)] (.new 8 46 (cl46 x0 a4 c5 a8 c9 a12 c13 a16 c17 a20 c21 a24 c25) (.new 9 50 [.int .i64 x1.1, .slice a28 x1.2.length c29] (.new 10 64 [.int .i64 x2.1, .int .i64 x2.2] (.new 11 46 cz46 .nil)))) ⟨(Es E), (Bs E E)⟩ E E (JS.seq (JS.seq (JS.region (JO.reg ttOk 1 [] [] [(11, .v (.agg (cl46 x0 a4 c5 a8 c9 a12 c13 a16 c17 a20 c21 a24 c25).toArray))] _ E ⟨⟨E, V⟩, E⟩ ?_))))
  obtain ⟨y32, hy33, h⟩ := bindO_some h
  refine JO.call E E E E (ok_s_EdOk x0 a4 c5 x0.2.2.1.1.length E a8 c9 (Q8 x0).2.2.1.length E a12 c13 (Q8 x0).2.2.2.1.length E a16 c17 (Q12 x0).2.1.1.length E a20 c21 (Q12 x0).2.2.1.length E a24 c25 (Q16 x0).1.length E _ hy33) E [0, 1, 2, 3, 4, 5] E E fun _ _ => JO.reg ttOk 3 [] [] [(14, .v (.bool (!y32))), (15, .cd [(14, false)] (.v (.agg #[.int .i64 x1.1, .slice a28 x1.2.length c29])))] _ E ⟨(Es E), E⟩ ?_
  obtain ⟨y34, hy35, -, h⟩ := callO_some h
  refine JO.callg E E E E (fun q57 => ok_s_HistOk x1 a28 c29 x1.2.length E _ (hy35 q57)) E [6] E E (JO.reg ttOk 4 [] [] [(19, .v (.bool (bif (!y32) then true else (!y34)))), (20, .cd [(19, false)] (.v (.agg #[.int .i64 x2.1, .int .i64 x2.2])))] _ E ⟨(Es E), E⟩ ?_)
  obtain ⟨y37, hy38, -, h⟩ := callO_some h
  refine JO.callg E E E E (fun q58 => ok_s_KeyOk x2 _ (hy38 q58)) E [] E E (JO.reg ttOk 12 [] [] [(33, .v (.bool (bif (bif (bif (!y32) then true else (!y34)) then true else (!y37)) then true else (bif (!(decide (x0.2.1 = 0))) then (!(decide (x0.2.1 = 1))) else false))))] _ E ⟨⟨E, V⟩, E⟩ (JO.done E ?_))
  refine JS.cond E (fun ht60 => ?_) (fun ht60 => ?_)
  ·
   have h := condT h ht60
   refine JS.rgB ttOk 4 [] [] [(7, .v (I 0)), (8, .v (.bool false))] (.new 11 46 cz46 .nil) ⟨(Es E), (Bs E E)⟩ E E ?_
   cases h
   refine JS.nilO (.int .i64) Sl.nil E E (JS.nilO (.sl (.int .i64)) Sl.nil E E (JS.nilO (.pair (.sl (.int .i64)) (.int .i64)) Sl.nil E E (JS.nilO (.int .i64) Sl.nil E E (JS.nilO (.int .i64) Sl.nil E E (JS.nilO (.int .i64) Sl.nil E E (JS.ret ttOk (none, 0, none, 0, none, 0, none, 0, none, 0, none, 0) V E E [5, 4, 3, 2, 1, 0] E))))))
  have h := condF h ht60
  refine JS.skip (JS.seq (JS.region (JO.reg ttOk 3 [] [] [(36, .v (.agg (cl46 x0 a4 c5 a8 c9 a12 c13 a16 c17 a20 c21 a24 c25).toArray)), (37, .v (.agg #[.int .i64 x1.1, .slice a28 x1.2.length c29])), (38, .v (.agg #[.int .i64 x2.1, .int .i64 x2.2]))] _ E ⟨(Es E), E⟩ ?_)))
  obtain ⟨⟨y40, y41⟩, hy42, h⟩ := bindO_some h
  refine JO.call E E E E (ok_s_l23Plain x0 x1 x2 a4 c5 x0.2.2.1.1.length E a8 c9 (Q8 x0).2.2.1.length E a12 c13 (Q8 x0).2.2.2.1.length E a16 c17 (Q12 x0).2.1.1.length E a20 c21 (Q12 x0).2.2.1.length E a24 c25 (Q16 x0).1.length E a28 c29 x1.2.length E _ hy42) E [0, 1, 2, 3, 4, 5, 6] E E ?_
  rintro ⟨a43, c44, a45, c46, a47, c48, a49, c50, a51, c52, a53, c54⟩ -
  refine JO.regB ttOk 6 [] [39] [(9, .bp 39 0), (10, .v (I y41))] (.new 11 46 cz46 (.new 39 46 (cl46 y40 a43 c44 a45 c46 a47 c48 a49 c50 a51 c52 a53 c54) .nil)) E ⟨(Es E), (Bs E E)⟩ (JO.done E (JS.seq (JS.rg0 ttOk 2 [(43, .v (.bool (decide (y41 < 0))))] ⟨⟨E, V⟩, E⟩ E E ?_)))
  refine JS.cond E (fun ht59 => ?_) (fun ht59 => ?_)
  ·
   have h := condT h ht59
   refine JS.rgB ttOk 4 [] [] [(7, .v (I 0)), (8, .v (.bool false))] (.new 11 46 cz46 .nil) ⟨(Es E), (Bs E E)⟩ E E ?_
   cases h
   refine JS.nilO (.int .i64) Sl.nil E E (JS.nilO (.sl (.int .i64)) Sl.nil E E (JS.nilO (.pair (.sl (.int .i64)) (.int .i64)) Sl.nil E E (JS.nilO (.int .i64) Sl.nil E E (JS.nilO (.int .i64) Sl.nil E E (JS.nilO (.int .i64) Sl.nil E E (JS.ret ttOk (none, 0, none, 0, none, 0, none, 0, none, 0, none, 0) V E E [5, 4, 3, 2, 1, 0] E))))))
  have h := condF h ht59
  refine JS.skip (JS.rgB ttOk 5 [] [] [(7, .v (I y41)), (8, .v (.bool true))] (.new 11 46 (cl46 y40 a43 c44 a45 c46 a47 c48 a49 c50 a51 c52 a53 c54) .nil) ⟨(Es E), (Bs E E)⟩ E E ?_)
  cases h
  exact JS.ret ttOk (a43, c44, a45, c46, a47, c48, a49, c50, a51, c52, a53, c54) V E E [0, 0, 0, 0, 0, 0] E

def M_i_in (x0 : Int) (x1 : Int) (x2 : Int) : Option Bool :=
  some (bif (decide (x1 ≤ x0)) then (decide (x0 ≤ x2)) else false)

theorem ok_i_in (x0 : Int) (x1 : Int) (x2 : Int) (r : Bool) (h : M_i_in x0 x1 x2 = some r) :
  FC Tryz.prog 99 [.int .i64 x0, .int .i64 x1, .int .i64 x2] [] (fun _ : Unit => True) (fun _ => .bool r) (fun _ => []) :=
 by
  refine FC.of (T := TTx) Tryz.call99 Tryz.func99 E E fun w0 => ?_
  unfold M_i_in at h
  refine JS.rg0 ttOk 1 [] ⟨V, E⟩ E E (JS.rg0 ttOk 9 [(6, .v (.bool (bif (decide (x1 ≤ x0)) then (decide (x0 ≤ x2)) else false)))] ⟨⟨E, V⟩, E⟩ E E ?_)
  cases h
  exact JS.ret ttOk () V E E [] E

def M_i_RuneOk (x0 : Int) : Option Bool :=
  (bindO (M_i_in x0 0 1114111) fun (y2 : Bool) =>
  (callO (y2 = true) (M_i_in x0 55296 57343) false fun (y4 : Bool) =>
  some (bif y2 then (!y4) else false)))

theorem ok_i_RuneOk (x0 : Int) (r : Bool) (h : M_i_RuneOk x0 = some r) :
  FC Tryz.prog 141 [.int .i64 x0] [] (fun _ : Unit => True) (fun _ => .bool r) (fun _ => []) :=
 by
  refine FC.of (T := TTx) Tryz.call141 Tryz.func141 E E fun w0 => ?_
  unfold M_i_RuneOk at h
  refine JS.rg0 ttOk 1 [] ⟨V, E⟩ E E (JS.seq (JS.region (JO.reg ttOk 1 [] [] [(3, .v (I x0))] _ E ⟨⟨E, V⟩, E⟩ ?_)))
  obtain ⟨y2, hy3, h⟩ := bindO_some h
  refine JO.call E E E E (ok_i_in x0 0 1114111 _ hy3) E [] E E fun _ _ => JO.reg ttOk 2 [] [] [(5, .v (.bool y2)), (6, .cd [(5, true)] (.v (I x0)))] _ E ⟨(Es E), E⟩ ?_
  obtain ⟨y4, hy5, -, h⟩ := callO_some h
  refine JO.callg E E E E (fun q7 => ok_i_in x0 55296 57343 _ (hy5 q7)) E [] E E (JO.reg ttOk 3 [] [] [(2, .v (.bool (bif y2 then (!y4) else false)))] _ E ⟨⟨E, V⟩, E⟩ (JO.done E ?_))
  cases h
  exact JS.ret ttOk () V E E [] E

def M_i_Printable (x0 : Int) : Option Bool :=
  (bindO (M_i_RuneOk x0) fun (y2 : Bool) =>
  (callO ((bif y2 then (decide (32 ≤ x0)) else false) = true) (M_i_in x0 127 159) false fun (y4 : Bool) =>
  some (bif (bif y2 then (decide (32 ≤ x0)) else false) then (!y4) else false)))

theorem ok_i_Printable (x0 : Int) (r : Bool) (h : M_i_Printable x0 = some r) :
  FC Tryz.prog 57 [.int .i64 x0] [] (fun _ : Unit => True) (fun _ => .bool r) (fun _ => []) :=
 by
  refine FC.of (T := TTx) Tryz.call57 Tryz.func57 E E fun w0 => ?_
  unfold M_i_Printable at h
  refine JS.rg0 ttOk 1 [] ⟨V, E⟩ E E (JS.seq (JS.region (JO.reg ttOk 1 [] [] [(3, .v (I x0))] _ E ⟨⟨E, V⟩, E⟩ ?_)))
  obtain ⟨y2, hy3, h⟩ := bindO_some h
  refine JO.call E E E E (ok_i_RuneOk x0 _ hy3) E [] E E fun _ _ => JO.reg ttOk 6 [] [] [(9, .v (.bool (bif y2 then (decide (32 ≤ x0)) else false))), (10, .cd [(9, true)] (.v (I x0)))] _ E ⟨(Es E), E⟩ ?_
  obtain ⟨y4, hy5, -, h⟩ := callO_some h
  refine JO.callg E E E E (fun q7 => ok_i_in x0 127 159 _ (hy5 q7)) E [] E E (JO.reg ttOk 3 [] [] [(2, .v (.bool (bif (bif y2 then (decide (32 ≤ x0)) else false) then (!y4) else false)))] _ E ⟨⟨E, V⟩, E⟩ (JO.done E ?_))
  cases h
  exact JS.ret ttOk () V E E [] E

def M_i_admissible (x0 : Int) : Option Bool :=
  (bindO (M_i_Printable x0) fun (y2 : Bool) =>
  some (bif (bif y2 then true else (decide (x0 = 9))) then true else (decide (x0 = 10))))

theorem ok_i_admissible (x0 : Int) (r : Bool) (h : M_i_admissible x0 = some r) :
  FC Tryz.prog 248 [.int .i64 x0] [] (fun _ : Unit => True) (fun _ => .bool r) (fun _ => []) :=
 by
  refine FC.of (T := TTx) Tryz.call248 Tryz.func248 E E fun w0 => ?_
  unfold M_i_admissible at h
  refine JS.rg0 ttOk 1 [] ⟨V, E⟩ E E (JS.seq (JS.region (JO.reg ttOk 1 [] [] [(3, .v (I x0))] _ E ⟨⟨E, V⟩, E⟩ ?_)))
  obtain ⟨y2, hy3, h⟩ := bindO_some h
  refine JO.call E E E E (ok_i_Printable x0 _ hy3) E [] E E fun _ _ => JO.reg ttOk 9 [] [] [(2, .v (.bool (bif (bif y2 then true else (decide (x0 = 9))) then true else (decide (x0 = 10)))))] _ E ⟨⟨E, V⟩, E⟩ (JO.done E ?_)
  cases h
  exact JS.ret ttOk () V E E [] E

def M_i_areAdmissible_L1 (x0 : List Int) (j20 : Unit → Option Bool) (k14 : Int → Option Bool) : Int → Option Bool := fun x6 =>
  (bif (decide (x6 < (x0.length : Int))) then
  (guardO (0 ≤ x6 ∧ x6 < (x0.length : Int)) <|
  (callO ((decide (400 ≤ x6)) = false) (M_i_admissible (at' x0 x6)) false fun (y9 : Bool) =>
  (bif (bif (decide (400 ≤ x6)) then true else (!y9)) then
  some false
  else
  k14 (W (x6 + 1)))))
  else
  j20 ())

def M_i_areAdmissible (x0 : List Int) : Option Bool :=
  (joinO (fun (_ : Unit) =>
  some true) fun j20 =>
  (fixF (M_i_areAdmissible_L1 x0 j20) FUEL 0))

theorem ok_i_areAdmissible (x0 : List Int) (a2 : Option Addr) (c3 : Nat) (l4 : Nat) (hl5 : x0.length = l4) (r : Bool) (h : M_i_areAdmissible x0 = some r) :
  FC Tryz.prog 179 [.slice a2 l4 c3] [⟨(.int .i64), ⟨a2, l4, c3⟩, x0⟩] (fun _ : Unit => True) (fun _ => .bool r) (fun _ => []) :=
 by
  subst hl5
  refine FC.of (T := TTx) Tryz.call179 Tryz.func179 E E fun w0 => ?_
  unfold M_i_areAdmissible at h
  refine JS.rg0 ttOk 1 [] ⟨V, E⟩ E E (JS.seq (JS.rg0 ttOk 3 [(5, .v (.slice a2 x0.length c3)), (6, .v (I (x0.length : Int))), (7, .v (I 0))] ⟨(Es E), E⟩ E E ?_))
  obtain ⟨j20, hj30, h⟩ := joinO_some h
  refine JS.blockJ (ι := Unit) ⟨fun _ => j20 () = some r, fun _ => [], fun _ => .nil, fun _ => [], fun _ => [], fun _ => 0⟩ ?_ ?_
  ·
   refine JS.loop (ι := Nat × Int) ⟨fun z => fixF (M_i_areAdmissible_L1 x0 j20) z.1 z.2 = some r, fun z => [(5, .v (.slice a2 x0.length c3)), (6, .v (I (x0.length : Int))), (7, .v (I z.2))], fun z => .nil, fun z => [⟨(.int .i64), ⟨a2, x0.length, c3⟩, x0⟩], fun z => [], fun z => z.1⟩ (FUEL, 0) h (Es E) V [0] E [] E ?_
   rintro ⟨n15, x6⟩ h
   obtain ⟨n15, rfl, h⟩ := fixF_some h
   rw [M_i_areAdmissible_L1] at h
   refine JS.rg0 ttOk 1 [(8, .v (.bool (decide (x6 < (x0.length : Int)))))] ⟨⟨E, V⟩, E⟩ E E (JS.seq ?_)
   refine JS.cond E (fun ht29 => ?_) (fun ht29 => ?_)
   ·
    have h := condT h ht29
    refine JS.skip (JS.seq (JS.block (JS.seq (JS.region (JO.know 0 E fun hs26 => ?_)))))
    obtain ⟨g8, h⟩ := guardO_some h
    refine JO.reg ttOk 2 [] [] [(9, .v (I x6)), (10, .ep ⟨a2, x0.length, c3⟩ (Int.toNat x6 * 1))] _ E ⟨hs26.ix g8, (Es E), E⟩ (JO.load ttOk E E E E E E E 0 E E (Int.toNat x6) 0 (at' x0 x6) ⟨at_some g8, E⟩ E E (JO.reg ttOk 2 [] [] [(3, .v (I x6)), (4, .v (I (at' x0 x6)))] _ E ⟨(Es E), E⟩ (JO.done E (JS.seq (JS.region (JO.reg ttOk 4 [] [] [(14, .v (.bool (decide (400 ≤ x6)))), (15, .cd [(14, false)] (.v (I (at' x0 x6))))] _ E ⟨(Es E), E⟩ ?_))))))
    obtain ⟨y9, hy10, -, h⟩ := callO_some h
    refine JO.callg E E E E (fun q27 => ok_i_admissible (at' x0 x6) _ (hy10 q27)) E [] E E (JO.reg ttOk 2 [] [] [(18, .v (.bool (bif (decide (400 ≤ x6)) then true else (!y9))))] _ E ⟨⟨E, V⟩, E⟩ (JO.done E ?_))
    refine JS.cond E (fun ht28 => ?_) (fun ht28 => ?_)
    ·
     have h := condT h ht28
     refine JS.rg0 ttOk 1 [(2, .v (.bool false))] ⟨⟨E, V⟩, E⟩ E E ?_
     cases h
     exact JS.ret ttOk () V E E [] E
    have h := condF h ht28
    refine JS.skip (JS.endB (JS.re ttOk 2 [(W (x6 + 1))] [] [(7, .v (I (W (x6 + 1))))] _ ⟨⟨V, E⟩, ⟨E, V⟩, E⟩ E E (JS.endL (n15, (W (x6 + 1))) h (Nat.lt_succ_self _) (Es E) V [0] E [] E)))
   have h := condF h ht29
   refine JS.exit E (JS.endJ () h V V [] E [] E)
  rintro _ h
  subst hj30
  refine JS.rg0 ttOk 1 [(2, .v (.bool true))] ⟨⟨E, V⟩, E⟩ E E ?_
  cases h
  exact JS.ret ttOk () V E E [] E

def M_i_LineOk (x0 : List Int × Int) : Option Bool :=
  (bindO (M_i_areAdmissible x0.1) fun (y6 : Bool) =>
  (callO (y6 = true) (M_i_in x0.2 0 (x0.1.length : Int)) false fun (y8 : Bool) =>
  some (bif y6 then y8 else false)))

theorem ok_i_LineOk (x0 : List Int × Int) (a2 : Option Addr) (c3 : Nat) (l4 : Nat) (hl5 : x0.1.length = l4) (r : Bool) (h : M_i_LineOk x0 = some r) :
  FC Tryz.prog 98 [.agg #[.slice a2 l4 c3, .int .i64 x0.2]] [⟨(.int .i64), ⟨a2, l4, c3⟩, x0.1⟩] (fun _ : Unit => True) (fun _ => .bool r) (fun _ => []) :=
 by
  subst hl5
  refine FC.of (T := TTx) Tryz.call98 Tryz.func98 E E fun w0 => ?_
  unfold M_i_LineOk at h
  refine JS.rgB ttOk 2 [] [2] [(1, .bp 2 0)] (.new 2 38 [.slice a2 x0.1.length c3, .int .i64 x0.2] .nil) ⟨⟨E, V⟩, (Bs E E)⟩ E E (JS.seq (JS.region (JO.reg ttOk 2 [] [] [(4, .v (.slice a2 x0.1.length c3))] _ E ⟨⟨E, V⟩, E⟩ ?_)))
  obtain ⟨y6, hy7, h⟩ := bindO_some h
  refine JO.call E E E E (ok_i_areAdmissible x0.1 a2 c3 x0.1.length E _ hy7) E [0] E E fun _ _ => JO.reg ttOk 6 [] [] [(6, .v (.bool y6)), (8, .cd [(6, true)] (.v (I x0.2))), (11, .cd [(6, true)] (.v (I (x0.1.length : Int))))] _ E ⟨(Es E), E⟩ ?_
  obtain ⟨y8, hy9, -, h⟩ := callO_some h
  refine JO.callg E E E E (fun q11 => ok_i_in x0.2 0 (x0.1.length : Int) _ (hy9 q11)) E [] E E (JO.reg ttOk 2 [] [] [(2, .v (.bool (bif y6 then y8 else false)))] _ E ⟨⟨E, V⟩, E⟩ (JO.done E ?_))
  cases h
  exact JS.ret ttOk () V E E [] E

def M_i_isAtEnd (x0 : List Int × Int) : Option Bool :=
  some (bif (decide (0 < (x0.1.length : Int))) then (decide (x0.2 = (x0.1.length : Int))) else false)

theorem ok_i_isAtEnd (x0 : List Int × Int) (a2 : Option Addr) (c3 : Nat) (l4 : Nat) (hl5 : x0.1.length = l4) (r : Bool) (h : M_i_isAtEnd x0 = some r) :
  FC Tryz.prog 180 [.agg #[.slice a2 l4 c3, .int .i64 x0.2]] [⟨(.int .i64), ⟨a2, l4, c3⟩, x0.1⟩] (fun _ : Unit => True) (fun _ => .bool r) (fun _ => []) :=
 by
  subst hl5
  refine FC.of (T := TTx) Tryz.call180 Tryz.func180 E E fun w0 => ?_
  unfold M_i_isAtEnd at h
  refine JS.rgB ttOk 2 [] [2] [(1, .bp 2 0)] (.new 2 38 [.slice a2 x0.1.length c3, .int .i64 x0.2] .nil) ⟨⟨E, V⟩, (Bs E E)⟩ E E (JS.rg0 ttOk 13 [(2, .v (.bool (bif (decide (0 < (x0.1.length : Int))) then (decide (x0.2 = (x0.1.length : Int))) else false)))] ⟨⟨E, V⟩, E⟩ E E ?_)
  cases h
  exact JS.ret ttOk () V E E [] E

def M_i_isAmong_L1 (x0 : Int) (x1 : List UInt8) (j11 : Unit → Option Bool) (k7 : Int → Option Bool) : Int → Option Bool := fun x3 =>
  (bif (decide (x3 < (x1.length : Int))) then
  (guardO (0 ≤ x3 ∧ x3 < (x1.length : Int)) <|
  (bif (decide (((at' x1 x3).toNat : Int) = x0)) then
  some true
  else
  k7 (W (x3 + 1))))
  else
  j11 ())

def M_i_isAmong (x0 : Int) (x1 : List UInt8) : Option Bool :=
  (joinO (fun (_ : Unit) =>
  some false) fun j11 =>
  (fixF (M_i_isAmong_L1 x0 x1 j11) FUEL 0))

theorem ok_i_isAmong (x0 : Int) (x1 : List UInt8) (r : Bool) (h : M_i_isAmong x0 x1 = some r) :
  FC Tryz.prog 181 [.int .i64 x0, .string (bs x1)] [] (fun _ : Unit => True) (fun _ => .bool r) (fun _ => []) :=
 by
  refine FC.of (T := TTx) Tryz.call181 Tryz.func181 E E fun w0 => ?_
  unfold M_i_isAmong at h
  refine JS.rg0 ttOk 1 [] ⟨V, E⟩ E E (JS.seq (JS.rg0 ttOk 1 [(5, .v (I 0))] ⟨⟨E, V⟩, E⟩ E E ?_))
  obtain ⟨j11, hj17, h⟩ := joinO_some h
  refine JS.blockJ (ι := Unit) ⟨fun _ => j11 () = some r, fun _ => [], fun _ => .nil, fun _ => [], fun _ => [], fun _ => 0⟩ ?_ ?_
  ·
   refine JS.loop (ι := Nat × Int) ⟨fun z => fixF (M_i_isAmong_L1 x0 x1 j11) z.1 z.2 = some r, fun z => [(0, .v (I x0)), (1, .v (.string (bs x1))), (5, .v (I z.2))], fun z => .nil, fun z => [], fun z => [], fun z => z.1⟩ (FUEL, 0) h (Es E) V [] E [] E ?_
   rintro ⟨n8, x3⟩ h
   obtain ⟨n8, rfl, h⟩ := fixF_some h
   rw [M_i_isAmong_L1] at h
   refine JS.seq (JS.rg0 ttOk 4 [(9, .v (.bool (decide (x3 < (x1.length : Int)))))] ⟨⟨E, V⟩, E⟩ E E ?_)
   refine JS.cond E (fun ht16 => ?_) (fun ht16 => ?_)
   ·
    have h := condT h ht16
    refine JS.skip (JS.seq (JS.block (JS.seq (JS.region ?_))))
    obtain ⟨g4, h⟩ := guardO_some h
    refine JO.reg ttOk 6 [((at' x1 x3).toNat : Int)] [] [(17, .v (.bool (decide (((at' x1 x3).toNat : Int) = x0))))] _ E ⟨g4, ⟨V, W_byte _⟩, ⟨E, V⟩, E⟩ (JO.done E ?_)
    refine JS.cond E (fun ht15 => ?_) (fun ht15 => ?_)
    ·
     have h := condT h ht15
     refine JS.rg0 ttOk 1 [(4, .v (.bool true))] ⟨⟨E, V⟩, E⟩ E E ?_
     cases h
     exact JS.ret ttOk () V E E [] E
    have h := condF h ht15
    refine JS.skip (JS.endB (JS.re ttOk 3 [(W (x3 + 1))] [] [(5, .v (I (W (x3 + 1))))] _ ⟨⟨V, E⟩, ⟨E, V⟩, E⟩ E E (JS.endL (n8, (W (x3 + 1))) h (Nat.lt_succ_self _) (Es E) V [] E [] E)))
   have h := condF h ht16
   refine JS.exit E (JS.endJ () h V V [] E [] E)
  rintro _ h
  subst hj17
  refine JS.rg0 ttOk 1 [(4, .v (.bool false))] ⟨⟨E, V⟩, E⟩ E E ?_
  cases h
  exact JS.ret ttOk () V E E [] E

def M_i_modeOk (x0 : EdQ) : Option Bool :=
  (joinO (fun (_ : Unit) =>
  (callO ((decide (x0.2.1 = 2)) = true) (M_i_isAtEnd x0.2.2.1) false fun (y44 : Bool) =>
  (bif (bif (decide (x0.2.1 = 2)) then y44 else false) then
  some false
  else
  (bif (bif (bif (!(decide (x0.2.1 = 2))) then (bif (bif (!(decide (x0.2.2.2.2.1 = 0))) then true else (!(decide (x0.2.2.2.2.2.2.1 = 0)))) then true else (!(decide (x0.2.2.2.2.2.1 = 0)))) else false) then true else (bif (decide (x0.2.2.2.2.1 = 0)) then (!(decide (x0.2.2.2.2.2.1 = 0))) else false)) then
  some false
  else
  (callO ((decide (x0.2.2.2.2.1 = 0)) = false) (M_i_isAmong x0.2.2.2.2.1 ([100, 99, 121] : List UInt8)) false fun (y47 : Bool) =>
  (callO ((decide (x0.2.2.2.2.2.2.1 = 0)) = false ∧ (bif (decide (x0.2.2.2.2.1 = 0)) then true else y47) = true) (M_i_isAmong x0.2.2.2.2.2.2.1 ([102, 70, 116, 84, 114] : List UInt8)) false fun (y50 : Bool) =>
  some (bif (bif (decide (x0.2.2.2.2.1 = 0)) then true else y47) then (bif (decide (x0.2.2.2.2.2.2.1 = 0)) then true else y50) else false))))))) fun j36 =>
  (bif (decide (x0.2.1 = 0)) then
  (bif x0.1 then
  some false
  else
  j36 ())
  else
  (joinO (fun (x28 : Bool) =>
  (bif x28 then
  (bif (!x0.1) then
  some false
  else
  j36 ())
  else
  (bif (decide (x0.2.1 = 3)) then
  j36 ()
  else
  some false))) fun j29 =>
  (bif (decide (x0.2.1 = 1)) then
  j29 (decide (x0.2.1 = 1))
  else
  j29 (decide (x0.2.1 = 2))))))

theorem ok_i_modeOk (x0 : EdQ) (a2 : Option Addr) (c3 : Nat) (l4 : Nat) (hl5 : x0.2.2.1.1.length = l4) (a6 : Option Addr) (c7 : Nat) (l8 : Nat) (hl9 : (Q8 x0).2.2.1.length = l8) (a10 : Option Addr) (c11 : Nat) (l12 : Nat) (hl13 : (Q8 x0).2.2.2.1.length = l12) (a14 : Option Addr) (c15 : Nat) (l16 : Nat) (hl17 : (Q12 x0).2.1.1.length = l16) (a18 : Option Addr) (c19 : Nat) (l20 : Nat) (hl21 : (Q12 x0).2.2.1.length = l20) (a22 : Option Addr) (c23 : Nat) (l24 : Nat) (hl25 : (Q16 x0).1.length = l24) (r : Bool) (h : M_i_modeOk x0 = some r) :
  FC Tryz.prog 100 [.agg #[.bool x0.1, .int .i64 x0.2.1, .slice a2 l4 c3, .int .i64 x0.2.2.1.2, .int .i64 x0.2.2.2.1, .int .i64 (Q4 x0).1, .int .i64 (Q4 x0).2.1, .int .i64 (Q4 x0).2.2.1, .int .i64 (Q4 x0).2.2.2.1, .int .i64 (Q8 x0).1, .int .i64 (Q8 x0).2.1, .slice a6 l8 c7, .slice a10 l12 c11, .int .i64 (Q12 x0).1, .slice a14 l16 c15, .int .i64 (Q12 x0).2.1.2, .slice a18 l20 c19, .int .i64 (Q12 x0).2.2.2.1, .slice a22 l24 c23, .int .i64 (Q16 x0).2]] [⟨(.int .i64), ⟨a2, l4, c3⟩, x0.2.2.1.1⟩, ⟨(.sl (.int .i64)), ⟨a6, l8, c7⟩, (Q8 x0).2.2.1⟩, ⟨(.pair (.sl (.int .i64)) (.int .i64)), ⟨a10, l12, c11⟩, (Q8 x0).2.2.2.1⟩, ⟨(.int .i64), ⟨a14, l16, c15⟩, (Q12 x0).2.1.1⟩, ⟨(.int .i64), ⟨a18, l20, c19⟩, (Q12 x0).2.2.1⟩, ⟨(.int .i64), ⟨a22, l24, c23⟩, (Q16 x0).1⟩] (fun _ : Unit => True) (fun _ => .bool r) (fun _ => []) :=
 by
  subst hl5
  subst hl9
  subst hl13
  subst hl17
  subst hl21
  subst hl25
  refine FC.of (T := TTx) Tryz.call100 Tryz.func100 E E fun w0 => ?_
  unfold M_i_modeOk at h
  refine JS.rgB ttOk 2 [] [7] [(1, .bp 7 0)] (.new 7 46 (cl46 x0 a2 c3 a6 c7 a10 c11 a14 c15 a18 c19 a22 c23) .nil) ⟨⟨E, V⟩, (Bs E E)⟩ E E (JS.seq (JS.rg0 ttOk 2 [(4, .v (I x0.2.1))] ⟨⟨E, V⟩, E⟩ E E ?_))
  obtain ⟨j36, hj70, h⟩ := joinO_some h
  refine JS.blockJ (ι := Unit) ⟨fun _ => j36 () = some r, fun _ => [(1, .bp 7 0)], fun _ => (.new 7 46 (cl46 x0 a2 c3 a6 c7 a10 c11 a14 c15 a18 c19 a22 c23) .nil), fun _ => (fl32 x0 a2 c3 a6 c7 a10 c11 a14 c15 a18 c19 a22 c23 []), fun _ => [], fun _ => 0⟩ ?_ ?_
  ·
   refine JS.rg0 ttOk 2 [(5, .v (.bool (decide (x0.2.1 = 0))))] ⟨⟨E, V⟩, E⟩ E E ?_
   refine JS.cond E (fun ht63 => ?_) (fun ht63 => ?_)
   ·
    have h := condT h ht63
    refine JS.rg0 ttOk 2 [(8, .v (.bool x0.1))] ⟨⟨E, V⟩, E⟩ E E ?_
    refine JS.cond E (fun ht57 => ?_) (fun ht57 => ?_)
    ·
     have h := condT h ht57
     refine JS.rg0 ttOk 1 [(2, .v (.bool false))] ⟨⟨E, V⟩, E⟩ E E ?_
     cases h
     exact JS.ret ttOk () V E E [] E
    have h := condF h ht57
    refine JS.skip (JS.endB (JS.endJ () h ⟨E, V⟩ (Bs E E) [0, 1, 2, 3, 4, 5] E [] E))
   have h := condF h ht63
   obtain ⟨j29, hj62, h⟩ := joinO_some h
   refine JS.seqJ (ι := Bool) ⟨fun z => j29 z = some r, fun z => [(1, .bp 7 0), (4, .v (I x0.2.1)), (9, .v (.bool z))], fun z => (.new 7 46 (cl46 x0 a2 c3 a6 c7 a10 c11 a14 c15 a18 c19 a22 c23) .nil), fun z => (fl32 x0 a2 c3 a6 c7 a10 c11 a14 c15 a18 c19 a22 c23 []), fun z => [], fun z => 0⟩ ?_ ?_
   ·
    refine JS.rg0 ttOk 2 [(9, .v (.bool (decide (x0.2.1 = 1))))] ⟨⟨E, V⟩, E⟩ E E ?_
    refine JS.cond E (fun ht58 => ?_) (fun ht58 => ?_)
    ·
     have h := condT h ht58
     refine JS.skip (JS.endJ (decide (x0.2.1 = 1)) h (Es E) (Bs E E) [0, 1, 2, 3, 4, 5] E [] E)
    have h := condF h ht58
    refine JS.re0 ttOk 2 [(9, .v (.bool (decide (x0.2.1 = 2))))] ⟨⟨E, V⟩, E⟩ E E (JS.endJ (decide (x0.2.1 = 2)) h (Es E) (Bs E E) [0, 1, 2, 3, 4, 5] E [] E)
   rintro x28 h
   subst hj62
   refine JS.cond E (fun ht61 => ?_) (fun ht61 => ?_)
   ·
    have h := condT h ht61
    refine JS.rg0 ttOk 3 [(14, .v (.bool (!x0.1)))] ⟨⟨E, V⟩, E⟩ E E ?_
    refine JS.cond E (fun ht59 => ?_) (fun ht59 => ?_)
    ·
     have h := condT h ht59
     refine JS.rg0 ttOk 1 [(2, .v (.bool false))] ⟨⟨E, V⟩, E⟩ E E ?_
     cases h
     exact JS.ret ttOk () V E E [] E
    have h := condF h ht59
    refine JS.skip (JS.endB (JS.endJ () h ⟨E, V⟩ (Bs E E) [0, 1, 2, 3, 4, 5] E [] E))
   have h := condF h ht61
   refine JS.rg0 ttOk 2 [(15, .v (.bool (decide (x0.2.1 = 3))))] ⟨⟨E, V⟩, E⟩ E E ?_
   refine JS.cond E (fun ht60 => ?_) (fun ht60 => ?_)
   ·
    have h := condT h ht60
    refine JS.skip (JS.endB (JS.endJ () h ⟨E, V⟩ (Bs E E) [0, 1, 2, 3, 4, 5] E [] E))
   have h := condF h ht60
   refine JS.rg0 ttOk 1 [(2, .v (.bool false))] ⟨⟨E, V⟩, E⟩ E E ?_
   cases h
   exact JS.ret ttOk () V E E [] E
  rintro _ h
  subst hj70
  refine JS.seq (JS.seq (JS.region (JO.reg ttOk 6 [] [] [(20, .v (.bool (decide (x0.2.1 = 2)))), (22, .cd [(20, true)] (.v (.agg #[.slice a2 x0.2.2.1.1.length c3, .int .i64 x0.2.2.1.2])))] _ E ⟨(Es E), E⟩ ?_)))
  obtain ⟨y44, hy45, -, h⟩ := callO_some h
  refine JO.callg E E E E (fun q64 => ok_i_isAtEnd x0.2.2.1 a2 c3 x0.2.2.1.1.length E _ (hy45 q64)) E [0] E E (JO.reg ttOk 1 [] [] [(24, .v (.bool (bif (decide (x0.2.1 = 2)) then y44 else false)))] _ E ⟨⟨E, V⟩, E⟩ (JO.done E ?_))
  refine JS.cond E (fun ht69 => ?_) (fun ht69 => ?_)
  ·
   have h := condT h ht69
   refine JS.rg0 ttOk 1 [(2, .v (.bool false))] ⟨⟨E, V⟩, E⟩ E E ?_
   cases h
   exact JS.ret ttOk () V E E [] E
  have h := condF h ht69
  refine JS.skip (JS.seq (JS.rg0 ttOk 28 [(52, .v (.bool (bif (bif (!(decide (x0.2.1 = 2))) then (bif (bif (!(decide ((Q4 x0).1 = 0))) then true else (!(decide ((Q4 x0).2.2.1 = 0)))) then true else (!(decide ((Q4 x0).2.1 = 0)))) else false) then true else (bif (decide ((Q4 x0).1 = 0)) then (!(decide ((Q4 x0).2.1 = 0))) else false))))] ⟨⟨E, V⟩, E⟩ E E ?_))
  refine JS.cond E (fun ht68 => ?_) (fun ht68 => ?_)
  ·
   have h := condT h ht68
   refine JS.rg0 ttOk 1 [(2, .v (.bool false))] ⟨⟨E, V⟩, E⟩ E E ?_
   cases h
   exact JS.ret ttOk () V E E [] E
  have h := condF h ht68
  refine JS.skip (JS.seq (JS.region (JO.reg ttOk 6 [] [] [(56, .v (.bool (decide ((Q4 x0).1 = 0)))), (58, .cd [(56, false)] (.v (I (Q4 x0).1)))] _ E ⟨(Es E), E⟩ ?_)))
  obtain ⟨y47, hy48, -, h⟩ := callO_some h
  refine JO.callg E E E E (fun q65 => ok_i_isAmong (Q4 x0).1 ([100, 99, 121] : List UInt8) _ (hy48 q65)) E [] E E (JO.reg ttOk 8 [] [] [(61, .v (.bool (bif (decide ((Q4 x0).1 = 0)) then true else y47))), (65, .cd [(61, true)] (.v (.bool (decide ((Q4 x0).2.2.1 = 0))))), (67, .cd [(65, false), (61, true)] (.v (I (Q4 x0).2.2.1)))] _ E ⟨(Es E), E⟩ ?_)
  obtain ⟨y50, hy51, -, h⟩ := callO_some h
  refine JO.callg E E E E (fun q66 q67 => ok_i_isAmong (Q4 x0).2.2.1 ([102, 70, 116, 84, 114] : List UInt8) _ (hy51 ⟨q66, q67⟩)) E [] E E (JO.reg ttOk 3 [] [] [(2, .v (.bool (bif (bif (decide ((Q4 x0).1 = 0)) then true else y47) then (bif (decide ((Q4 x0).2.2.1 = 0)) then true else y50) else false)))] _ E ⟨⟨E, V⟩, E⟩ (JO.done E ?_))
  cases h
  exact JS.ret ttOk () V E E [] E

def M_i_RingOk_L1 (x0 : List (List Int)) (j32 : Unit → Option Bool) (k26 : Int → Option Bool) : Int → Option Bool := fun x6 =>
  (bif (decide (x6 < (x0.length : Int))) then
  (guardO (0 ≤ x6 ∧ x6 < (x0.length : Int)) <|
  (callO ((decide (((at' x0 x6).length : Int) = 0)) = false) (M_i_areAdmissible (at' x0 x6)) false fun (y17 : Bool) =>
  (bif (bif (decide (((at' x0 x6).length : Int) = 0)) then true else (!y17)) then
  some false
  else
  k26 (W (x6 + 1)))))
  else
  j32 ())

def M_i_RingOk (x0 : List (List Int)) : Option Bool :=
  (joinO (fun (_ : Unit) =>
  some (decide ((x0.length : Int) ≤ 6))) fun j32 =>
  (fixF (M_i_RingOk_L1 x0 j32) FUEL 0))

theorem ok_i_RingOk (x0 : List (List Int)) (a2 : Option Addr) (c3 : Nat) (l4 : Nat) (hl5 : x0.length = l4) (r : Bool) (h : M_i_RingOk x0 = some r) :
  FC Tryz.prog 101 [.agg #[.slice a2 l4 c3]] [⟨(.sl (.int .i64)), ⟨a2, l4, c3⟩, x0⟩] (fun _ : Unit => True) (fun _ => .bool r) (fun _ => []) :=
 by
  subst hl5
  refine FC.of (T := TTx) Tryz.call101 Tryz.func101 E E fun w0 => ?_
  unfold M_i_RingOk at h
  refine JS.rgB ttOk 2 [] [2] [(1, .bp 2 0)] (.new 2 41 [.slice a2 x0.length c3] .nil) ⟨⟨E, V⟩, (Bs E E)⟩ E E (JS.seq (JS.rg0 ttOk 4 [(6, .v (.slice a2 x0.length c3)), (7, .v (I (x0.length : Int))), (8, .v (I 0))] ⟨(Es E), E⟩ E E ?_))
  obtain ⟨j32, hj42, h⟩ := joinO_some h
  refine JS.blockJ (ι := Unit) ⟨fun _ => j32 () = some r, fun _ => [(1, .bp 2 0)], fun _ => (.new 2 41 [.slice a2 x0.length c3] .nil), fun _ => [⟨(.sl (.int .i64)), ⟨a2, x0.length, c3⟩, x0⟩], fun _ => [], fun _ => 0⟩ ?_ ?_
  ·
   refine JS.loop (ι := Nat × Int) ⟨fun z => fixF (M_i_RingOk_L1 x0 j32) z.1 z.2 = some r, fun z => [(1, .bp 2 0), (6, .v (.slice a2 x0.length c3)), (7, .v (I (x0.length : Int))), (8, .v (I z.2))], fun z => (.new 2 41 [.slice a2 x0.length c3] .nil), fun z => [⟨(.sl (.int .i64)), ⟨a2, x0.length, c3⟩, x0⟩], fun z => [], fun z => z.1⟩ (FUEL, 0) h (Es E) (Bs E E) [0] E [] E ?_
   rintro ⟨n27, x6⟩ h
   obtain ⟨n27, rfl, h⟩ := fixF_some h
   rw [M_i_RingOk_L1] at h
   refine JS.rg0 ttOk 1 [(9, .v (.bool (decide (x6 < (x0.length : Int)))))] ⟨⟨E, V⟩, E⟩ E E (JS.seq ?_)
   refine JS.cond E (fun ht41 => ?_) (fun ht41 => ?_)
   ·
    have h := condT h ht41
    refine JS.skip (JS.seq (JS.block (JS.seq (JS.region (JO.know 0 E fun hs38 => ?_)))))
    obtain ⟨g11, h⟩ := guardO_some h
    refine JO.reg ttOk 1 [] [] [(10, .ep ⟨a2, x0.length, c3⟩ (Int.toNat x6 * 1))] _ E ⟨hs38.ix g11, ⟨E, V⟩, E⟩ (JO.openR 0 E (Int.toNat x6) (at' x0 x6) E fun a12 c13 ys14 hl15 hy16 => JO.loadV ttOk E E E E E E 0 E E (Int.toNat x6) 0 (Sl.v ⟨a12, (at' x0 x6).length, c13⟩) ⟨hy16 (ltNat g11), E⟩ E E E (JO.regB ttOk 2 [] [16] [(4, .bp 16 0)] (.new 2 41 [.slice a2 x0.length c3] (.new 16 174 [.slice a12 (at' x0 x6).length c13] .nil)) E ⟨⟨E, V⟩, (Bs E E)⟩ (JO.done E (JS.seq (JS.region (JO.reg ttOk 7 [] [] [(16, .v (.bool (decide (((at' x0 x6).length : Int) = 0)))), (18, .cd [(16, false)] (.v (.slice a12 (at' x0 x6).length c13)))] _ E ⟨(Es E), E⟩ ?_))))))
    obtain ⟨y17, hy18, -, h⟩ := callO_some h
    refine JO.callg E E E E (fun q39 => ok_i_areAdmissible (at' x0 x6) a12 c13 ((at' x0 x6).length) E _ (hy18 q39)) E [1] E E (JO.reg ttOk 2 [] [] [(21, .v (.bool (bif (decide (((at' x0 x6).length : Int) = 0)) then true else (!y17))))] _ E ⟨⟨E, V⟩, E⟩ (JO.done E ?_))
    refine JS.cond E (fun ht40 => ?_) (fun ht40 => ?_)
    ·
     have h := condT h ht40
     refine JS.rg0 ttOk 1 [(2, .v (.bool false))] ⟨⟨E, V⟩, E⟩ E E ?_
     cases h
     exact JS.ret ttOk () V E E [] E
    have h := condF h ht40
    refine JS.skip (JS.endB (JS.re ttOk 2 [(W (x6 + 1))] [] [(8, .v (I (W (x6 + 1))))] _ ⟨⟨V, E⟩, ⟨E, V⟩, E⟩ E E (JS.endL (n27, (W (x6 + 1))) h (Nat.lt_succ_self _) (Es E) (Bs E E) [2] E [] E)))
   have h := condF h ht41
   refine JS.exit E (JS.endJ () h ⟨E, V⟩ (Bs E E) [0] E [] E)
  rintro _ h
  subst hj42
  refine JS.rg0 ttOk 5 [(2, .v (.bool (decide ((x0.length : Int) ≤ 6))))] ⟨⟨E, V⟩, E⟩ E E ?_
  cases h
  exact JS.ret ttOk () V E E [] E

def M_i_UndoOk_L1 (x0 : List (List Int × Int)) (j29 : Unit → Option Bool) (k24 : Int → Option Bool) : Int → Option Bool := fun x6 =>
  (bif (decide (x6 < (x0.length : Int))) then
  (guardO (0 ≤ x6 ∧ x6 < (x0.length : Int)) <|
  (bindO (M_i_LineOk ((at' x0 x6).1, (at' x0 x6).2)) fun (y17 : Bool) =>
  (bif (!y17) then
  some false
  else
  k24 (W (x6 + 1)))))
  else
  j29 ())

def M_i_UndoOk (x0 : List (List Int × Int)) : Option Bool :=
  (joinO (fun (_ : Unit) =>
  some (decide ((x0.length : Int) ≤ 20))) fun j29 =>
  (fixF (M_i_UndoOk_L1 x0 j29) FUEL 0))

theorem ok_i_UndoOk (x0 : List (List Int × Int)) (a2 : Option Addr) (c3 : Nat) (l4 : Nat) (hl5 : x0.length = l4) (r : Bool) (h : M_i_UndoOk x0 = some r) :
  FC Tryz.prog 102 [.agg #[.slice a2 l4 c3]] [⟨(.pair (.sl (.int .i64)) (.int .i64)), ⟨a2, l4, c3⟩, x0⟩] (fun _ : Unit => True) (fun _ => .bool r) (fun _ => []) :=
 by
  subst hl5
  refine FC.of (T := TTx) Tryz.call102 Tryz.func102 E E fun w0 => ?_
  unfold M_i_UndoOk at h
  refine JS.rgB ttOk 2 [] [2] [(1, .bp 2 0)] (.new 2 44 [.slice a2 x0.length c3] .nil) ⟨⟨E, V⟩, (Bs E E)⟩ E E (JS.seq (JS.rg0 ttOk 4 [(6, .v (.slice a2 x0.length c3)), (7, .v (I (x0.length : Int))), (8, .v (I 0))] ⟨(Es E), E⟩ E E ?_))
  obtain ⟨j29, hj37, h⟩ := joinO_some h
  refine JS.blockJ (ι := Unit) ⟨fun _ => j29 () = some r, fun _ => [(1, .bp 2 0)], fun _ => (.new 2 44 [.slice a2 x0.length c3] .nil), fun _ => [⟨(.pair (.sl (.int .i64)) (.int .i64)), ⟨a2, x0.length, c3⟩, x0⟩], fun _ => [], fun _ => 0⟩ ?_ ?_
  ·
   refine JS.loop (ι := Nat × Int) ⟨fun z => fixF (M_i_UndoOk_L1 x0 j29) z.1 z.2 = some r, fun z => [(1, .bp 2 0), (6, .v (.slice a2 x0.length c3)), (7, .v (I (x0.length : Int))), (8, .v (I z.2))], fun z => (.new 2 44 [.slice a2 x0.length c3] .nil), fun z => [⟨(.pair (.sl (.int .i64)) (.int .i64)), ⟨a2, x0.length, c3⟩, x0⟩], fun z => [], fun z => z.1⟩ (FUEL, 0) h (Es E) (Bs E E) [0] E [] E ?_
   rintro ⟨n25, x6⟩ h
   obtain ⟨n25, rfl, h⟩ := fixF_some h
   rw [M_i_UndoOk_L1] at h
   refine JS.rg0 ttOk 1 [(9, .v (.bool (decide (x6 < (x0.length : Int)))))] ⟨⟨E, V⟩, E⟩ E E (JS.seq ?_)
   refine JS.cond E (fun ht36 => ?_) (fun ht36 => ?_)
   ·
    have h := condT h ht36
    refine JS.skip (JS.seq (JS.block (JS.seq (JS.region (JO.know 0 E fun hs34 => ?_)))))
    obtain ⟨g11, h⟩ := guardO_some h
    refine JO.reg ttOk 1 [] [] [(10, .ep ⟨a2, x0.length, c3⟩ (Int.toNat x6 * 2))] _ E ⟨hs34.ix g11, ⟨E, V⟩, E⟩ (JO.openR 0 E (Int.toNat x6) (at' x0 x6) E fun a12 c13 ys14 hl15 hy16 => JO.loadV ttOk E E E E E E 0 E E (Int.toNat x6) 0 ((Sl.v ⟨a12, ((at' x0 x6).1).length, c13⟩), (at' x0 x6).2) ⟨hy16 (ltNat g11), E⟩ E E E (JO.regB ttOk 2 [] [16] [(4, .bp 16 0)] (.new 2 44 [.slice a2 x0.length c3] (.new 16 38 [.slice a12 ((at' x0 x6).1).length c13, .int .i64 (at' x0 x6).2] .nil)) E ⟨⟨E, V⟩, (Bs E E)⟩ (JO.done E (JS.seq (JS.region (JO.reg ttOk 1 [] [] [(12, .v (.agg #[.slice a12 ((at' x0 x6).1).length c13, .int .i64 (at' x0 x6).2]))] _ E ⟨⟨E, V⟩, E⟩ ?_))))))
    obtain ⟨y17, hy18, h⟩ := bindO_some h
    refine JO.call E E E E (ok_i_LineOk ((at' x0 x6).1, (at' x0 x6).2) a12 c13 (((at' x0 x6).1).length) E _ hy18) E [1] E E fun _ _ => JO.reg ttOk 1 [] [] [(14, .v (.bool (!y17)))] _ E ⟨⟨E, V⟩, E⟩ (JO.done E ?_)
    refine JS.cond E (fun ht35 => ?_) (fun ht35 => ?_)
    ·
     have h := condT h ht35
     refine JS.rg0 ttOk 1 [(2, .v (.bool false))] ⟨⟨E, V⟩, E⟩ E E ?_
     cases h
     exact JS.ret ttOk () V E E [] E
    have h := condF h ht35
    refine JS.skip (JS.endB (JS.re ttOk 2 [(W (x6 + 1))] [] [(8, .v (I (W (x6 + 1))))] _ ⟨⟨V, E⟩, ⟨E, V⟩, E⟩ E E (JS.endL (n25, (W (x6 + 1))) h (Nat.lt_succ_self _) (Es E) (Bs E E) [2] E [] E)))
   have h := condF h ht36
   refine JS.exit E (JS.endJ () h ⟨E, V⟩ (Bs E E) [0] E [] E)
  rintro _ h
  subst hj37
  refine JS.rg0 ttOk 5 [(2, .v (.bool (decide ((x0.length : Int) ≤ 20))))] ⟨⟨E, V⟩, E⟩ E E ?_
  cases h
  exact JS.ret ttOk () V E E [] E

def M_i_emptyLine (x0 : List Int × Int) : Option Bool :=
  some (bif (decide ((x0.1.length : Int) = 0)) then (decide (x0.2 = 0)) else false)

theorem ok_i_emptyLine (x0 : List Int × Int) (a2 : Option Addr) (c3 : Nat) (l4 : Nat) (hl5 : x0.1.length = l4) (r : Bool) (h : M_i_emptyLine x0 = some r) :
  FC Tryz.prog 103 [.agg #[.slice a2 l4 c3, .int .i64 x0.2]] [⟨(.int .i64), ⟨a2, l4, c3⟩, x0.1⟩] (fun _ : Unit => True) (fun _ => .bool r) (fun _ => []) :=
 by
  subst hl5
  refine FC.of (T := TTx) Tryz.call103 Tryz.func103 E E fun w0 => ?_
  unfold M_i_emptyLine at h
  refine JS.rgB ttOk 2 [] [2] [(1, .bp 2 0)] (.new 2 38 [.slice a2 x0.1.length c3, .int .i64 x0.2] .nil) ⟨⟨E, V⟩, (Bs E E)⟩ E E (JS.rg0 ttOk 10 [(2, .v (.bool (bif (decide ((x0.1.length : Int) = 0)) then (decide (x0.2 = 0)) else false)))] ⟨⟨E, V⟩, E⟩ E E ?_)
  cases h
  exact JS.ret ttOk () V E E [] E

def M_i_EdOk_L1 (x0 : EdQ) (j116 : Unit → Option Bool) (k111 : Int → Option Bool) : Int → Option Bool := fun x69 =>
  (bif (decide (x69 < (x0.2.2.2.2.2.2.2.2.2.2.2.2.2.2.1.length : Int))) then
  (guardO (0 ≤ x69 ∧ x69 < (x0.2.2.2.2.2.2.2.2.2.2.2.2.2.2.1.length : Int)) <|
  (bindO (M_i_Printable (at' x0.2.2.2.2.2.2.2.2.2.2.2.2.2.2.1 x69)) fun (y104 : Bool) =>
  (bif (!y104) then
  some false
  else
  k111 (W (x69 + 1)))))
  else
  j116 ())

def M_i_EdOk (x0 : EdQ) : Option Bool :=
  (bindO (M_i_LineOk x0.2.2.1) fun (y26 : Bool) =>
  (callO ((!y26) = false) (M_i_LineOk x0.2.2.2.2.2.2.2.2.2.2.2.2.2.1) false fun (y28 : Bool) =>
  (callO ((bif (!y26) then true else (!y28)) = false) (M_i_LineOk x0.2.2.2.2.2.2.2.2.2.2.2.2.2.2.2.2) false fun (y31 : Bool) =>
  (callO ((bif (bif (!y26) then true else (!y28)) then true else (!y31)) = false) (M_i_in x0.2.2.2.1 0 999) false fun (y34 : Bool) =>
  (callO ((bif (bif (bif (!y26) then true else (!y28)) then true else (!y31)) then true else (!y34)) = false) (M_i_in x0.2.2.2.2.2.1 0 999) false fun (y37 : Bool) =>
  (callO ((bif (bif (bif (bif (!y26) then true else (!y28)) then true else (!y31)) then true else (!y34)) then true else (!y37)) = false) (M_i_modeOk x0) false fun (y40 : Bool) =>
  (bif (bif (bif (bif (bif (bif (!y26) then true else (!y28)) then true else (!y31)) then true else (!y34)) then true else (!y37)) then true else (!y40)) then
  some false
  else
  (callO ((!(decide (x0.2.2.2.2.2.2.2.1 = 0))) = true ∧ (bif (decide (x0.2.2.2.2.2.2.2.1 = 0)) then (!(decide (x0.2.2.2.2.2.2.2.2.1 = 0))) else false) = false) (M_i_Printable x0.2.2.2.2.2.2.2.1) false fun (y43 : Bool) =>
  (callO ((!y43) = false ∧ (!(decide (x0.2.2.2.2.2.2.2.1 = 0))) = true ∧ (bif (decide (x0.2.2.2.2.2.2.2.1 = 0)) then (!(decide (x0.2.2.2.2.2.2.2.2.1 = 0))) else false) = false) (M_i_in x0.2.2.2.2.2.2.2.2.1 0 3) false fun (y47 : Bool) =>
  (bif (bif (bif (decide (x0.2.2.2.2.2.2.2.1 = 0)) then (!(decide (x0.2.2.2.2.2.2.2.2.1 = 0))) else false) then true else (bif (!(decide (x0.2.2.2.2.2.2.2.1 = 0))) then (bif (!y43) then true else (!y47)) else false)) then
  some false
  else
  (bindO (M_i_in x0.2.2.2.2.2.2.2.2.2.1 0 3) fun (y52 : Bool) =>
  (callO ((!y52) = false) (M_i_RingOk x0.2.2.2.2.2.2.2.2.2.2.1) false fun (y54 : Bool) =>
  (callO ((bif (!y52) then true else (!y54)) = false) (M_i_UndoOk x0.2.2.2.2.2.2.2.2.2.2.2.1) false fun (y57 : Bool) =>
  (callO ((bif (bif (!y52) then true else (!y54)) then true else (!y57)) = false) (M_i_in x0.2.2.2.2.2.2.2.2.2.2.2.2.1 0 1000000060) false fun (y60 : Bool) =>
  (callO ((bif (bif (bif (!y52) then true else (!y54)) then true else (!y57)) then true else (!y60)) = false) (M_i_in x0.2.2.2.2.2.2.2.2.2.2.2.2.2.2.2.1 0 1000000060) false fun (y63 : Bool) =>
  (bif (bif (bif (bif (bif (!y52) then true else (!y54)) then true else (!y57)) then true else (!y60)) then true else (!y63)) then
  some false
  else
  (callO ((decide (x0.2.2.2.2.2.2.2.2.2.2.2.2.1 = 0)) = true) (M_i_emptyLine x0.2.2.2.2.2.2.2.2.2.2.2.2.2.1) false fun (y66 : Bool) =>
  (bif (bif (bif (decide (x0.2.2.2.2.2.2.2.2.2.2.2.2.1 = 0)) then (!y66) else false) then true else (decide (40 < (x0.2.2.2.2.2.2.2.2.2.2.2.2.2.2.1.length : Int)))) then
  some false
  else
  (joinO (fun (_ : Unit) =>
  (callO ((bif (decide ((x0.2.2.2.2.2.2.2.2.2.2.2.2.2.2.1.length : Int) = 0)) then (decide (x0.2.2.2.2.2.2.2.2.2.2.2.2.2.2.2.1 = 0)) else false) = true ∧ (decide (x0.2.1 = 3)) = false) (M_i_emptyLine x0.2.2.2.2.2.2.2.2.2.2.2.2.2.2.2.2) false fun (y120 : Bool) =>
  some (bif (decide (x0.2.1 = 3)) then true else (bif (bif (decide ((x0.2.2.2.2.2.2.2.2.2.2.2.2.2.2.1.length : Int) = 0)) then (decide (x0.2.2.2.2.2.2.2.2.2.2.2.2.2.2.2.1 = 0)) else false) then y120 else false)))) fun j116 =>
  (fixF (M_i_EdOk_L1 x0 j116) FUEL 0))))))))))))))))))))

theorem ok_i_EdOk (x0 : EdQ) (a2 : Option Addr) (c3 : Nat) (l4 : Nat) (hl5 : x0.2.2.1.1.length = l4) (a6 : Option Addr) (c7 : Nat) (l8 : Nat) (hl9 : (Q8 x0).2.2.1.length = l8) (a10 : Option Addr) (c11 : Nat) (l12 : Nat) (hl13 : (Q8 x0).2.2.2.1.length = l12) (a14 : Option Addr) (c15 : Nat) (l16 : Nat) (hl17 : (Q12 x0).2.1.1.length = l16) (a18 : Option Addr) (c19 : Nat) (l20 : Nat) (hl21 : (Q12 x0).2.2.1.length = l20) (a22 : Option Addr) (c23 : Nat) (l24 : Nat) (hl25 : (Q16 x0).1.length = l24) (r : Bool) (h : M_i_EdOk x0 = some r) :
  FC Tryz.prog 34 [.agg #[.bool x0.1, .int .i64 x0.2.1, .slice a2 l4 c3, .int .i64 x0.2.2.1.2, .int .i64 x0.2.2.2.1, .int .i64 (Q4 x0).1, .int .i64 (Q4 x0).2.1, .int .i64 (Q4 x0).2.2.1, .int .i64 (Q4 x0).2.2.2.1, .int .i64 (Q8 x0).1, .int .i64 (Q8 x0).2.1, .slice a6 l8 c7, .slice a10 l12 c11, .int .i64 (Q12 x0).1, .slice a14 l16 c15, .int .i64 (Q12 x0).2.1.2, .slice a18 l20 c19, .int .i64 (Q12 x0).2.2.2.1, .slice a22 l24 c23, .int .i64 (Q16 x0).2]] [⟨(.int .i64), ⟨a2, l4, c3⟩, x0.2.2.1.1⟩, ⟨(.sl (.int .i64)), ⟨a6, l8, c7⟩, (Q8 x0).2.2.1⟩, ⟨(.pair (.sl (.int .i64)) (.int .i64)), ⟨a10, l12, c11⟩, (Q8 x0).2.2.2.1⟩, ⟨(.int .i64), ⟨a14, l16, c15⟩, (Q12 x0).2.1.1⟩, ⟨(.int .i64), ⟨a18, l20, c19⟩, (Q12 x0).2.2.1⟩, ⟨(.int .i64), ⟨a22, l24, c23⟩, (Q16 x0).1⟩] (fun _ : Unit => True) (fun _ => .bool r) (fun _ => []) :=
 by
  subst hl5
  subst hl9
  subst hl13
  subst hl17
  subst hl21
  subst hl25
  refine FC.of (T := TTx) Tryz.call34 Tryz.func34 E E fun w0 => ?_
  unfold M_i_EdOk at h
  refine JS.rgB ttOk 2 [] [7] [(1, .bp 7 0)] (.new 7 46 (cl46 x0 a2 c3 a6 c7 a10 c11 a14 c15 a18 c19 a22 c23) .nil) ⟨⟨E, V⟩, (Bs E E)⟩ E E (JS.seq (JS.seq (JS.region (JO.reg ttOk 2 [] [] [(6, .v (.agg #[.slice a2 x0.2.2.1.1.length c3, .int .i64 x0.2.2.1.2]))] _ E ⟨⟨E, V⟩, E⟩ ?_))))
  obtain ⟨y26, hy27, h⟩ := bindO_some h
  refine JO.call E E E E (ok_i_LineOk x0.2.2.1 a2 c3 x0.2.2.1.1.length E _ hy27) E [0] E E fun _ _ => JO.reg ttOk 4 [] [] [(9, .v (.bool (!y26))), (11, .cd [(9, false)] (.v (.agg #[.slice a14 (Q12 x0).2.1.1.length c15, .int .i64 (Q12 x0).2.1.2])))] _ E ⟨(Es E), E⟩ ?_
  obtain ⟨y28, hy29, -, h⟩ := callO_some h
  refine JO.callg E E E E (fun q129 => ok_i_LineOk (Q12 x0).2.1 a14 c15 (Q12 x0).2.1.1.length E _ (hy29 q129)) E [3] E E (JO.reg ttOk 5 [] [] [(15, .v (.bool (bif (!y26) then true else (!y28)))), (17, .cd [(15, false)] (.v (.agg #[.slice a22 (Q16 x0).1.length c23, .int .i64 (Q16 x0).2])))] _ E ⟨(Es E), E⟩ ?_)
  obtain ⟨y31, hy32, -, h⟩ := callO_some h
  refine JO.callg E E E E (fun q130 => ok_i_LineOk (Q16 x0) a22 c23 (Q16 x0).1.length E _ (hy32 q130)) E [5] E E (JO.reg ttOk 5 [] [] [(21, .v (.bool (bif (bif (!y26) then true else (!y28)) then true else (!y31)))), (23, .cd [(21, false)] (.v (I x0.2.2.2.1)))] _ E ⟨(Es E), E⟩ ?_)
  obtain ⟨y34, hy35, -, h⟩ := callO_some h
  refine JO.callg E E E E (fun q131 => ok_i_in x0.2.2.2.1 0 999 _ (hy35 q131)) E [] E E (JO.reg ttOk 5 [] [] [(27, .v (.bool (bif (bif (bif (!y26) then true else (!y28)) then true else (!y31)) then true else (!y34)))), (29, .cd [(27, false)] (.v (I (Q4 x0).2.1)))] _ E ⟨(Es E), E⟩ ?_)
  obtain ⟨y37, hy38, -, h⟩ := callO_some h
  refine JO.callg E E E E (fun q132 => ok_i_in (Q4 x0).2.1 0 999 _ (hy38 q132)) E [] E E (JO.reg ttOk 4 [] [] [(33, .v (.bool (bif (bif (bif (bif (!y26) then true else (!y28)) then true else (!y31)) then true else (!y34)) then true else (!y37)))), (34, .cd [(33, false)] (.v (.agg (cl46 x0 a2 c3 a6 c7 a10 c11 a14 c15 a18 c19 a22 c23).toArray)))] _ E ⟨(Es E), E⟩ ?_)
  obtain ⟨y40, hy41, -, h⟩ := callO_some h
  refine JO.callg E E E E (fun q133 => ok_i_modeOk x0 a2 c3 x0.2.2.1.1.length E a6 c7 (Q8 x0).2.2.1.length E a10 c11 (Q8 x0).2.2.2.1.length E a14 c15 (Q12 x0).2.1.1.length E a18 c19 (Q12 x0).2.2.1.length E a22 c23 (Q16 x0).1.length E _ (hy41 q133)) E [0, 1, 2, 3, 4, 5] E E (JO.reg ttOk 2 [] [] [(37, .v (.bool (bif (bif (bif (bif (bif (!y26) then true else (!y28)) then true else (!y31)) then true else (!y34)) then true else (!y37)) then true else (!y40))))] _ E ⟨⟨E, V⟩, E⟩ (JO.done E ?_))
  refine JS.cond E (fun ht153 => ?_) (fun ht153 => ?_)
  ·
   have h := condT h ht153
   refine JS.rg0 ttOk 1 [(2, .v (.bool false))] ⟨⟨E, V⟩, E⟩ E E ?_
   cases h
   exact JS.ret ttOk () V E E [] E
  have h := condF h ht153
  refine JS.skip (JS.seq (JS.seq (JS.region (JO.reg ttOk 15 [] [] [(46, .v (.bool (bif (decide ((Q4 x0).2.2.2.1 = 0)) then (!(decide ((Q8 x0).1 = 0))) else false))), (50, .cd [(46, false)] (.v (.bool (!(decide ((Q4 x0).2.2.2.1 = 0)))))), (52, .cd [(50, true), (46, false)] (.v (I (Q4 x0).2.2.2.1)))] _ E ⟨(Es E), E⟩ ?_))))
  obtain ⟨y43, hy44, -, h⟩ := callO_some h
  refine JO.callg E E E E (fun q134 q135 => ok_i_Printable (Q4 x0).2.2.2.1 _ (hy44 ⟨q134, q135⟩)) E [] E E (JO.reg ttOk 4 [] [] [(55, .cd [(50, true), (46, false)] (.v (.bool (!y43)))), (57, .cd [(55, false), (50, true), (46, false)] (.v (I (Q8 x0).1)))] _ E ⟨(Es E), E⟩ ?_)
  obtain ⟨y47, hy48, -, h⟩ := callO_some h
  refine JO.callg E E E E (fun q136 q137 q138 => ok_i_in (Q8 x0).1 0 3 _ (hy48 ⟨q136, q137, q138⟩)) E [] E E (JO.reg ttOk 4 [] [] [(62, .v (.bool (bif (bif (decide ((Q4 x0).2.2.2.1 = 0)) then (!(decide ((Q8 x0).1 = 0))) else false) then true else (bif (!(decide ((Q4 x0).2.2.2.1 = 0))) then (bif (!y43) then true else (!y47)) else false))))] _ E ⟨⟨E, V⟩, E⟩ (JO.done E ?_))
  refine JS.cond E (fun ht152 => ?_) (fun ht152 => ?_)
  ·
   have h := condT h ht152
   refine JS.rg0 ttOk 1 [(2, .v (.bool false))] ⟨⟨E, V⟩, E⟩ E E ?_
   cases h
   exact JS.ret ttOk () V E E [] E
  have h := condF h ht152
  refine JS.skip (JS.seq (JS.seq (JS.region (JO.reg ttOk 2 [] [] [(64, .v (I (Q8 x0).2.1))] _ E ⟨⟨E, V⟩, E⟩ ?_))))
  obtain ⟨y52, hy53, h⟩ := bindO_some h
  refine JO.call E E E E (ok_i_in (Q8 x0).2.1 0 3 _ hy53) E [] E E fun _ _ => JO.reg ttOk 4 [] [] [(67, .v (.bool (!y52))), (69, .cd [(67, false)] (.v (.agg #[.slice a6 (Q8 x0).2.2.1.length c7])))] _ E ⟨(Es E), E⟩ ?_
  obtain ⟨y54, hy55, -, h⟩ := callO_some h
  refine JO.callg E E E E (fun q139 => ok_i_RingOk (Q8 x0).2.2.1 a6 c7 (Q8 x0).2.2.1.length E _ (hy55 q139)) E [1] E E (JO.reg ttOk 5 [] [] [(73, .v (.bool (bif (!y52) then true else (!y54)))), (75, .cd [(73, false)] (.v (.agg #[.slice a10 (Q8 x0).2.2.2.1.length c11])))] _ E ⟨(Es E), E⟩ ?_)
  obtain ⟨y57, hy58, -, h⟩ := callO_some h
  refine JO.callg E E E E (fun q140 => ok_i_UndoOk (Q8 x0).2.2.2.1 a10 c11 (Q8 x0).2.2.2.1.length E _ (hy58 q140)) E [2] E E (JO.reg ttOk 5 [] [] [(79, .v (.bool (bif (bif (!y52) then true else (!y54)) then true else (!y57)))), (81, .cd [(79, false)] (.v (I (Q12 x0).1)))] _ E ⟨(Es E), E⟩ ?_)
  obtain ⟨y60, hy61, -, h⟩ := callO_some h
  refine JO.callg E E E E (fun q141 => ok_i_in (Q12 x0).1 0 1000000060 _ (hy61 q141)) E [] E E (JO.reg ttOk 5 [] [] [(85, .v (.bool (bif (bif (bif (!y52) then true else (!y54)) then true else (!y57)) then true else (!y60)))), (87, .cd [(85, false)] (.v (I (Q12 x0).2.2.2.1)))] _ E ⟨(Es E), E⟩ ?_)
  obtain ⟨y63, hy64, -, h⟩ := callO_some h
  refine JO.callg E E E E (fun q142 => ok_i_in (Q12 x0).2.2.2.1 0 1000000060 _ (hy64 q142)) E [] E E (JO.reg ttOk 2 [] [] [(90, .v (.bool (bif (bif (bif (bif (!y52) then true else (!y54)) then true else (!y57)) then true else (!y60)) then true else (!y63))))] _ E ⟨⟨E, V⟩, E⟩ (JO.done E ?_))
  refine JS.cond E (fun ht151 => ?_) (fun ht151 => ?_)
  ·
   have h := condT h ht151
   refine JS.rg0 ttOk 1 [(2, .v (.bool false))] ⟨⟨E, V⟩, E⟩ E E ?_
   cases h
   exact JS.ret ttOk () V E E [] E
  have h := condF h ht151
  refine JS.skip (JS.seq (JS.seq (JS.region (JO.reg ttOk 6 [] [] [(94, .v (.bool (decide ((Q12 x0).1 = 0)))), (96, .cd [(94, true)] (.v (.agg #[.slice a14 (Q12 x0).2.1.1.length c15, .int .i64 (Q12 x0).2.1.2])))] _ E ⟨(Es E), E⟩ ?_))))
  obtain ⟨y66, hy67, -, h⟩ := callO_some h
  refine JO.callg E E E E (fun q143 => ok_i_emptyLine (Q12 x0).2.1 a14 c15 (Q12 x0).2.1.1.length E _ (hy67 q143)) E [3] E E (JO.reg ttOk 8 [] [] [(105, .v (.bool (bif (bif (decide ((Q12 x0).1 = 0)) then (!y66) else false) then true else (decide (40 < ((Q12 x0).2.2.1.length : Int))))))] _ E ⟨⟨E, V⟩, E⟩ (JO.done E ?_))
  refine JS.cond E (fun ht150 => ?_) (fun ht150 => ?_)
  ·
   have h := condT h ht150
   refine JS.rg0 ttOk 1 [(2, .v (.bool false))] ⟨⟨E, V⟩, E⟩ E E ?_
   cases h
   exact JS.ret ttOk () V E E [] E
  have h := condF h ht150
  refine JS.skip (JS.seq (JS.rg0 ttOk 4 [(107, .v (.slice a18 (Q12 x0).2.2.1.length c19)), (108, .v (I ((Q12 x0).2.2.1.length : Int))), (109, .v (I 0))] ⟨(Es E), E⟩ E E ?_))
  obtain ⟨j116, hj149, h⟩ := joinO_some h
  refine JS.blockJ (ι := Unit) ⟨fun _ => j116 () = some r, fun _ => [(1, .bp 7 0)], fun _ => (.new 7 46 (cl46 x0 a2 c3 a6 c7 a10 c11 a14 c15 a18 c19 a22 c23) .nil), fun _ => (fl32 x0 a2 c3 a6 c7 a10 c11 a14 c15 a18 c19 a22 c23 []), fun _ => [], fun _ => 0⟩ ?_ ?_
  ·
   refine JS.loop (ι := Nat × Int) ⟨fun z => fixF (M_i_EdOk_L1 x0 j116) z.1 z.2 = some r, fun z => [(1, .bp 7 0), (107, .v (.slice a18 (Q12 x0).2.2.1.length c19)), (108, .v (I ((Q12 x0).2.2.1.length : Int))), (109, .v (I z.2))], fun z => (.new 7 46 (cl46 x0 a2 c3 a6 c7 a10 c11 a14 c15 a18 c19 a22 c23) .nil), fun z => [⟨(.int .i64), ⟨a18, (Q12 x0).2.2.1.length, c19⟩, (Q12 x0).2.2.1⟩, ⟨(.int .i64), ⟨a2, x0.2.2.1.1.length, c3⟩, x0.2.2.1.1⟩, ⟨(.sl (.int .i64)), ⟨a6, (Q8 x0).2.2.1.length, c7⟩, (Q8 x0).2.2.1⟩, ⟨(.pair (.sl (.int .i64)) (.int .i64)), ⟨a10, (Q8 x0).2.2.2.1.length, c11⟩, (Q8 x0).2.2.2.1⟩, ⟨(.int .i64), ⟨a14, (Q12 x0).2.1.1.length, c15⟩, (Q12 x0).2.1.1⟩, ⟨(.int .i64), ⟨a22, (Q16 x0).1.length, c23⟩, (Q16 x0).1⟩], fun z => [], fun z => z.1⟩ (FUEL, 0) h (Es E) (Bs E E) [4, 0, 1, 2, 3, 5] E [] E ?_
   rintro ⟨n112, x69⟩ h
   obtain ⟨n112, rfl, h⟩ := fixF_some h
   rw [M_i_EdOk_L1] at h
   refine JS.rg0 ttOk 1 [(110, .v (.bool (decide (x69 < ((Q12 x0).2.2.1.length : Int)))))] ⟨⟨E, V⟩, E⟩ E E (JS.seq ?_)
   refine JS.cond E (fun ht146 => ?_) (fun ht146 => ?_)
   ·
    have h := condT h ht146
    refine JS.skip (JS.seq (JS.block (JS.seq (JS.region (JO.know 0 E fun hs144 => ?_)))))
    obtain ⟨g103, h⟩ := guardO_some h
    refine JO.reg ttOk 1 [] [] [(111, .ep ⟨a18, (Q12 x0).2.2.1.length, c19⟩ (Int.toNat x69 * 1))] _ E ⟨hs144.ix g103, ⟨E, V⟩, E⟩ (JO.load ttOk E E E E E E E 0 E E (Int.toNat x69) 0 (at' (Q12 x0).2.2.1 x69) ⟨at_some g103, E⟩ E E (JO.reg ttOk 1 [] [] [(4, .v (I (at' (Q12 x0).2.2.1 x69)))] _ E ⟨⟨E, V⟩, E⟩ (JO.done E (JS.seq (JS.region (JO.reg ttOk 1 [] [] [(113, .v (I (at' (Q12 x0).2.2.1 x69)))] _ E ⟨⟨E, V⟩, E⟩ ?_))))))
    obtain ⟨y104, hy105, h⟩ := bindO_some h
    refine JO.call E E E E (ok_i_Printable (at' (Q12 x0).2.2.1 x69) _ hy105) E [] E E fun _ _ => JO.reg ttOk 1 [] [] [(115, .v (.bool (!y104)))] _ E ⟨⟨E, V⟩, E⟩ (JO.done E ?_)
    refine JS.cond E (fun ht145 => ?_) (fun ht145 => ?_)
    ·
     have h := condT h ht145
     refine JS.rg0 ttOk 1 [(2, .v (.bool false))] ⟨⟨E, V⟩, E⟩ E E ?_
     cases h
     exact JS.ret ttOk () V E E [] E
    have h := condF h ht145
    refine JS.skip (JS.endB (JS.re ttOk 2 [(W (x69 + 1))] [] [(109, .v (I (W (x69 + 1))))] _ ⟨⟨V, E⟩, ⟨E, V⟩, E⟩ E E (JS.endL (n112, (W (x69 + 1))) h (Nat.lt_succ_self _) (Es E) (Bs E E) [0, 1, 2, 3, 4, 5] E [] E)))
   have h := condF h ht146
   refine JS.exit E (JS.endJ () h ⟨E, V⟩ (Bs E E) [1, 2, 3, 4, 0, 5] E [] E)
  rintro _ h
  subst hj149
  refine JS.seq (JS.region (JO.reg ttOk 16 [] [] [(120, .v (.bool (decide (x0.2.1 = 3)))), (130, .cd [(120, false)] (.v (.bool (bif (decide (((Q12 x0).2.2.1.length : Int) = 0)) then (decide ((Q12 x0).2.2.2.1 = 0)) else false)))), (132, .cd [(130, true), (120, false)] (.v (.agg #[.slice a22 (Q16 x0).1.length c23, .int .i64 (Q16 x0).2])))] _ E ⟨(Es E), E⟩ ?_))
  obtain ⟨y120, hy121, -, h⟩ := callO_some h
  refine JO.callg E E E E (fun q147 q148 => ok_i_emptyLine (Q16 x0) a22 c23 (Q16 x0).1.length E _ (hy121 ⟨q147, q148⟩)) E [5] E E (JO.reg ttOk 3 [] [] [(2, .v (.bool (bif (decide (x0.2.1 = 3)) then true else (bif (bif (decide (((Q12 x0).2.2.1.length : Int) = 0)) then (decide ((Q12 x0).2.2.2.1 = 0)) else false) then y120 else false))))] _ E ⟨⟨E, V⟩, E⟩ (JO.done E ?_))
  cases h
  exact JS.ret ttOk () V E E [] E

def M_i_HistOk_L1 (x0 : Int × List (List UInt8)) (j20 : Unit → Option Bool) (k15 : Int → Option Bool) : Int → Option Bool := fun x8 =>
  (bif (decide (x8 < (x0.2.length : Int))) then
  (guardO (0 ≤ x8 ∧ x8 < (x0.2.length : Int)) <|
  (bindO (M_i_in ((at' x0.2 x8).length : Int) 1 1000) fun (y11 : Bool) =>
  (bif (!y11) then
  some false
  else
  k15 (W (x8 + 1)))))
  else
  j20 ())

def M_i_HistOk (x0 : Int × List (List UInt8)) : Option Bool :=
  (bindO (M_i_in x0.1 1 1000000000) fun (y6 : Bool) =>
  (bif (bif (!y6) then true else (decide (60 < (x0.2.length : Int)))) then
  some false
  else
  (joinO (fun (_ : Unit) =>
  some true) fun j20 =>
  (fixF (M_i_HistOk_L1 x0 j20) FUEL 0))))

theorem ok_i_HistOk (x0 : Int × List (List UInt8)) (a2 : Option Addr) (c3 : Nat) (l4 : Nat) (hl5 : x0.2.length = l4) (r : Bool) (h : M_i_HistOk x0 = some r) :
  FC Tryz.prog 96 [.agg #[.int .i64 x0.1, .slice a2 l4 c3]] [⟨.str, ⟨a2, l4, c3⟩, x0.2⟩] (fun _ : Unit => True) (fun _ => .bool r) (fun _ => []) :=
 by
  subst hl5
  refine FC.of (T := TTx) Tryz.call96 Tryz.func96 E E fun w0 => ?_
  unfold M_i_HistOk at h
  refine JS.rgB ttOk 2 [] [2] [(1, .bp 2 0)] (.new 2 50 [.int .i64 x0.1, .slice a2 x0.2.length c3] .nil) ⟨⟨E, V⟩, (Bs E E)⟩ E E (JS.seq (JS.seq (JS.region (JO.reg ttOk 2 [] [] [(6, .v (I x0.1))] _ E ⟨⟨E, V⟩, E⟩ ?_))))
  obtain ⟨y6, hy7, h⟩ := bindO_some h
  refine JO.call E E E E (ok_i_in x0.1 1 1000000000 _ hy7) E [] E E fun _ _ => JO.reg ttOk 7 [] [] [(14, .v (.bool (bif (!y6) then true else (decide (60 < (x0.2.length : Int))))))] _ E ⟨⟨E, V⟩, E⟩ (JO.done E ?_)
  refine JS.cond E (fun ht30 => ?_) (fun ht30 => ?_)
  ·
   have h := condT h ht30
   refine JS.rg0 ttOk 1 [(2, .v (.bool false))] ⟨⟨E, V⟩, E⟩ E E ?_
   cases h
   exact JS.ret ttOk () V E E [] E
  have h := condF h ht30
  refine JS.skip (JS.seq (JS.rg0 ttOk 4 [(16, .v (.slice a2 x0.2.length c3)), (17, .v (I (x0.2.length : Int))), (18, .v (I 0))] ⟨(Es E), E⟩ E E ?_))
  obtain ⟨j20, hj29, h⟩ := joinO_some h
  refine JS.blockJ (ι := Unit) ⟨fun _ => j20 () = some r, fun _ => [], fun _ => .nil, fun _ => [], fun _ => [], fun _ => 0⟩ ?_ ?_
  ·
   refine JS.loop (ι := Nat × Int) ⟨fun z => fixF (M_i_HistOk_L1 x0 j20) z.1 z.2 = some r, fun z => [(16, .v (.slice a2 x0.2.length c3)), (17, .v (I (x0.2.length : Int))), (18, .v (I z.2))], fun z => .nil, fun z => [⟨.str, ⟨a2, x0.2.length, c3⟩, x0.2⟩], fun z => [], fun z => z.1⟩ (FUEL, 0) h (Es E) V [0] E [] E ?_
   rintro ⟨n16, x8⟩ h
   obtain ⟨n16, rfl, h⟩ := fixF_some h
   rw [M_i_HistOk_L1] at h
   refine JS.rg0 ttOk 1 [(19, .v (.bool (decide (x8 < (x0.2.length : Int)))))] ⟨⟨E, V⟩, E⟩ E E (JS.seq ?_)
   refine JS.cond E (fun ht28 => ?_) (fun ht28 => ?_)
   ·
    have h := condT h ht28
    refine JS.skip (JS.seq (JS.block (JS.seq (JS.region (JO.know 0 E fun hs26 => ?_)))))
    obtain ⟨g10, h⟩ := guardO_some h
    refine JO.reg ttOk 1 [] [] [(20, .ep ⟨a2, x0.2.length, c3⟩ (Int.toNat x8 * 1))] _ E ⟨hs26.ix g10, ⟨E, V⟩, E⟩ (JO.load ttOk E E E E E E E 0 E E (Int.toNat x8) 0 (at' x0.2 x8) ⟨at_some g10, E⟩ E E (JO.reg ttOk 1 [] [] [(4, .v (.string (bs (at' x0.2 x8))))] _ E ⟨⟨E, V⟩, E⟩ (JO.done E (JS.seq (JS.region (JO.reg ttOk 2 [] [] [(23, .v (I ((at' x0.2 x8).length : Int)))] _ E ⟨⟨E, V⟩, E⟩ ?_))))))
    obtain ⟨y11, hy12, h⟩ := bindO_some h
    refine JO.call E E E E (ok_i_in ((at' x0.2 x8).length : Int) 1 1000 _ hy12) E [] E E fun _ _ => JO.reg ttOk 1 [] [] [(25, .v (.bool (!y11)))] _ E ⟨⟨E, V⟩, E⟩ (JO.done E ?_)
    refine JS.cond E (fun ht27 => ?_) (fun ht27 => ?_)
    ·
     have h := condT h ht27
     refine JS.rg0 ttOk 1 [(2, .v (.bool false))] ⟨⟨E, V⟩, E⟩ E E ?_
     cases h
     exact JS.ret ttOk () V E E [] E
    have h := condF h ht27
    refine JS.skip (JS.endB (JS.re ttOk 2 [(W (x8 + 1))] [] [(18, .v (I (W (x8 + 1))))] _ ⟨⟨V, E⟩, ⟨E, V⟩, E⟩ E E (JS.endL (n16, (W (x8 + 1))) h (Nat.lt_succ_self _) (Es E) V [0] E [] E)))
   have h := condF h ht28
   refine JS.exit E (JS.endJ () h V V [] E [] E)
  rintro _ h
  subst hj29
  refine JS.rg0 ttOk 1 [(2, .v (.bool true))] ⟨⟨E, V⟩, E⟩ E E ?_
  cases h
  exact JS.ret ttOk () V E E [] E

def M_i_isLower (x0 : Int) : Option Bool :=
  (bindO (M_i_in x0 97 122) fun (y2 : Bool) =>
  some y2)

theorem ok_i_isLower (x0 : Int) (r : Bool) (h : M_i_isLower x0 = some r) :
  FC Tryz.prog 178 [.int .i64 x0] [] (fun _ : Unit => True) (fun _ => .bool r) (fun _ => []) :=
 by
  refine FC.of (T := TTx) Tryz.call178 Tryz.func178 E E fun w0 => ?_
  unfold M_i_isLower at h
  refine JS.rg0 ttOk 1 [] ⟨V, E⟩ E E (JS.seq (JS.region (JO.reg ttOk 1 [] [] [(3, .v (I x0))] _ E ⟨⟨E, V⟩, E⟩ ?_)))
  obtain ⟨y2, hy3, h⟩ := bindO_some h
  refine JO.call E E E E (ok_i_in x0 97 122 _ hy3) E [] E E fun _ _ => JO.reg ttOk 1 [] [] [(2, .v (.bool y2))] _ E ⟨⟨E, V⟩, E⟩ (JO.done E ?_)
  cases h
  exact JS.ret ttOk () V E E [] E

def M_i_KeyOk (x0 : Int × Int) : Option Bool :=
  (bif (decide (x0.1 = 1)) then
  (bindO (M_i_Printable x0.2) fun (y2 : Bool) =>
  some y2)
  else
  (bif (decide (x0.1 = 2)) then
  (callO ((decide (x0.2 = 95)) = false) (M_i_isLower x0.2) false fun (y4 : Bool) =>
  some (bif (decide (x0.2 = 95)) then true else (bif (bif (bif (bif y4 then (!(decide (x0.2 = 104))) else false) then (!(decide (x0.2 = 105))) else false) then (!(decide (x0.2 = 106))) else false) then (!(decide (x0.2 = 109))) else false)))
  else
  (bif (decide (x0.1 = 3)) then
  (bindO (M_i_in x0.2 33 126) fun (y7 : Bool) =>
  some y7)
  else
  (bindO (M_i_in x0.1 4 16) fun (y9 : Bool) =>
  some (bif y9 then (decide (x0.2 = 0)) else false)))))

theorem ok_i_KeyOk (x0 : Int × Int) (r : Bool) (h : M_i_KeyOk x0 = some r) :
  FC Tryz.prog 97 [.agg #[.int .i64 x0.1, .int .i64 x0.2]] [] (fun _ : Unit => True) (fun _ => .bool r) (fun _ => []) :=
 by
  refine FC.of (T := TTx) Tryz.call97 Tryz.func97 E E fun w0 => ?_
  unfold M_i_KeyOk at h
  refine JS.rgB ttOk 2 [] [1] [(1, .bp 1 0)] (.new 1 64 [.int .i64 x0.1, .int .i64 x0.2] .nil) ⟨⟨E, V⟩, (Bs E E)⟩ E E (JS.seq (JS.rg0 ttOk 2 [(4, .v (I x0.1))] ⟨⟨E, V⟩, E⟩ E E (JS.block (JS.rg0 ttOk 2 [(5, .v (.bool (decide (x0.1 = 1))))] ⟨⟨E, V⟩, E⟩ E E ?_))))
  refine JS.cond E (fun ht17 => ?_) (fun ht17 => ?_)
  ·
   have h := condT h ht17
   refine JS.seq (JS.region (JO.reg ttOk 2 [] [] [(8, .v (I x0.2))] _ E ⟨⟨E, V⟩, E⟩ ?_))
   obtain ⟨y2, hy3, h⟩ := bindO_some h
   refine JO.call E E E E (ok_i_Printable x0.2 _ hy3) E [] E E fun _ _ => JO.reg ttOk 1 [] [] [(2, .v (.bool y2))] _ E ⟨⟨E, V⟩, E⟩ (JO.done E ?_)
   cases h
   exact JS.ret ttOk () V E E [] E
  have h := condF h ht17
  refine JS.rg0 ttOk 2 [(10, .v (.bool (decide (x0.1 = 2))))] ⟨⟨E, V⟩, E⟩ E E ?_
  refine JS.cond E (fun ht16 => ?_) (fun ht16 => ?_)
  ·
   have h := condT h ht16
   refine JS.seq (JS.region (JO.reg ttOk 6 [] [] [(15, .v (.bool (decide (x0.2 = 95)))), (17, .cd [(15, false)] (.v (I x0.2)))] _ E ⟨(Es E), E⟩ ?_))
   obtain ⟨y4, hy5, -, h⟩ := callO_some h
   refine JO.callg E E E E (fun q14 => ok_i_isLower x0.2 _ (hy5 q14)) E [] E E (JO.reg ttOk 22 [] [] [(2, .v (.bool (bif (decide (x0.2 = 95)) then true else (bif (bif (bif (bif y4 then (!(decide (x0.2 = 104))) else false) then (!(decide (x0.2 = 105))) else false) then (!(decide (x0.2 = 106))) else false) then (!(decide (x0.2 = 109))) else false))))] _ E ⟨⟨E, V⟩, E⟩ (JO.done E ?_))
   cases h
   exact JS.ret ttOk () V E E [] E
  have h := condF h ht16
  refine JS.rg0 ttOk 2 [(40, .v (.bool (decide (x0.1 = 3))))] ⟨⟨E, V⟩, E⟩ E E ?_
  refine JS.cond E (fun ht15 => ?_) (fun ht15 => ?_)
  ·
   have h := condT h ht15
   refine JS.seq (JS.region (JO.reg ttOk 2 [] [] [(43, .v (I x0.2))] _ E ⟨⟨E, V⟩, E⟩ ?_))
   obtain ⟨y7, hy8, h⟩ := bindO_some h
   refine JO.call E E E E (ok_i_in x0.2 33 126 _ hy8) E [] E E fun _ _ => JO.reg ttOk 1 [] [] [(2, .v (.bool y7))] _ E ⟨⟨E, V⟩, E⟩ (JO.done E ?_)
   cases h
   exact JS.ret ttOk () V E E [] E
  have h := condF h ht15
  refine JS.skip (JS.endB (JS.seq (JS.region (JO.reg ttOk 2 [] [] [(46, .v (I x0.1))] _ E ⟨⟨E, V⟩, E⟩ ?_))))
  obtain ⟨y9, hy10, h⟩ := bindO_some h
  refine JO.call E E E E (ok_i_in x0.1 4 16 _ hy10) E [] E E fun _ _ => JO.reg ttOk 6 [] [] [(2, .v (.bool (bif y9 then (decide (x0.2 = 0)) else false)))] _ E ⟨⟨E, V⟩, E⟩ (JO.done E ?_)
  cases h
  exact JS.ret ttOk () V E E [] E

def M_i_canKey (x0 : EdQ) (x1 : Int × List (List UInt8)) (x2 : Int × Int) : Option Bool :=
  (bindO (M_i_EdOk x0) fun (y32 : Bool) =>
  (callO (y32 = true) (M_i_HistOk x1) false fun (y34 : Bool) =>
  (callO ((bif y32 then y34 else false) = true) (M_i_KeyOk x2) false fun (y37 : Bool) =>
  some (bif (bif y32 then y34 else false) then y37 else false))))

theorem ok_i_canKey (x0 : EdQ) (x1 : Int × List (List UInt8)) (x2 : Int × Int) (a4 : Option Addr) (c5 : Nat) (l6 : Nat) (hl7 : x0.2.2.1.1.length = l6) (a8 : Option Addr) (c9 : Nat) (l10 : Nat) (hl11 : (Q8 x0).2.2.1.length = l10) (a12 : Option Addr) (c13 : Nat) (l14 : Nat) (hl15 : (Q8 x0).2.2.2.1.length = l14) (a16 : Option Addr) (c17 : Nat) (l18 : Nat) (hl19 : (Q12 x0).2.1.1.length = l18) (a20 : Option Addr) (c21 : Nat) (l22 : Nat) (hl23 : (Q12 x0).2.2.1.length = l22) (a24 : Option Addr) (c25 : Nat) (l26 : Nat) (hl27 : (Q16 x0).1.length = l26) (a28 : Option Addr) (c29 : Nat) (l30 : Nat) (hl31 : x1.2.length = l30) (r : Bool) (h : M_i_canKey x0 x1 x2 = some r) :
  FC Tryz.prog 84 [.agg #[.bool x0.1, .int .i64 x0.2.1, .slice a4 l6 c5, .int .i64 x0.2.2.1.2, .int .i64 x0.2.2.2.1, .int .i64 (Q4 x0).1, .int .i64 (Q4 x0).2.1, .int .i64 (Q4 x0).2.2.1, .int .i64 (Q4 x0).2.2.2.1, .int .i64 (Q8 x0).1, .int .i64 (Q8 x0).2.1, .slice a8 l10 c9, .slice a12 l14 c13, .int .i64 (Q12 x0).1, .slice a16 l18 c17, .int .i64 (Q12 x0).2.1.2, .slice a20 l22 c21, .int .i64 (Q12 x0).2.2.2.1, .slice a24 l26 c25, .int .i64 (Q16 x0).2], .agg #[.int .i64 x1.1, .slice a28 l30 c29], .agg #[.int .i64 x2.1, .int .i64 x2.2]] [⟨(.int .i64), ⟨a4, l6, c5⟩, x0.2.2.1.1⟩, ⟨(.sl (.int .i64)), ⟨a8, l10, c9⟩, (Q8 x0).2.2.1⟩, ⟨(.pair (.sl (.int .i64)) (.int .i64)), ⟨a12, l14, c13⟩, (Q8 x0).2.2.2.1⟩, ⟨(.int .i64), ⟨a16, l18, c17⟩, (Q12 x0).2.1.1⟩, ⟨(.int .i64), ⟨a20, l22, c21⟩, (Q12 x0).2.2.1⟩, ⟨(.int .i64), ⟨a24, l26, c25⟩, (Q16 x0).1⟩, ⟨.str, ⟨a28, l30, c29⟩, x1.2⟩] (fun _ : Unit => True) (fun _ => .bool r) (fun _ => []) :=
 by
  subst hl7
  subst hl11
  subst hl15
  subst hl19
  subst hl23
  subst hl27
  subst hl31
  refine FC.of (T := TTx) Tryz.call84 Tryz.func84 E E fun w0 => ?_
  unfold M_i_canKey at h
  refine JS.rgB ttOk 4 [] [8, 9, 10] [(3, .bp 8 0), (4, .bp 9 0), (5, .bp 10 0)] (.new 8 46 (cl46 x0 a4 c5 a8 c9 a12 c13 a16 c17 a20 c21 a24 c25) (.new 9 50 [.int .i64 x1.1, .slice a28 x1.2.length c29] (.new 10 64 [.int .i64 x2.1, .int .i64 x2.2] .nil))) ⟨(Es E), (Bs E E)⟩ E E (JS.seq (JS.region (JO.reg ttOk 1 [] [] [(7, .v (.agg (cl46 x0 a4 c5 a8 c9 a12 c13 a16 c17 a20 c21 a24 c25).toArray))] _ E ⟨⟨E, V⟩, E⟩ ?_)))
  obtain ⟨y32, hy33, h⟩ := bindO_some h
  refine JO.call E E E E (ok_i_EdOk x0 a4 c5 x0.2.2.1.1.length E a8 c9 (Q8 x0).2.2.1.length E a12 c13 (Q8 x0).2.2.2.1.length E a16 c17 (Q12 x0).2.1.1.length E a20 c21 (Q12 x0).2.2.1.length E a24 c25 (Q16 x0).1.length E _ hy33) E [0, 1, 2, 3, 4, 5] E E fun _ _ => JO.reg ttOk 2 [] [] [(9, .v (.bool y32)), (10, .cd [(9, true)] (.v (.agg #[.int .i64 x1.1, .slice a28 x1.2.length c29])))] _ E ⟨(Es E), E⟩ ?_
  obtain ⟨y34, hy35, -, h⟩ := callO_some h
  refine JO.callg E E E E (fun q40 => ok_i_HistOk x1 a28 c29 x1.2.length E _ (hy35 q40)) E [6] E E (JO.reg ttOk 3 [] [] [(13, .v (.bool (bif y32 then y34 else false))), (14, .cd [(13, true)] (.v (.agg #[.int .i64 x2.1, .int .i64 x2.2])))] _ E ⟨(Es E), E⟩ ?_)
  obtain ⟨y37, hy38, -, h⟩ := callO_some h
  refine JO.callg E E E E (fun q41 => ok_i_KeyOk x2 _ (hy38 q41)) E [] E E (JO.reg ttOk 2 [] [] [(6, .v (.bool (bif (bif y32 then y34 else false) then y37 else false)))] _ E ⟨⟨E, V⟩, E⟩ (JO.done E ?_))
  cases h
  exact JS.ret ttOk () V E E [] E

def M_i_copyInts (x0 : List Int) : Option (List Int) :=
  (guardO (([] : List Int).length + x0.length ≤ 536870912) <|
  some (([] : List Int) ++ x0))

theorem ok_i_copyInts (x0 : List Int) (a2 : Option Addr) (c3 : Nat) (l4 : Nat) (hl5 : x0.length = l4) (r : List Int) (h : M_i_copyInts x0 = some r) :
  FC Tryz.prog 65 [.slice a2 l4 c3] [⟨(.int .i64), ⟨a2, l4, c3⟩, x0⟩] (fun _ : Option Addr × Nat => True) (fun q => .slice q.1 r.length q.2) (fun q => [⟨(.int .i64), ⟨q.1, r.length, q.2⟩, r⟩]) :=
 by
  subst hl5
  refine FC.of (T := TTx) Tryz.call65 Tryz.func65 E E fun w0 => ?_
  unfold M_i_copyInts at h
  refine JS.rg0 ttOk 1 [] ⟨V, E⟩ E E (JS.seq (JS.region (JO.reg ttOk 1 [] [] [(3, .v (.slice a2 x0.length c3))] _ E ⟨⟨E, V⟩, E⟩ ?_)))
  obtain ⟨g6, h⟩ := guardO_some h
  refine JO.nilO (.int .i64) Sl.nil E E (JO.appendR' ttOk E E E E ⟨E, E, E, E, V, E, E, E, E⟩ E E E [0] E 0 E g6 E fun a7 c8 => JO.reg ttOk 1 [] [] [(2, .v (.slice a7 (([] : List Int) ++ x0).length c8))] _ E ⟨⟨E, V⟩, E⟩ (JO.done E ?_))
  cases h
  exact JS.ret ttOk (a7, c8) V E E [0] E

def M_i_copyLine (x0 : List Int × Int) : Option (List Int × Int) :=
  (bindO (M_i_copyInts x0.1) fun (y6 : List Int) =>
  some (y6, x0.2))

theorem ok_i_copyLine (x0 : List Int × Int) (a2 : Option Addr) (c3 : Nat) (l4 : Nat) (hl5 : x0.1.length = l4) (r : List Int × Int) (h : M_i_copyLine x0 = some r) :
  FC Tryz.prog 64 [.agg #[.slice a2 l4 c3, .int .i64 x0.2]] [⟨(.int .i64), ⟨a2, l4, c3⟩, x0.1⟩] (fun _ : Option Addr × Nat => True) (fun q => .agg #[.slice q.1 r.1.length q.2, .int .i64 r.2]) (fun q => [⟨(.int .i64), ⟨q.1, r.1.length, q.2⟩, r.1⟩]) :=
 by
  subst hl5
  refine FC.of (T := TTx) Tryz.call64 Tryz.func64 E E fun w0 => ?_
  unfold M_i_copyLine at h
  refine JS.rgB ttOk 2 [] [2, 3] [(1, .bp 2 0), (2, .bp 3 0)] (.new 2 38 [.slice a2 x0.1.length c3, .int .i64 x0.2] (.new 3 38 [.slice none 0 0, .int .i64 0] .nil)) ⟨(Es E), (Bs E E)⟩ E E (JS.seq ?_)
  obtain ⟨y6, hy7, h⟩ := bindO_some h
  refine JS.regionA E (.new 2 38 [.slice a2 x0.1.length c3, .int .i64 x0.2] .nil) [] [5, 6] ⟨E, E, E, E, V⟩ E (fun be10 => ?_)
  refine JA.reg ttOk panic_cx true 3 [0, 1, 3, 4] E (by kernel_rfl) [] [(4, .v (.slice a2 x0.1.length c3)), (7, .v (I x0.2))] ⟨E, E, E, E, V⟩ [] E E (Es E) (JA.one 2 (by kernel_rfl) (JK.call E E E E (ok_i_copyInts x0.1 a2 c3 x0.1.length E _ hy7) E [0] E E ?_))
  rintro ⟨a8, c9⟩ -
  refine JA.next ⟨E, E, E, E, V⟩ [] E (JA.regL ttOk panic_cx 1 [5] E (by kernel_rfl) [] [(8, .v (.agg #[.slice a8 y6.length c9, .int .i64 x0.2]))] E ⟨E, V⟩ (JA.one 6 (by kernel_rfl) (JK.stBox ttOk E E E E E E E E (JA.nextL E (JA.done (by kernel_rfl) (JS.boxes (B' := (.new 3 38 [.slice a8 y6.length c9, .int .i64 x0.2] .nil)) (Bs E E) ?_))))))
  cases h
  exact JS.ret ttOk (a8, c9) V E E [0] E

def M_i_copyRing_L1 (x0 : List (List Int)) (j39 : (List (List Int)) → Option (List (List Int))) (k32 : (Int × List (List Int)) → Option (List (List Int))) : (Int × List (List Int)) → Option (List (List Int)) := fun (x6, x10) =>
  (bif (decide (x6 < (x0.length : Int))) then
  (guardO (0 ≤ x6 ∧ x6 < (x0.length : Int)) <|
  (bindO (M_i_copyInts (at' x0 x6)) fun (y20 : List Int) =>
  (guardO (x10.length + ([y20] : List (List Int)).length ≤ 536870912) <|
  k32 ((W (x6 + 1)), (x10 ++ ([y20] : List (List Int)))))))
  else
  j39 x10)

def M_i_copyRing (x0 : List (List Int)) : Option (List (List Int)) :=
  (joinO (fun (x36 : List (List Int)) =>
  some x36) fun j39 =>
  (fixF (M_i_copyRing_L1 x0 j39) FUEL (0, ([] : List (List Int)))))

theorem ok_i_copyRing (x0 : List (List Int)) (a2 : Option Addr) (c3 : Nat) (l4 : Nat) (hl5 : x0.length = l4) (r : List (List Int)) (h : M_i_copyRing x0 = some r) :
  FC Tryz.prog 145 [.agg #[.slice a2 l4 c3]] [⟨(.sl (.int .i64)), ⟨a2, l4, c3⟩, x0⟩] (fun _ : Option Addr × Nat => True) (fun q => .agg #[.slice q.1 r.length q.2]) (fun q => [⟨(.sl (.int .i64)), ⟨q.1, r.length, q.2⟩, r⟩]) :=
 by
  subst hl5
  refine FC.of (T := TTx) Tryz.call145 Tryz.func145 E E fun w0 => ?_
  unfold M_i_copyRing at h
  refine JS.rgB ttOk 2 [] [2, 3] [(1, .bp 2 0), (2, .bp 3 0)] (.new 2 41 [.slice a2 x0.length c3] (.new 3 41 [.slice none 0 0] .nil)) ⟨(Es E), (Bs E E)⟩ E E (JS.rgB ttOk 1 [] [4] [(3, .bp 4 0)] (.new 2 41 [.slice a2 x0.length c3] (.new 3 41 [.slice none 0 0] (.new 4 41 [.slice none 0 0] .nil))) ⟨⟨E, V⟩, (Bs E E)⟩ E E (JS.seq (JS.rg0 ttOk 4 [(7, .v (.slice a2 x0.length c3)), (8, .v (I (x0.length : Int))), (9, .v (I 0))] ⟨(Es E), E⟩ E E ?_)))
  obtain ⟨j39, hj45, h⟩ := joinO_some h
  refine JS.blockJ (ι := List (List Int) × Option Addr × Nat) ⟨fun z => j39 z.1 = some r, fun z => [(2, .bp 3 0), (3, .bp 4 0)], fun z => (.new 3 41 [.slice none 0 0] (.new 4 41 [.slice z.2.1 z.1.length z.2.2] .nil)), fun z => [], fun z => [⟨(.sl (.int .i64)), ⟨z.2.1, z.1.length, z.2.2⟩, z.1⟩], fun z => 0⟩ ?_ ?_
  ·
   refine JS.nilO (.sl (.int .i64)) Sl.nil E E (JS.loop (ι := Nat × Int × List (List Int) × Option Addr × Nat) ⟨fun z => fixF (M_i_copyRing_L1 x0 j39) z.1 (z.2.1, z.2.2.1) = some r, fun z => [(2, .bp 3 0), (3, .bp 4 0), (7, .v (.slice a2 x0.length c3)), (8, .v (I (x0.length : Int))), (9, .v (I z.2.1))], fun z => (.new 3 41 [.slice none 0 0] (.new 4 41 [.slice z.2.2.2.1 z.2.2.1.length (Q4 z)] .nil)), fun z => [⟨(.sl (.int .i64)), ⟨a2, x0.length, c3⟩, x0⟩], fun z => [⟨(.sl (.int .i64)), ⟨z.2.2.2.1, z.2.2.1.length, (Q4 z)⟩, z.2.2.1⟩], fun z => z.1⟩ (FUEL, 0, ([] : List (List Int)), none, 0) h (Es E) (Bs E E) [0] E [0] E ?_)
   rintro ⟨n33, x6, x10, a11, c12⟩ h
   obtain ⟨n33, rfl, h⟩ := fixF_some h
   rw [M_i_copyRing_L1] at h
   refine JS.rg0 ttOk 1 [(10, .v (.bool (decide (x6 < (x0.length : Int)))))] ⟨⟨E, V⟩, E⟩ E E (JS.seq ?_)
   refine JS.cond E (fun ht44 => ?_) (fun ht44 => ?_)
   ·
    have h := condT h ht44
    refine JS.skip (JS.seq (JS.block (JS.seq (JS.region (JO.know 0 E fun hs43 => ?_)))))
    obtain ⟨g14, h⟩ := guardO_some h
    refine JO.reg ttOk 1 [] [] [(11, .ep ⟨a2, x0.length, c3⟩ (Int.toNat x6 * 1))] _ E ⟨hs43.ix g14, ⟨E, V⟩, E⟩ (JO.openR 0 E (Int.toNat x6) (at' x0 x6) E fun a15 c16 ys17 hl18 hy19 => JO.loadV ttOk E E E E E E 0 E E (Int.toNat x6) 0 (Sl.v ⟨a15, (at' x0 x6).length, c16⟩) ⟨hy19 (ltNat g14), E⟩ E E E (JO.regB ttOk 2 [] [22] [(5, .bp 22 0)] (.new 3 41 [.slice none 0 0] (.new 4 41 [.slice a11 x10.length c12] (.new 22 174 [.slice a15 (at' x0 x6).length c16] .nil))) E ⟨⟨E, V⟩, (Bs E E)⟩ (JO.done E ?_)))
    obtain ⟨y20, hy21, h⟩ := bindO_some h
    obtain ⟨g25, h⟩ := guardO_some h
    refine JS.regionA E (.new 4 41 [.slice a11 x10.length c12] (.new 22 174 [.slice a15 (at' x0 x6).length c16] .nil)) [] [7, 8, 9] ⟨E, E, E, E, E, E, E, E, V⟩ E (fun be28 => ?_)
    refine JA.reg ttOk panic_cx true 6 [0, 1, 2, 3] E (by kernel_rfl) [] [(14, .v (.slice a11 x10.length c12)), (16, .v (.slice a15 (at' x0 x6).length c16))] ⟨E, E, E, E, E, E, E, E, V⟩ [] E E (Es E) (JA.one 4 (by kernel_rfl) (JK.call E E E E (ok_i_copyInts (at' x0 x6) a15 c16 ((at' x0 x6).length) E _ hy21) E [1] E E ?_))
    rintro ⟨a22, c23⟩ -
    refine JA.next ⟨E, E, E, E, E, E, E, E, V⟩ [] E (JA.reg ttOk panic_cx true 4 [5] E (by kernel_rfl) [] [(18, .v (.agg #[.slice a22 y20.length c23]))] ⟨E, E, E, E, E, E, E, E, V⟩ [] E E ⟨E, V⟩ (JA.one 6 (by kernel_rfl) (JK.buildSlice ttOk E E E E E E E E E E E [0] E (.sl (.int .i64)) [y20] ⟨E, E, E⟩ E E fun a24 => JA.next ⟨E, E, E, E, E, E, E, E, V⟩ [] E (JA.one 7 (by kernel_rfl) (JK.appendO' ttOk E E E E ⟨E, E, E, E, V, E, E, E, E⟩ E E [1, 0] E g25 E fun a26 c27 => JA.nextL E (JA.regL ttOk panic_cx 1 [8] E (by kernel_rfl) [] [(21, .bp 4 0)] E ⟨E, V⟩ (JA.one 9 (by kernel_rfl) (JK.stBox ttOk E E E E E E E E (JA.nextL E (JA.done (by kernel_rfl) (JS.boxes (B' := (.new 3 41 [.slice none 0 0] (.new 4 41 [.slice a26 (x10 ++ ([y20] : List (List Int))).length c27] .nil))) (Bs E E) (JS.endB (JS.re ttOk 2 [(W (x6 + 1))] [] [(9, .v (I (W (x6 + 1))))] _ ⟨⟨V, E⟩, ⟨E, V⟩, E⟩ E E (JS.endL (n33, (W (x6 + 1)), (x10 ++ ([y20] : List (List Int))), a26, c27) h (Nat.lt_succ_self _) (Es E) (Bs E E) [2] E [0] E))))))))))))))
   have h := condF h ht44
   refine JS.exit E (JS.endJ (x10, a11, c12) h (Es E) (Bs E E) [] E [0] E)
  rintro ⟨x36, a37, c38⟩ h
  subst hj45
  refine JS.rgB ttOk 2 [] [] [] (.new 3 41 [.slice a37 x36.length c38] .nil) ⟨V, (Bs E E)⟩ E E ?_
  cases h
  exact JS.ret ttOk (a37, c38) V E E [0] E

def M_i_copyUndo_L1 (x0 : List (List Int × Int)) (j39 : (List (List Int × Int)) → Option (List (List Int × Int))) (k32 : (Int × (List (List Int × Int))) → Option (List (List Int × Int))) : (Int × (List (List Int × Int))) → Option (List (List Int × Int)) := fun (x6, x10) =>
  (bif (decide (x6 < (x0.length : Int))) then
  (guardO (0 ≤ x6 ∧ x6 < (x0.length : Int)) <|
  (bindO (M_i_copyLine ((at' x0 x6).1, (at' x0 x6).2)) fun (y20 : List Int × Int) =>
  (guardO (x10.length + ([y20] : List (List Int × Int)).length ≤ 536870912) <|
  k32 ((W (x6 + 1)), (x10 ++ ([y20] : List (List Int × Int)))))))
  else
  j39 x10)

def M_i_copyUndo (x0 : List (List Int × Int)) : Option (List (List Int × Int)) :=
  (joinO (fun (x36 : List (List Int × Int)) =>
  some x36) fun j39 =>
  (fixF (M_i_copyUndo_L1 x0 j39) FUEL (0, ([] : List (List Int × Int)))))

theorem ok_i_copyUndo (x0 : List (List Int × Int)) (a2 : Option Addr) (c3 : Nat) (l4 : Nat) (hl5 : x0.length = l4) (r : List (List Int × Int)) (h : M_i_copyUndo x0 = some r) :
  FC Tryz.prog 146 [.agg #[.slice a2 l4 c3]] [⟨(.pair (.sl (.int .i64)) (.int .i64)), ⟨a2, l4, c3⟩, x0⟩] (fun _ : Option Addr × Nat => True) (fun q => .agg #[.slice q.1 r.length q.2]) (fun q => [⟨(.pair (.sl (.int .i64)) (.int .i64)), ⟨q.1, r.length, q.2⟩, r⟩]) :=
 by
  subst hl5
  refine FC.of (T := TTx) Tryz.call146 Tryz.func146 E E fun w0 => ?_
  unfold M_i_copyUndo at h
  refine JS.rgB ttOk 2 [] [2, 3] [(1, .bp 2 0), (2, .bp 3 0)] (.new 2 44 [.slice a2 x0.length c3] (.new 3 44 [.slice none 0 0] .nil)) ⟨(Es E), (Bs E E)⟩ E E (JS.rgB ttOk 1 [] [4] [(3, .bp 4 0)] (.new 2 44 [.slice a2 x0.length c3] (.new 3 44 [.slice none 0 0] (.new 4 44 [.slice none 0 0] .nil))) ⟨⟨E, V⟩, (Bs E E)⟩ E E (JS.seq (JS.rg0 ttOk 4 [(7, .v (.slice a2 x0.length c3)), (8, .v (I (x0.length : Int))), (9, .v (I 0))] ⟨(Es E), E⟩ E E ?_)))
  obtain ⟨j39, hj45, h⟩ := joinO_some h
  refine JS.blockJ (ι := (List (List Int × Int)) × Option Addr × Nat) ⟨fun z => j39 z.1 = some r, fun z => [(2, .bp 3 0), (3, .bp 4 0)], fun z => (.new 3 44 [.slice none 0 0] (.new 4 44 [.slice z.2.1 z.1.length z.2.2] .nil)), fun z => [], fun z => [⟨(.pair (.sl (.int .i64)) (.int .i64)), ⟨z.2.1, z.1.length, z.2.2⟩, z.1⟩], fun z => 0⟩ ?_ ?_
  ·
   refine JS.nilO (.pair (.sl (.int .i64)) (.int .i64)) Sl.nil E E (JS.loop (ι := Nat × Int × (List (List Int × Int)) × Option Addr × Nat) ⟨fun z => fixF (M_i_copyUndo_L1 x0 j39) z.1 (z.2.1, z.2.2.1) = some r, fun z => [(2, .bp 3 0), (3, .bp 4 0), (7, .v (.slice a2 x0.length c3)), (8, .v (I (x0.length : Int))), (9, .v (I z.2.1))], fun z => (.new 3 44 [.slice none 0 0] (.new 4 44 [.slice z.2.2.2.1 z.2.2.1.length (Q4 z)] .nil)), fun z => [⟨(.pair (.sl (.int .i64)) (.int .i64)), ⟨a2, x0.length, c3⟩, x0⟩], fun z => [⟨(.pair (.sl (.int .i64)) (.int .i64)), ⟨z.2.2.2.1, z.2.2.1.length, (Q4 z)⟩, z.2.2.1⟩], fun z => z.1⟩ (FUEL, 0, ([] : List (List Int × Int)), none, 0) h (Es E) (Bs E E) [0] E [0] E ?_)
   rintro ⟨n33, x6, x10, a11, c12⟩ h
   obtain ⟨n33, rfl, h⟩ := fixF_some h
   rw [M_i_copyUndo_L1] at h
   refine JS.rg0 ttOk 1 [(10, .v (.bool (decide (x6 < (x0.length : Int)))))] ⟨⟨E, V⟩, E⟩ E E (JS.seq ?_)
   refine JS.cond E (fun ht44 => ?_) (fun ht44 => ?_)
   ·
    have h := condT h ht44
    refine JS.skip (JS.seq (JS.block (JS.seq (JS.region (JO.know 0 E fun hs43 => ?_)))))
    obtain ⟨g14, h⟩ := guardO_some h
    refine JO.reg ttOk 1 [] [] [(11, .ep ⟨a2, x0.length, c3⟩ (Int.toNat x6 * 2))] _ E ⟨hs43.ix g14, ⟨E, V⟩, E⟩ (JO.openR 0 E (Int.toNat x6) (at' x0 x6) E fun a15 c16 ys17 hl18 hy19 => JO.loadV ttOk E E E E E E 0 E E (Int.toNat x6) 0 ((Sl.v ⟨a15, ((at' x0 x6).1).length, c16⟩), (at' x0 x6).2) ⟨hy19 (ltNat g14), E⟩ E E E (JO.regB ttOk 2 [] [22] [(5, .bp 22 0)] (.new 3 44 [.slice none 0 0] (.new 4 44 [.slice a11 x10.length c12] (.new 22 38 [.slice a15 ((at' x0 x6).1).length c16, .int .i64 (at' x0 x6).2] .nil))) E ⟨⟨E, V⟩, (Bs E E)⟩ (JO.done E ?_)))
    obtain ⟨y20, hy21, h⟩ := bindO_some h
    obtain ⟨g25, h⟩ := guardO_some h
    refine JS.regionA E (.new 4 44 [.slice a11 x10.length c12] (.new 22 38 [.slice a15 ((at' x0 x6).1).length c16, .int .i64 (at' x0 x6).2] .nil)) [] [5, 6, 7] ⟨E, E, E, E, E, E, E, E, V⟩ E (fun be28 => ?_)
    refine JA.reg ttOk panic_cx true 5 [0, 1, 2] E (by kernel_rfl) [] [(14, .v (.slice a11 x10.length c12)), (15, .v (.agg #[.slice a15 ((at' x0 x6).1).length c16, .int .i64 (at' x0 x6).2]))] ⟨E, E, E, E, E, E, E, E, V⟩ [] E E (Es E) (JA.one 3 (by kernel_rfl) (JK.call E E E E (ok_i_copyLine ((at' x0 x6).1, (at' x0 x6).2) a15 c16 (((at' x0 x6).1).length) E _ hy21) E [1] E E ?_))
    rintro ⟨a22, c23⟩ -
    refine JA.next ⟨E, E, E, E, E, E, E, E, V⟩ [] E (JA.one 4 (by kernel_rfl) (JK.buildSlice ttOk E E E E E E E E E E E [0] E (.pair (.sl (.int .i64)) (.int .i64)) [y20] ⟨E, E, E⟩ E E fun a24 => JA.next ⟨E, E, E, E, E, E, E, E, V⟩ [] E (JA.one 5 (by kernel_rfl) (JK.appendO' ttOk E E E E ⟨E, E, E, E, V, E, E, E, E⟩ E E [1, 0] E g25 E fun a26 c27 => JA.nextL E (JA.regL ttOk panic_cx 1 [6] E (by kernel_rfl) [] [(19, .bp 4 0)] E ⟨E, V⟩ (JA.one 7 (by kernel_rfl) (JK.stBox ttOk E E E E E E E E (JA.nextL E (JA.done (by kernel_rfl) (JS.boxes (B' := (.new 3 44 [.slice none 0 0] (.new 4 44 [.slice a26 (x10 ++ ([y20] : List (List Int × Int))).length c27] .nil))) (Bs E E) (JS.endB (JS.re ttOk 2 [(W (x6 + 1))] [] [(9, .v (I (W (x6 + 1))))] _ ⟨⟨V, E⟩, ⟨E, V⟩, E⟩ E E (JS.endL (n33, (W (x6 + 1)), (x10 ++ ([y20] : List (List Int × Int))), a26, c27) h (Nat.lt_succ_self _) (Es E) (Bs E E) [2] E [0] E)))))))))))))
   have h := condF h ht44
   refine JS.exit E (JS.endJ (x10, a11, c12) h (Es E) (Bs E E) [] E [0] E)
  rintro ⟨x36, a37, c38⟩ h
  subst hj45
  refine JS.rgB ttOk 2 [] [] [] (.new 3 44 [.slice a37 x36.length c38] .nil) ⟨V, (Bs E E)⟩ E E ?_
  cases h
  exact JS.ret ttOk (a37, c38) V E E [0] E

def M_i_copyEd (x0 : EdQ) : Option EdQ :=
  (bindO (M_i_copyLine x0.2.2.1) fun (y26 : List Int × Int) =>
  (bindO (M_i_copyLine x0.2.2.2.2.2.2.2.2.2.2.2.2.2.1) fun (y30 : List Int × Int) =>
  (bindO (M_i_copyLine x0.2.2.2.2.2.2.2.2.2.2.2.2.2.2.2.2) fun (y34 : List Int × Int) =>
  (bindO (M_i_copyRing x0.2.2.2.2.2.2.2.2.2.2.1) fun (y39 : List (List Int)) =>
  (bindO (M_i_copyUndo x0.2.2.2.2.2.2.2.2.2.2.2.1) fun (y43 : List (List Int × Int)) =>
  (bindO (M_i_copyInts x0.2.2.2.2.2.2.2.2.2.2.2.2.2.2.1) fun (y48 : List Int) =>
  some (x0.1, x0.2.1, y26, x0.2.2.2.1, x0.2.2.2.2.1, x0.2.2.2.2.2.1, x0.2.2.2.2.2.2.1, x0.2.2.2.2.2.2.2.1, x0.2.2.2.2.2.2.2.2.1, x0.2.2.2.2.2.2.2.2.2.1, y39, y43, x0.2.2.2.2.2.2.2.2.2.2.2.2.1, y30, y48, x0.2.2.2.2.2.2.2.2.2.2.2.2.2.2.2.1, y34)))))))

theorem ok_i_copyEd (x0 : EdQ) (a2 : Option Addr) (c3 : Nat) (l4 : Nat) (hl5 : x0.2.2.1.1.length = l4) (a6 : Option Addr) (c7 : Nat) (l8 : Nat) (hl9 : (Q8 x0).2.2.1.length = l8) (a10 : Option Addr) (c11 : Nat) (l12 : Nat) (hl13 : (Q8 x0).2.2.2.1.length = l12) (a14 : Option Addr) (c15 : Nat) (l16 : Nat) (hl17 : (Q12 x0).2.1.1.length = l16) (a18 : Option Addr) (c19 : Nat) (l20 : Nat) (hl21 : (Q12 x0).2.2.1.length = l20) (a22 : Option Addr) (c23 : Nat) (l24 : Nat) (hl25 : (Q16 x0).1.length = l24) (r : EdQ) (h : M_i_copyEd x0 = some r) :
  FC Tryz.prog 63 [.agg #[.bool x0.1, .int .i64 x0.2.1, .slice a2 l4 c3, .int .i64 x0.2.2.1.2, .int .i64 x0.2.2.2.1, .int .i64 (Q4 x0).1, .int .i64 (Q4 x0).2.1, .int .i64 (Q4 x0).2.2.1, .int .i64 (Q4 x0).2.2.2.1, .int .i64 (Q8 x0).1, .int .i64 (Q8 x0).2.1, .slice a6 l8 c7, .slice a10 l12 c11, .int .i64 (Q12 x0).1, .slice a14 l16 c15, .int .i64 (Q12 x0).2.1.2, .slice a18 l20 c19, .int .i64 (Q12 x0).2.2.2.1, .slice a22 l24 c23, .int .i64 (Q16 x0).2]] [⟨(.int .i64), ⟨a2, l4, c3⟩, x0.2.2.1.1⟩, ⟨(.sl (.int .i64)), ⟨a6, l8, c7⟩, (Q8 x0).2.2.1⟩, ⟨(.pair (.sl (.int .i64)) (.int .i64)), ⟨a10, l12, c11⟩, (Q8 x0).2.2.2.1⟩, ⟨(.int .i64), ⟨a14, l16, c15⟩, (Q12 x0).2.1.1⟩, ⟨(.int .i64), ⟨a18, l20, c19⟩, (Q12 x0).2.2.1⟩, ⟨(.int .i64), ⟨a22, l24, c23⟩, (Q16 x0).1⟩] (fun _ : Option Addr × Nat × Option Addr × Nat × Option Addr × Nat × Option Addr × Nat × Option Addr × Nat × Option Addr × Nat => True) (fun q => .agg (cl46 r q.1 q.2.1 q.2.2.1 q.2.2.2.1 (Q4 q).1 (Q4 q).2.1 (Q4 q).2.2.1 (Q4 q).2.2.2.1 (Q8 q).1 (Q8 q).2.1 (Q8 q).2.2.1 (Q8 q).2.2.2).toArray) (fun q => (fl32 r q.1 q.2.1 q.2.2.1 q.2.2.2.1 (Q4 q).1 (Q4 q).2.1 (Q4 q).2.2.1 (Q4 q).2.2.2.1 (Q8 q).1 (Q8 q).2.1 (Q8 q).2.2.1 (Q8 q).2.2.2 [])) :=
 by
  subst hl5
  subst hl9
  subst hl13
  subst hl17
  subst hl21
  subst hl25
  refine FC.of (T := TTx) Tryz.call63 Tryz.func63 E E fun w0 => ?_
  unfold M_i_copyEd at h
  refine JS.rgB ttOk 2 [] [7, 8] [(1, .bp 7 0), (2, .bp 8 0)] (.new 7 46 (cl46 x0 a2 c3 a6 c7 a10 c11 a14 c15 a18 c19 a22 c23) (.new 8 46 cz46 .nil)) ⟨(Es E), (Bs E E)⟩ E E (JS.seq ?_)
  obtain ⟨y26, hy27, h⟩ := bindO_some h
  obtain ⟨y30, hy31, h⟩ := bindO_some h
  obtain ⟨y34, hy35, h⟩ := bindO_some h
  refine JS.regionA E (.new 7 46 (cl46 x0 a2 c3 a6 c7 a10 c11 a14 c15 a18 c19 a22 c23) .nil) [] [8, 9, 10, 11, 12, 13, 14] ⟨E, E, E, E, V⟩ E (fun be38 => ?_)
  refine JA.reg ttOk panic_cx true 9 [0, 1, 3, 4, 6, 7] E (by kernel_rfl) [] [(4, .v (.agg #[.slice a2 x0.2.2.1.1.length c3, .int .i64 x0.2.2.1.2])), (7, .v (.agg #[.slice a14 (Q12 x0).2.1.1.length c15, .int .i64 (Q12 x0).2.1.2])), (10, .v (.agg #[.slice a22 (Q16 x0).1.length c23, .int .i64 (Q16 x0).2]))] ⟨E, E, E, E, V⟩ [] E E (Es E) (JA.one 2 (by kernel_rfl) (JK.call E E E E (ok_i_copyLine x0.2.2.1 a2 c3 x0.2.2.1.1.length E _ hy27) E [0] E E ?_))
  rintro ⟨a28, c29⟩ -
  refine JA.next ⟨E, E, E, E, V⟩ [] E (JA.regL ttOk panic_cx 7 [9] E (by kernel_rfl) [] [(12, .bp 7 2)] E ⟨E, V⟩ (JA.one 5 (by kernel_rfl) (JK.call E E E E (ok_i_copyLine (Q12 x0).2.1 a14 c15 (Q12 x0).2.1.1.length E _ hy31) E [3] E E ?_)))
  rintro ⟨a32, c33⟩ -
  refine JA.next ⟨E, E, E, E, V⟩ [] E (JA.one 8 (by kernel_rfl) (JK.call E E E E (ok_i_copyLine (Q16 x0) a22 c23 (Q16 x0).1.length E _ hy35) E [5] E E ?_))
  rintro ⟨a36, c37⟩ -
  refine JA.nextL E (JA.one 10 (by kernel_rfl) (JK.stBox ttOk E E E E E E E E (JA.nextL E (JA.regL ttOk panic_cx 3 [11] E (by kernel_rfl) [] [(13, .bp 7 14)] E ⟨E, V⟩ (JA.one 12 (by kernel_rfl) (JK.stBox ttOk E E E E E E E E (JA.nextL E (JA.regL ttOk panic_cx 1 [13] E (by kernel_rfl) [] [(14, .bp 7 18)] E ⟨E, V⟩ (JA.one 14 (by kernel_rfl) (JK.stBox ttOk E E E E E E E E (JA.nextL E (JA.done (by kernel_rfl) (JS.boxes (B' := (.new 7 46 (cl46 (x0.1, x0.2.1, y26, x0.2.2.2.1, (Q4 x0).1, (Q4 x0).2.1, (Q4 x0).2.2.1, (Q4 x0).2.2.2.1, (Q8 x0).1, (Q8 x0).2.1, (Q8 x0).2.2.1, (Q8 x0).2.2.2.1, (Q12 x0).1, y30, (Q12 x0).2.2.1, (Q12 x0).2.2.2.1, y34) a28 c29 a6 c7 a10 c11 a32 c33 a18 c19 a36 c37) (.new 8 46 cz46 .nil))) (Bs E E) (JS.seq ?_))))))))))))))
  obtain ⟨y39, hy40, h⟩ := bindO_some h
  obtain ⟨y43, hy44, h⟩ := bindO_some h
  refine JS.regionA E (.new 7 46 (cl46 (x0.1, x0.2.1, y26, x0.2.2.2.1, (Q4 x0).1, (Q4 x0).2.1, (Q4 x0).2.2.1, (Q4 x0).2.2.2.1, (Q8 x0).1, (Q8 x0).2.1, (Q8 x0).2.2.1, (Q8 x0).2.2.2.1, (Q12 x0).1, y30, (Q12 x0).2.2.1, (Q12 x0).2.2.2.1, y34) a28 c29 a6 c7 a10 c11 a32 c33 a18 c19 a36 c37) .nil) [] [5, 6, 7, 8, 9] ⟨E, E, E, E, V⟩ E (fun be47 => ?_)
  refine JA.reg ttOk panic_cx true 6 [0, 1, 3, 4] E (by kernel_rfl) [] [(16, .v (.agg #[.slice a6 (Q8 x0).2.2.1.length c7])), (19, .v (.agg #[.slice a10 (Q8 x0).2.2.2.1.length c11]))] ⟨E, E, E, E, V⟩ [] E E (Es E) (JA.one 2 (by kernel_rfl) (JK.call E E E E (ok_i_copyRing (Q8 x0).2.2.1 a6 c7 (Q8 x0).2.2.1.length E _ hy40) E [1] E E ?_))
  rintro ⟨a41, c42⟩ -
  refine JA.next ⟨E, E, E, E, V⟩ [] E (JA.regL ttOk panic_cx 4 [6] E (by kernel_rfl) [] [(21, .bp 7 11)] E ⟨E, V⟩ (JA.one 5 (by kernel_rfl) (JK.call E E E E (ok_i_copyUndo (Q8 x0).2.2.2.1 a10 c11 (Q8 x0).2.2.2.1.length E _ hy44) E [2] E E ?_)))
  rintro ⟨a45, c46⟩ -
  refine JA.nextL E (JA.one 7 (by kernel_rfl) (JK.stBox ttOk E E E E E E E E (JA.nextL E (JA.regL ttOk panic_cx 1 [8] E (by kernel_rfl) [] [(22, .bp 7 12)] E ⟨E, V⟩ (JA.one 9 (by kernel_rfl) (JK.stBox ttOk E E E E E E E E (JA.nextL E (JA.done (by kernel_rfl) (JS.boxes (B' := (.new 7 46 (cl46 (x0.1, x0.2.1, y26, x0.2.2.2.1, (Q4 x0).1, (Q4 x0).2.1, (Q4 x0).2.2.1, (Q4 x0).2.2.2.1, (Q8 x0).1, (Q8 x0).2.1, y39, y43, (Q12 x0).1, y30, (Q12 x0).2.2.1, (Q12 x0).2.2.2.1, y34) a28 c29 a41 c42 a45 c46 a32 c33 a18 c19 a36 c37) (.new 8 46 cz46 .nil))) (Bs E E) (JS.seq (JS.region (JO.reg ttOk 2 [] [] [(24, .v (.slice a18 (Q12 x0).2.2.1.length c19))] _ E ⟨⟨E, V⟩, E⟩ ?_))))))))))))
  obtain ⟨y48, hy49, h⟩ := bindO_some h
  refine JO.call E E E E (ok_i_copyInts (Q12 x0).2.2.1 a18 c19 (Q12 x0).2.2.1.length E _ hy49) E [4] E E ?_
  rintro ⟨a50, c51⟩ -
  refine JO.regB ttOk 2 [] [] [] (.new 7 46 (cl46 (x0.1, x0.2.1, y26, x0.2.2.2.1, (Q4 x0).1, (Q4 x0).2.1, (Q4 x0).2.2.1, (Q4 x0).2.2.2.1, (Q8 x0).1, (Q8 x0).2.1, y39, y43, (Q12 x0).1, y30, y48, (Q12 x0).2.2.2.1, y34) a28 c29 a41 c42 a45 c46 a32 c33 a50 c51 a36 c37) (.new 8 46 cz46 .nil)) E ⟨V, (Bs E E)⟩ (JO.done E (JS.rgB ttOk 2 [] [] [] (.new 8 46 (cl46 (x0.1, x0.2.1, y26, x0.2.2.2.1, (Q4 x0).1, (Q4 x0).2.1, (Q4 x0).2.2.1, (Q4 x0).2.2.2.1, (Q8 x0).1, (Q8 x0).2.1, y39, y43, (Q12 x0).1, y30, y48, (Q12 x0).2.2.2.1, y34) a28 c29 a41 c42 a45 c46 a32 c33 a50 c51 a36 c37) .nil) ⟨V, (Bs E E)⟩ E E ?_))
  cases h
  exact JS.ret ttOk (a28, c29, a41, c42, a45, c46, a32, c33, a50, c51, a36, c37) V E E [5, 2, 1, 2, 0, 0] E

def M_i_settled (x0 : EdQ) (x1 : Int) : Option EdQ :=
  (bindO (M_i_copyEd x0) fun (y27 : EdQ) =>
  some (y27.1, y27.2.1, y27.2.2.1, 0, 0, 0, 0, y27.2.2.2.2.2.2.2.1, y27.2.2.2.2.2.2.2.2.1, x1, y27.2.2.2.2.2.2.2.2.2.2.1, y27.2.2.2.2.2.2.2.2.2.2.2.1, y27.2.2.2.2.2.2.2.2.2.2.2.2.1, y27.2.2.2.2.2.2.2.2.2.2.2.2.2.1, y27.2.2.2.2.2.2.2.2.2.2.2.2.2.2.1, y27.2.2.2.2.2.2.2.2.2.2.2.2.2.2.2.1, y27.2.2.2.2.2.2.2.2.2.2.2.2.2.2.2.2))

theorem ok_i_settled (x0 : EdQ) (x1 : Int) (a3 : Option Addr) (c4 : Nat) (l5 : Nat) (hl6 : x0.2.2.1.1.length = l5) (a7 : Option Addr) (c8 : Nat) (l9 : Nat) (hl10 : (Q8 x0).2.2.1.length = l9) (a11 : Option Addr) (c12 : Nat) (l13 : Nat) (hl14 : (Q8 x0).2.2.2.1.length = l13) (a15 : Option Addr) (c16 : Nat) (l17 : Nat) (hl18 : (Q12 x0).2.1.1.length = l17) (a19 : Option Addr) (c20 : Nat) (l21 : Nat) (hl22 : (Q12 x0).2.2.1.length = l21) (a23 : Option Addr) (c24 : Nat) (l25 : Nat) (hl26 : (Q16 x0).1.length = l25) (r : EdQ) (h : M_i_settled x0 x1 = some r) :
  FC Tryz.prog 209 [.agg #[.bool x0.1, .int .i64 x0.2.1, .slice a3 l5 c4, .int .i64 x0.2.2.1.2, .int .i64 x0.2.2.2.1, .int .i64 (Q4 x0).1, .int .i64 (Q4 x0).2.1, .int .i64 (Q4 x0).2.2.1, .int .i64 (Q4 x0).2.2.2.1, .int .i64 (Q8 x0).1, .int .i64 (Q8 x0).2.1, .slice a7 l9 c8, .slice a11 l13 c12, .int .i64 (Q12 x0).1, .slice a15 l17 c16, .int .i64 (Q12 x0).2.1.2, .slice a19 l21 c20, .int .i64 (Q12 x0).2.2.2.1, .slice a23 l25 c24, .int .i64 (Q16 x0).2], .int .i64 x1] [⟨(.int .i64), ⟨a3, l5, c4⟩, x0.2.2.1.1⟩, ⟨(.sl (.int .i64)), ⟨a7, l9, c8⟩, (Q8 x0).2.2.1⟩, ⟨(.pair (.sl (.int .i64)) (.int .i64)), ⟨a11, l13, c12⟩, (Q8 x0).2.2.2.1⟩, ⟨(.int .i64), ⟨a15, l17, c16⟩, (Q12 x0).2.1.1⟩, ⟨(.int .i64), ⟨a19, l21, c20⟩, (Q12 x0).2.2.1⟩, ⟨(.int .i64), ⟨a23, l25, c24⟩, (Q16 x0).1⟩] (fun _ : Option Addr × Nat × Option Addr × Nat × Option Addr × Nat × Option Addr × Nat × Option Addr × Nat × Option Addr × Nat => True) (fun q => .agg (cl46 r q.1 q.2.1 q.2.2.1 q.2.2.2.1 (Q4 q).1 (Q4 q).2.1 (Q4 q).2.2.1 (Q4 q).2.2.2.1 (Q8 q).1 (Q8 q).2.1 (Q8 q).2.2.1 (Q8 q).2.2.2).toArray) (fun q => (fl32 r q.1 q.2.1 q.2.2.1 q.2.2.2.1 (Q4 q).1 (Q4 q).2.1 (Q4 q).2.2.1 (Q4 q).2.2.2.1 (Q8 q).1 (Q8 q).2.1 (Q8 q).2.2.1 (Q8 q).2.2.2 [])) :=
 by
  subst hl6
  subst hl10
  subst hl14
  subst hl18
  subst hl22
  subst hl26
  refine FC.of (T := TTx) Tryz.call209 Tryz.func209 E E fun w0 => ?_
  unfold M_i_settled at h
  refine JS.rgB ttOk 2 [] [7, 8] [(2, .bp 7 0), (4, .bp 8 0)] (.new 7 46 (cl46 x0 a3 c4 a7 c8 a11 c12 a15 c16 a19 c20 a23 c24) (.new 8 46 cz46 .nil)) ⟨(Es E), (Bs E E)⟩ E E (JS.seq (JS.region (JO.reg ttOk 1 [] [] [(6, .v (.agg (cl46 x0 a3 c4 a7 c8 a11 c12 a15 c16 a19 c20 a23 c24).toArray))] _ E ⟨⟨E, V⟩, E⟩ ?_)))
  obtain ⟨y27, hy28, h⟩ := bindO_some h
  refine JO.call E E E E (ok_i_copyEd x0 a3 c4 x0.2.2.1.1.length E a7 c8 (Q8 x0).2.2.1.length E a11 c12 (Q8 x0).2.2.2.1.length E a15 c16 (Q12 x0).2.1.1.length E a19 c20 (Q12 x0).2.2.1.length E a23 c24 (Q16 x0).1.length E _ hy28) E [0, 1, 2, 3, 4, 5] E E ?_
  rintro ⟨a29, c30, a31, c32, a33, c34, a35, c36, a37, c38, a39, c40⟩ -
  refine JO.regB ttOk 2 [] [29] [(5, .bp 29 0)] (.new 8 46 cz46 (.new 29 46 (cl46 y27 a29 c30 a31 c32 a33 c34 a35 c36 a37 c38 a39 c40) .nil)) E ⟨⟨E, V⟩, (Bs E E)⟩ (JO.done E (JS.rgB ttOk 11 [] [] [] (.new 8 46 cz46 (.new 29 46 (cl46 (y27.1, y27.2.1, y27.2.2.1, 0, 0, 0, 0, (Q4 y27).2.2.2.1, (Q8 y27).1, x1, (Q8 y27).2.2.1, (Q8 y27).2.2.2.1, (Q12 y27).1, (Q12 y27).2.1, (Q12 y27).2.2.1, (Q12 y27).2.2.2.1, (Q16 y27)) a29 c30 a31 c32 a33 c34 a35 c36 a37 c38 a39 c40) .nil)) ⟨V, (Bs E E)⟩ E E (JS.rgB ttOk 2 [] [] [] (.new 8 46 (cl46 (y27.1, y27.2.1, y27.2.2.1, 0, 0, 0, 0, (Q4 y27).2.2.2.1, (Q8 y27).1, x1, (Q8 y27).2.2.1, (Q8 y27).2.2.2.1, (Q12 y27).1, (Q12 y27).2.1, (Q12 y27).2.2.1, (Q12 y27).2.2.2.1, (Q16 y27)) a29 c30 a31 c32 a33 c34 a35 c36 a37 c38 a39 c40) .nil) ⟨V, (Bs E E)⟩ E E ?_)))
  cases h
  exact JS.ret ttOk (a29, c30, a31, c32, a33, c34, a35, c36, a37, c38, a39, c40) V E E [0, 0, 0, 0, 0, 0] E

def M_i_HistLast (x0 : Int × List (List UInt8)) : Option Int :=
  (bindO (M_i_HistOk x0) fun (y6 : Bool) =>
  (bif (bif (!y6) then true else (decide ((x0.2.length : Int) = 0))) then
  some 0
  else
  some (W ((W (x0.1 + (x0.2.length : Int))) - 1))))

theorem ok_i_HistLast (x0 : Int × List (List UInt8)) (a2 : Option Addr) (c3 : Nat) (l4 : Nat) (hl5 : x0.2.length = l4) (r : Int) (h : M_i_HistLast x0 = some r) :
  FC Tryz.prog 156 [.agg #[.int .i64 x0.1, .slice a2 l4 c3]] [⟨.str, ⟨a2, l4, c3⟩, x0.2⟩] (fun _ : Unit => True) (fun _ => .int .i64 r) (fun _ => []) :=
 by
  subst hl5
  refine FC.of (T := TTx) Tryz.call156 Tryz.func156 E E fun w0 => ?_
  unfold M_i_HistLast at h
  refine JS.rgB ttOk 2 [] [2] [(1, .bp 2 0)] (.new 2 50 [.int .i64 x0.1, .slice a2 x0.2.length c3] .nil) ⟨⟨E, V⟩, (Bs E E)⟩ E E (JS.seq (JS.seq (JS.region (JO.reg ttOk 1 [] [] [(3, .v (.agg #[.int .i64 x0.1, .slice a2 x0.2.length c3]))] _ E ⟨⟨E, V⟩, E⟩ ?_))))
  obtain ⟨y6, hy7, h⟩ := bindO_some h
  refine JO.call E E E E (ok_i_HistOk x0 a2 c3 x0.2.length E _ hy7) E [0] E E fun _ _ => JO.reg ttOk 7 [] [] [(11, .v (.bool (bif (!y6) then true else (decide ((x0.2.length : Int) = 0)))))] _ E ⟨⟨E, V⟩, E⟩ (JO.done E ?_)
  refine JS.cond E (fun ht9 => ?_) (fun ht9 => ?_)
  ·
   have h := condT h ht9
   refine JS.rg0 ttOk 1 [(2, .v (I 0))] ⟨⟨E, V⟩, E⟩ E E ?_
   cases h
   exact JS.ret ttOk () V E E [] E
  have h := condF h ht9
  refine JS.skip (JS.rg ttOk 8 [(W (x0.1 + (x0.2.length : Int))), (W ((W (x0.1 + (x0.2.length : Int))) - 1))] [] [(2, .v (I (W ((W (x0.1 + (x0.2.length : Int))) - 1))))] _ ⟨⟨V, E⟩, ⟨V, E⟩, ⟨E, V⟩, E⟩ E E ?_)
  cases h
  exact JS.ret ttOk () V E E [] E

def M_i_inCommand (x0 : List Int × Int) (x1 : Int) : Option (List Int × Int) :=
  (joinO (fun (x11 : Int) =>
  some (x0.1, x11)) fun j12 =>
  (callO ((decide (x1 = 2)) = true) (M_i_isAtEnd x0) false fun (y7 : Bool) =>
  (bif (bif (decide (x1 = 2)) then y7 else false) then
  j12 (W (x0.2 - 1))
  else
  j12 x0.2)))

theorem ok_i_inCommand (x0 : List Int × Int) (x1 : Int) (a3 : Option Addr) (c4 : Nat) (l5 : Nat) (hl6 : x0.1.length = l5) (r : List Int × Int) (h : M_i_inCommand x0 x1 = some r) :
  FC Tryz.prog 158 [.agg #[.slice a3 l5 c4, .int .i64 x0.2], .int .i64 x1] [⟨(.int .i64), ⟨a3, l5, c4⟩, x0.1⟩] (fun _ : Unit => True) (fun _ => .agg #[.slice a3 l5 c4, .int .i64 r.2]) (fun _ => []) :=
 by
  subst hl6
  refine FC.of (T := TTx) Tryz.call158 Tryz.func158 E E fun w0 => ?_
  unfold M_i_inCommand at h
  refine JS.rgB ttOk 2 [] [2, 3] [(2, .bp 2 0), (4, .bp 3 0)] (.new 2 38 [.slice a3 x0.1.length c4, .int .i64 x0.2] (.new 3 38 [.slice none 0 0, .int .i64 0] .nil)) ⟨(Es E), (Bs E E)⟩ E E ?_
  obtain ⟨j12, hj18, h⟩ := joinO_some h
  refine JS.seqJ (ι := Int) ⟨fun z => j12 z = some r, fun z => [(2, .bp 2 0), (4, .bp 3 0)], fun z => (.new 2 38 [.slice a3 x0.1.length c4, .int .i64 z] (.new 3 38 [.slice none 0 0, .int .i64 0] .nil)), fun z => [⟨(.int .i64), ⟨a3, x0.1.length, c4⟩, x0.1⟩], fun z => [], fun z => 0⟩ ?_ ?_
  ·
   refine JS.seq (JS.region (JO.reg ttOk 4 [] [] [(7, .v (.bool (decide (x1 = 2)))), (8, .cd [(7, true)] (.v (.agg #[.slice a3 x0.1.length c4, .int .i64 x0.2])))] _ E ⟨(Es E), E⟩ ?_))
   obtain ⟨y7, hy8, -, h⟩ := callO_some h
   refine JO.callg E E E E (fun q16 => ok_i_isAtEnd x0 a3 c4 x0.1.length E _ (hy8 q16)) E [0] E E (JO.reg ttOk 1 [] [] [(10, .v (.bool (bif (decide (x1 = 2)) then y7 else false)))] _ E ⟨⟨E, V⟩, E⟩ (JO.done E ?_))
   refine JS.cond E (fun ht17 => ?_) (fun ht17 => ?_)
   ·
    have h := condT h ht17
    refine JS.reB ttOk 5 [(W (x0.2 - 1))] [] [] (.new 2 38 [.slice a3 x0.1.length c4, .int .i64 (W (x0.2 - 1))] (.new 3 38 [.slice none 0 0, .int .i64 0] .nil)) ⟨⟨V, E⟩, V, (Bs E E)⟩ E E (JS.endJ (W (x0.2 - 1)) h (Es E) (Bs E E) [0] E [] E)
   have h := condF h ht17
   refine JS.skip (JS.endJ x0.2 h (Es E) (Bs E E) [0] E [] E)
  rintro x11 h
  subst hj18
  refine JS.rgB ttOk 2 [] [] [] (.new 3 38 [.slice a3 x0.1.length c4, .int .i64 x11] .nil) ⟨V, (Bs E E)⟩ E E ?_
  cases h
  exact JS.ret ttOk () V E E [] E

def M_i_HistGet (x0 : Int × List (List UInt8)) (x1 : Int) : Option (List UInt8 × Bool) :=
  (bindO (M_i_HistOk x0) fun (y7 : Bool) =>
  (callO ((!y7) = false) (M_i_in x1 x0.1 (W ((W (x0.1 + (x0.2.length : Int))) - 1))) false fun (y11 : Bool) =>
  (bif (bif (!y7) then true else (!y11)) then
  some ([], false)
  else
  (guardO (0 ≤ (W (x1 - x0.1)) ∧ (W (x1 - x0.1)) < (x0.2.length : Int)) <|
  some ((at' x0.2 (W (x1 - x0.1))), true)))))

theorem ok_i_HistGet (x0 : Int × List (List UInt8)) (x1 : Int) (a3 : Option Addr) (c4 : Nat) (l5 : Nat) (hl6 : x0.2.length = l5) (r : List UInt8 × Bool) (h : M_i_HistGet x0 x1 = some r) :
  FC Tryz.prog 58 [.agg #[.int .i64 x0.1, .slice a3 l5 c4], .int .i64 x1] [⟨.str, ⟨a3, l5, c4⟩, x0.2⟩] (fun _ : Unit => True) (fun _ => .tuple #[.string (bs r.1), .bool r.2]) (fun _ => []) :=
 by
  subst hl6
  refine FC.of (T := TTx) Tryz.call58 Tryz.func58 E E fun w0 => ?_
  unfold M_i_HistGet at h
  refine JS.rgB ttOk 3 [] [2] [(2, .bp 2 0)] (.new 2 50 [.int .i64 x0.1, .slice a3 x0.2.length c4] .nil) ⟨⟨E, V⟩, (Bs E E)⟩ E E (JS.seq (JS.seq (JS.region (JO.reg ttOk 1 [] [] [(6, .v (.agg #[.int .i64 x0.1, .slice a3 x0.2.length c4]))] _ E ⟨⟨E, V⟩, E⟩ ?_))))
  obtain ⟨y7, hy8, h⟩ := bindO_some h
  refine JO.call E E E E (ok_i_HistOk x0 a3 c4 x0.2.length E _ hy8) E [0] E E fun _ _ => JO.reg ttOk 12 [(W (x0.1 + (x0.2.length : Int))), (W ((W (x0.1 + (x0.2.length : Int))) - 1))] [] [(9, .v (.bool (!y7))), (10, .cd [(9, false)] (.v (I x1))), (12, .cd [(9, false)] (.v (I x0.1))), (19, .cd [(9, false)] (.v (I (W ((W (x0.1 + (x0.2.length : Int))) - 1)))))] _ E ⟨(fun q17 => ⟨V, E⟩), (fun q18 => ⟨V, E⟩), (Es E), E⟩ ?_
  obtain ⟨y11, hy12, -, h⟩ := callO_some h
  refine JO.callg E E E E (fun q19 => ok_i_in x1 x0.1 (W ((W (x0.1 + (x0.2.length : Int))) - 1)) _ (hy12 q19)) E [] E E (JO.reg ttOk 2 [] [] [(22, .v (.bool (bif (!y7) then true else (!y11))))] _ E ⟨⟨E, V⟩, E⟩ (JO.done E ?_))
  refine JS.cond E (fun ht21 => ?_) (fun ht21 => ?_)
  ·
   have h := condT h ht21
   refine JS.rg0 ttOk 2 [(4, .v (.string (bs []))), (5, .v (.bool false))] ⟨(Es E), E⟩ E E ?_
   cases h
   exact JS.ret ttOk () V E E [] E
  have h := condF h ht21
  refine JS.skip (JS.seq (JS.region (JO.know 0 E fun hs20 => ?_)))
  obtain ⟨g15, h⟩ := guardO_some h
  refine JO.reg ttOk 7 [(W (x1 - x0.1))] [] [(29, .ep ⟨a3, x0.2.length, c4⟩ (Int.toNat (W (x1 - x0.1)) * 1))] _ E ⟨⟨V, E⟩, hs20.ix g15, ⟨E, V⟩, E⟩ (JO.load ttOk E E E E E E E 0 E E (Int.toNat (W (x1 - x0.1))) 0 (at' x0.2 (W (x1 - x0.1))) ⟨at_some g15, E⟩ E E (JO.reg ttOk 2 [] [] [(4, .v (.string (bs (at' x0.2 (W (x1 - x0.1)))))), (5, .v (.bool true))] _ E ⟨(Es E), E⟩ (JO.done E ?_)))
  cases h
  exact JS.ret ttOk () V E E [] E

def M_i_RuneBytes (x0 : Int) : Option (List UInt8) :=
  (bindO (M_i_RuneOk x0) fun (y2 : Bool) =>
  (bif (!y2) then
  some ([])
  else
  (bif (decide (x0 < 128)) then
  some ([(u8 (x0))] : List UInt8)
  else
  (bif (decide (x0 < 2048)) then
  some ([(u8 ((W (192 + (W (Int.tdiv x0 64)))))), (u8 ((W (128 + (Int.tmod x0 64)))))] : List UInt8)
  else
  (bif (decide (x0 < 65536)) then
  some ([(u8 ((W (224 + (W (Int.tdiv x0 4096)))))), (u8 ((W (128 + (Int.tmod (W (Int.tdiv x0 64)) 64))))), (u8 ((W (128 + (Int.tmod x0 64)))))] : List UInt8)
  else
  some ([(u8 ((W (240 + (W (Int.tdiv x0 262144)))))), (u8 ((W (128 + (Int.tmod (W (Int.tdiv x0 4096)) 64))))), (u8 ((W (128 + (Int.tmod (W (Int.tdiv x0 64)) 64))))), (u8 ((W (128 + (Int.tmod x0 64)))))] : List UInt8))))))

theorem ok_i_RuneBytes (x0 : Int) (r : List UInt8) (h : M_i_RuneBytes x0 = some r) :
  FC Tryz.prog 143 [.int .i64 x0] [] (fun _ : Option Addr × Nat => True) (fun q => .slice q.1 r.length q.2) (fun q => [⟨.byte, ⟨q.1, r.length, q.2⟩, r⟩]) :=
 by
  refine FC.of (T := TTx) Tryz.call143 Tryz.func143 E E fun w0 => ?_
  unfold M_i_RuneBytes at h
  refine JS.rg0 ttOk 1 [] ⟨V, E⟩ E E (JS.seq (JS.block (JS.seq (JS.region (JO.reg ttOk 1 [] [] [(4, .v (I x0))] _ E ⟨⟨E, V⟩, E⟩ ?_)))))
  obtain ⟨y2, hy3, h⟩ := bindO_some h
  refine JO.call E E E E (ok_i_RuneOk x0 _ hy3) E [] E E fun _ _ => JO.reg ttOk 2 [] [] [(3, .v (.bool (!y2)))] _ E ⟨⟨E, V⟩, E⟩ (JO.done E ?_)
  refine JS.cond E (fun ht27 => ?_) (fun ht27 => ?_)
  ·
   have h := condT h ht27
   refine JS.rg0 ttOk 1 [(2, .v (.slice none 0 0))] ⟨⟨E, V⟩, E⟩ E E ?_
   cases h
   refine JS.nilO .byte Sl.nil E E (JS.ret ttOk (none, 0) V E E [0] E)
  have h := condF h ht27
  refine JS.rg0 ttOk 3 [(7, .v (.bool (decide (x0 < 128))))] ⟨⟨E, V⟩, E⟩ E E ?_
  refine JS.cond E (fun ht26 => ?_) (fun ht26 => ?_)
  ·
   have h := condT h ht26
   refine JS.seq (JS.region (JO.reg ttOk 2 [((u8 (x0)).toNat : Int)] [] [(11, .v (.int .u8 ((u8 (x0)).toNat : Int)))] _ E ⟨⟨V, u8_wrap _⟩, ⟨E, V⟩, E⟩ ?_))
   refine JO.ofK E (JK.buildSlice ttOk E E E E E E E E E E E [] E .byte [(u8 (x0))] ⟨E, E⟩ E E fun a4 => JO.toK ?_)
   refine JO.reg ttOk 1 [] [] [(2, .v (.slice a4 ([(u8 (x0))] : List UInt8).length ([(u8 (x0))] : List UInt8).length))] _ E ⟨⟨E, V⟩, E⟩ (JO.done E ?_)
   cases h
   exact JS.ret ttOk (a4, ([(u8 (x0))] : List UInt8).length) V E E [0] E
  have h := condF h ht26
  refine JS.rg0 ttOk 3 [(13, .v (.bool (decide (x0 < 2048))))] ⟨⟨E, V⟩, E⟩ E E ?_
  refine JS.cond E (fun ht25 => ?_) (fun ht25 => ?_)
  ·
   have h := condT h ht25
   refine JS.seq (JS.region ?_)
   have g5 : (64 : Int) ≠ 0 := by decide
   have g6 : (64 : Int) ≠ 0 := by decide
   refine JO.reg ttOk 8 [(W (Int.tdiv x0 64)), (W (192 + (W (Int.tdiv x0 64)))), ((u8 ((W (192 + (W (Int.tdiv x0 64)))))).toNat : Int), (W (128 + (Int.tmod x0 64))), ((u8 ((W (128 + (Int.tmod x0 64))))).toNat : Int)] [] [(19, .v (.int .u8 ((u8 ((W (192 + (W (Int.tdiv x0 64)))))).toNat : Int))), (23, .v (.int .u8 ((u8 ((W (128 + (Int.tmod x0 64))))).toNat : Int)))] _ E ⟨⟨g5, E⟩, ⟨V, E⟩, ⟨V, u8_wrap _⟩, g6, ⟨V, E⟩, ⟨V, u8_wrap _⟩, (Es E), E⟩ ?_
   refine JO.ofK E (JK.buildSlice ttOk E E E E E E E E E E E [] E .byte [(u8 ((W (192 + (W (Int.tdiv x0 64)))))), (u8 ((W (128 + (Int.tmod x0 64)))))] ⟨E, E⟩ E E fun a7 => JO.toK ?_)
   refine JO.reg ttOk 1 [] [] [(2, .v (.slice a7 ([(u8 ((W (192 + (W (Int.tdiv x0 64)))))), (u8 ((W (128 + (Int.tmod x0 64)))))] : List UInt8).length ([(u8 ((W (192 + (W (Int.tdiv x0 64)))))), (u8 ((W (128 + (Int.tmod x0 64)))))] : List UInt8).length))] _ E ⟨⟨E, V⟩, E⟩ (JO.done E ?_)
   cases h
   exact JS.ret ttOk (a7, ([(u8 ((W (192 + (W (Int.tdiv x0 64)))))), (u8 ((W (128 + (Int.tmod x0 64)))))] : List UInt8).length) V E E [0] E
  have h := condF h ht25
  refine JS.rg0 ttOk 3 [(25, .v (.bool (decide (x0 < 65536))))] ⟨⟨E, V⟩, E⟩ E E ?_
  refine JS.cond E (fun ht24 => ?_) (fun ht24 => ?_)
  ·
   have h := condT h ht24
   refine JS.seq (JS.region ?_)
   have g8 : (4096 : Int) ≠ 0 := by decide
   have g9 : (64 : Int) ≠ 0 := by decide
   have g10 : (64 : Int) ≠ 0 := by decide
   have g11 : (64 : Int) ≠ 0 := by decide
   refine JO.reg ttOk 13 [(W (Int.tdiv x0 4096)), (W (224 + (W (Int.tdiv x0 4096)))), ((u8 ((W (224 + (W (Int.tdiv x0 4096)))))).toNat : Int), (W (Int.tdiv x0 64)), (W (128 + (Int.tmod (W (Int.tdiv x0 64)) 64))), ((u8 ((W (128 + (Int.tmod (W (Int.tdiv x0 64)) 64))))).toNat : Int), (W (128 + (Int.tmod x0 64))), ((u8 ((W (128 + (Int.tmod x0 64))))).toNat : Int)] [] [(31, .v (.int .u8 ((u8 ((W (224 + (W (Int.tdiv x0 4096)))))).toNat : Int))), (36, .v (.int .u8 ((u8 ((W (128 + (Int.tmod (W (Int.tdiv x0 64)) 64))))).toNat : Int))), (40, .v (.int .u8 ((u8 ((W (128 + (Int.tmod x0 64))))).toNat : Int)))] _ E ⟨⟨g8, E⟩, ⟨V, E⟩, ⟨V, u8_wrap _⟩, ⟨g9, E⟩, g10, ⟨V, E⟩, ⟨V, u8_wrap _⟩, g11, ⟨V, E⟩, ⟨V, u8_wrap _⟩, (Es E), E⟩ ?_
   refine JO.ofK E (JK.buildSlice ttOk E E E E E E E E E E E [] E .byte [(u8 ((W (224 + (W (Int.tdiv x0 4096)))))), (u8 ((W (128 + (Int.tmod (W (Int.tdiv x0 64)) 64))))), (u8 ((W (128 + (Int.tmod x0 64)))))] ⟨E, E⟩ E E fun a12 => JO.toK ?_)
   refine JO.reg ttOk 1 [] [] [(2, .v (.slice a12 ([(u8 ((W (224 + (W (Int.tdiv x0 4096)))))), (u8 ((W (128 + (Int.tmod (W (Int.tdiv x0 64)) 64))))), (u8 ((W (128 + (Int.tmod x0 64)))))] : List UInt8).length ([(u8 ((W (224 + (W (Int.tdiv x0 4096)))))), (u8 ((W (128 + (Int.tmod (W (Int.tdiv x0 64)) 64))))), (u8 ((W (128 + (Int.tmod x0 64)))))] : List UInt8).length))] _ E ⟨⟨E, V⟩, E⟩ (JO.done E ?_)
   cases h
   exact JS.ret ttOk (a12, ([(u8 ((W (224 + (W (Int.tdiv x0 4096)))))), (u8 ((W (128 + (Int.tmod (W (Int.tdiv x0 64)) 64))))), (u8 ((W (128 + (Int.tmod x0 64)))))] : List UInt8).length) V E E [0] E
  have h := condF h ht24
  refine JS.skip (JS.endB (JS.seq (JS.region ?_)))
  have g13 : (262144 : Int) ≠ 0 := by decide
  have g14 : (4096 : Int) ≠ 0 := by decide
  have g15 : (64 : Int) ≠ 0 := by decide
  have g16 : (64 : Int) ≠ 0 := by decide
  have g17 : (64 : Int) ≠ 0 := by decide
  have g18 : (64 : Int) ≠ 0 := by decide
  refine JO.reg ttOk 18 [(W (Int.tdiv x0 262144)), (W (240 + (W (Int.tdiv x0 262144)))), ((u8 ((W (240 + (W (Int.tdiv x0 262144)))))).toNat : Int), (W (Int.tdiv x0 4096)), (W (128 + (Int.tmod (W (Int.tdiv x0 4096)) 64))), ((u8 ((W (128 + (Int.tmod (W (Int.tdiv x0 4096)) 64))))).toNat : Int), (W (Int.tdiv x0 64)), (W (128 + (Int.tmod (W (Int.tdiv x0 64)) 64))), ((u8 ((W (128 + (Int.tmod (W (Int.tdiv x0 64)) 64))))).toNat : Int), (W (128 + (Int.tmod x0 64))), ((u8 ((W (128 + (Int.tmod x0 64))))).toNat : Int)] [] [(45, .v (.int .u8 ((u8 ((W (240 + (W (Int.tdiv x0 262144)))))).toNat : Int))), (50, .v (.int .u8 ((u8 ((W (128 + (Int.tmod (W (Int.tdiv x0 4096)) 64))))).toNat : Int))), (55, .v (.int .u8 ((u8 ((W (128 + (Int.tmod (W (Int.tdiv x0 64)) 64))))).toNat : Int))), (59, .v (.int .u8 ((u8 ((W (128 + (Int.tmod x0 64))))).toNat : Int)))] _ E ⟨⟨g13, E⟩, ⟨V, E⟩, ⟨V, u8_wrap _⟩, ⟨g14, E⟩, g15, ⟨V, E⟩, ⟨V, u8_wrap _⟩, ⟨g16, E⟩, g17, ⟨V, E⟩, ⟨V, u8_wrap _⟩, g18, ⟨V, E⟩, ⟨V, u8_wrap _⟩, (Es E), E⟩ ?_
  refine JO.ofK E (JK.buildSlice ttOk E E E E E E E E E E E [] E .byte [(u8 ((W (240 + (W (Int.tdiv x0 262144)))))), (u8 ((W (128 + (Int.tmod (W (Int.tdiv x0 4096)) 64))))), (u8 ((W (128 + (Int.tmod (W (Int.tdiv x0 64)) 64))))), (u8 ((W (128 + (Int.tmod x0 64)))))] ⟨E, E⟩ E E fun a19 => JO.toK ?_)
  refine JO.reg ttOk 1 [] [] [(2, .v (.slice a19 ([(u8 ((W (240 + (W (Int.tdiv x0 262144)))))), (u8 ((W (128 + (Int.tmod (W (Int.tdiv x0 4096)) 64))))), (u8 ((W (128 + (Int.tmod (W (Int.tdiv x0 64)) 64))))), (u8 ((W (128 + (Int.tmod x0 64)))))] : List UInt8).length ([(u8 ((W (240 + (W (Int.tdiv x0 262144)))))), (u8 ((W (128 + (Int.tmod (W (Int.tdiv x0 4096)) 64))))), (u8 ((W (128 + (Int.tmod (W (Int.tdiv x0 64)) 64))))), (u8 ((W (128 + (Int.tmod x0 64)))))] : List UInt8).length))] _ E ⟨⟨E, V⟩, E⟩ (JO.done E ?_)
  cases h
  exact JS.ret ttOk (a19, ([(u8 ((W (240 + (W (Int.tdiv x0 262144)))))), (u8 ((W (128 + (Int.tmod (W (Int.tdiv x0 4096)) 64))))), (u8 ((W (128 + (Int.tmod (W (Int.tdiv x0 64)) 64))))), (u8 ((W (128 + (Int.tmod x0 64)))))] : List UInt8).length) V E E [0] E

def M_i_RuneRead_L1 (x0 : List UInt8) (x1 : Int) (x19 : Int) (j39 : Int → Option (Int × Int)) (k34 : (Int × Int) → Option (Int × Int)) : (Int × Int) → Option (Int × Int) := fun (x29, x30) =>
  (bif (decide (x30 < ((sub' x0 (W (x1 + 1)) (W (x1 + x19))).length : Int))) then
  (guardO (0 ≤ x30 ∧ x30 < ((sub' x0 (W (x1 + 1)) (W (x1 + x19))).length : Int)) <|
  k34 ((W ((W ((W (x29 * 64)) + ((at' (sub' x0 (W (x1 + 1)) (W (x1 + x19))) x30).toNat : Int))) - 128)), (W (x30 + 1))))
  else
  j39 x29)

def M_i_RuneRead (x0 : List UInt8) (x1 : Int) : Option (Int × Int) :=
  (bif (bif (decide (x1 < 0)) then true else (decide ((x0.length : Int) ≤ x1))) then
  some (0, 0)
  else
  (guardO (0 ≤ x1 ∧ x1 < (x0.length : Int)) <|
  (joinO (fun ((x19, x20) : Int × Int) =>
  (bif (decide ((W ((x0.length : Int) - x19)) < x1)) then
  some (0, 0)
  else
  (guardO (0 ≤ (W (x1 + 1)) ∧ (W (x1 + 1)) ≤ (W (x1 + x19)) ∧ (W (x1 + x19)) ≤ (x0.length : Int)) <|
  (joinO (fun (x38 : Int) =>
  (bindO (M_i_RuneBytes x38) fun (y42 : List UInt8) =>
  (guardO (0 ≤ x1 ∧ x1 ≤ (W (x1 + x19)) ∧ (W (x1 + x19)) ≤ (x0.length : Int)) <|
  (bif (!(decide (y42 = (sub' x0 x1 (W (x1 + x19)))))) then
  some (0, 0)
  else
  some (x38, x19))))) fun j39 =>
  (fixF (M_i_RuneRead_L1 x0 x1 x19 j39) FUEL (x20, 0)))))) fun j21 =>
  (bif (decide (((at' x0 x1).toNat : Int) < 128)) then
  some (((at' x0 x1).toNat : Int), 1)
  else
  (bindO (M_i_in ((at' x0 x1).toNat : Int) 192 223) fun (y9 : Bool) =>
  (bif y9 then
  j21 (2, (W (((at' x0 x1).toNat : Int) - 192)))
  else
  (bindO (M_i_in ((at' x0 x1).toNat : Int) 224 239) fun (y11 : Bool) =>
  (bif y11 then
  j21 (3, (W (((at' x0 x1).toNat : Int) - 224)))
  else
  (bindO (M_i_in ((at' x0 x1).toNat : Int) 240 247) fun (y13 : Bool) =>
  (bif y13 then
  j21 (4, (W (((at' x0 x1).toNat : Int) - 240)))
  else
  some (0, 0)))))))))))

theorem ok_i_RuneRead (x0 : List UInt8) (x1 : Int) (a3 : Option Addr) (c4 : Nat) (l5 : Nat) (hl6 : x0.length = l5) (r : Int × Int) (h : M_i_RuneRead x0 x1 = some r) :
  FC Tryz.prog 144 [.slice a3 l5 c4, .int .i64 x1] [⟨.byte, ⟨a3, l5, c4⟩, x0⟩] (fun _ : Unit => True) (fun _ => .tuple #[.int .i64 r.1, .int .i64 r.2]) (fun _ => []) :=
 by
  subst hl6
  refine FC.of (T := TTx) Tryz.call144 Tryz.func144 E E fun w0 => ?_
  unfold M_i_RuneRead at h
  refine JS.rg0 ttOk 2 [] ⟨V, E⟩ E E (JS.seq (JS.rg0 ttOk 8 [(18, .v (.bool (bif (decide (x1 < 0)) then true else (decide ((x0.length : Int) ≤ x1)))))] ⟨⟨E, V⟩, E⟩ E E ?_))
  refine JS.cond E (fun ht73 => ?_) (fun ht73 => ?_)
  ·
   have h := condT h ht73
   refine JS.rg0 ttOk 2 [(4, .v (I 0)), (5, .v (I 0))] ⟨(Es E), E⟩ E E ?_
   cases h
   exact JS.ret ttOk () V E E [] E
  have h := condF h ht73
  refine JS.skip (JS.seq (JS.region (JO.know 0 E fun hs59 => ?_)))
  obtain ⟨g8, h⟩ := guardO_some h
  refine JO.reg ttOk 3 [] [] [(21, .ep ⟨a3, x0.length, c4⟩ (Int.toNat x1 * 1))] _ E ⟨hs59.ix g8, ⟨E, V⟩, E⟩ (JO.load ttOk E E E E E E E 0 E E (Int.toNat x1) 0 (at' x0 x1) ⟨at_some g8, E⟩ E E (JO.reg ttOk 2 [((at' x0 x1).toNat : Int)] [] [(6, .v (I ((at' x0 x1).toNat : Int)))] _ E ⟨⟨V, W_byte _⟩, ⟨E, V⟩, E⟩ (JO.done E (JS.rg0 ttOk 2 [] ⟨V, E⟩ E E (JS.seq ?_)))))
  obtain ⟨j21, hj72, h⟩ := joinO_some h
  refine JS.blockJ (ι := Int × Int) ⟨fun z => j21 (z.1, z.2) = some r, fun z => [(0, .v (.slice a3 x0.length c4)), (1, .v (I x1)), (7, .v (I z.1)), (8, .v (I z.2))], fun z => .nil, fun z => [⟨.byte, ⟨a3, x0.length, c4⟩, x0⟩], fun z => [], fun z => 0⟩ ?_ ?_
  ·
   refine JS.rg0 ttOk 3 [(24, .v (.bool (decide (((at' x0 x1).toNat : Int) < 128))))] ⟨⟨E, V⟩, E⟩ E E ?_
   refine JS.cond E (fun ht63 => ?_) (fun ht63 => ?_)
   ·
    have h := condT h ht63
    refine JS.rg0 ttOk 3 [(4, .v (I ((at' x0 x1).toNat : Int))), (5, .v (I 1))] ⟨(Es E), E⟩ E E ?_
    cases h
    exact JS.ret ttOk () V E E [] E
   have h := condF h ht63
   refine JS.seq (JS.region (JO.reg ttOk 1 [] [] [(29, .v (I ((at' x0 x1).toNat : Int)))] _ E ⟨⟨E, V⟩, E⟩ ?_))
   obtain ⟨y9, hy10, h⟩ := bindO_some h
   refine JO.call E E E E (ok_i_in ((at' x0 x1).toNat : Int) 192 223 _ hy10) E [] E E fun _ _ => JO.reg ttOk 1 [] [] [(28, .v (.bool y9))] _ E ⟨⟨E, V⟩, E⟩ (JO.done E ?_)
   refine JS.cond E (fun ht62 => ?_) (fun ht62 => ?_)
   ·
    have h := condT h ht62
    refine JS.re ttOk 4 [(W (((at' x0 x1).toNat : Int) - 192))] [] [(7, .v (I 2)), (8, .v (I (W (((at' x0 x1).toNat : Int) - 192))))] _ ⟨⟨V, E⟩, (Es E), E⟩ E E (JS.endB (JS.endJ (2, (W (((at' x0 x1).toNat : Int) - 192))) h (Es E) V [0] E [] E))
   have h := condF h ht62
   refine JS.seq (JS.region (JO.reg ttOk 1 [] [] [(34, .v (I ((at' x0 x1).toNat : Int)))] _ E ⟨⟨E, V⟩, E⟩ ?_))
   obtain ⟨y11, hy12, h⟩ := bindO_some h
   refine JO.call E E E E (ok_i_in ((at' x0 x1).toNat : Int) 224 239 _ hy12) E [] E E fun _ _ => JO.reg ttOk 1 [] [] [(33, .v (.bool y11))] _ E ⟨⟨E, V⟩, E⟩ (JO.done E ?_)
   refine JS.cond E (fun ht61 => ?_) (fun ht61 => ?_)
   ·
    have h := condT h ht61
    refine JS.re ttOk 4 [(W (((at' x0 x1).toNat : Int) - 224))] [] [(7, .v (I 3)), (8, .v (I (W (((at' x0 x1).toNat : Int) - 224))))] _ ⟨⟨V, E⟩, (Es E), E⟩ E E (JS.endB (JS.endJ (3, (W (((at' x0 x1).toNat : Int) - 224))) h (Es E) V [0] E [] E))
   have h := condF h ht61
   refine JS.seq (JS.region (JO.reg ttOk 1 [] [] [(39, .v (I ((at' x0 x1).toNat : Int)))] _ E ⟨⟨E, V⟩, E⟩ ?_))
   obtain ⟨y13, hy14, h⟩ := bindO_some h
   refine JO.call E E E E (ok_i_in ((at' x0 x1).toNat : Int) 240 247 _ hy14) E [] E E fun _ _ => JO.reg ttOk 1 [] [] [(38, .v (.bool y13))] _ E ⟨⟨E, V⟩, E⟩ (JO.done E ?_)
   refine JS.cond E (fun ht60 => ?_) (fun ht60 => ?_)
   ·
    have h := condT h ht60
    refine JS.re ttOk 4 [(W (((at' x0 x1).toNat : Int) - 240))] [] [(7, .v (I 4)), (8, .v (I (W (((at' x0 x1).toNat : Int) - 240))))] _ ⟨⟨V, E⟩, (Es E), E⟩ E E (JS.endB (JS.endJ (4, (W (((at' x0 x1).toNat : Int) - 240))) h (Es E) V [0] E [] E))
   have h := condF h ht60
   refine JS.rg0 ttOk 2 [(4, .v (I 0)), (5, .v (I 0))] ⟨(Es E), E⟩ E E ?_
   cases h
   exact JS.ret ttOk () V E E [] E
  rintro ⟨x19, x20⟩ h
  subst hj72
  refine JS.seq (JS.rg ttOk 6 [(W ((x0.length : Int) - x19))] [] [(48, .v (.bool (decide ((W ((x0.length : Int) - x19)) < x1))))] _ ⟨⟨V, E⟩, ⟨E, V⟩, E⟩ E E ?_)
  refine JS.cond E (fun ht71 => ?_) (fun ht71 => ?_)
  ·
   have h := condT h ht71
   refine JS.rg0 ttOk 2 [(4, .v (I 0)), (5, .v (I 0))] ⟨(Es E), E⟩ E E ?_
   cases h
   exact JS.ret ttOk () V E E [] E
  have h := condF h ht71
  refine JS.skip (JS.seq (JS.seq (JS.region (JO.reg ttOk 6 [(W (x1 + 1)), (W (x1 + x19))] [] [(49, .v (.slice a3 x0.length c4)), (51, .v (I (W (x1 + 1)))), (54, .v (I (W (x1 + x19))))] _ E ⟨⟨V, E⟩, ⟨V, E⟩, (Es E), E⟩ ?_))))
  obtain ⟨g26, h⟩ := guardO_some h
  refine JO.sliceR' ttOk E E E E E E E E 0 E (W (x1 + 1)) (W (x1 + x19)) E E g26 E fun a27 c28 => JO.reg ttOk 2 [] [] [(56, .v (I ((sub' x0 (W (x1 + 1)) (W (x1 + x19))).length : Int))), (57, .v (I 0))] _ E ⟨(Es E), E⟩ (JO.done E ?_)
  obtain ⟨j39, hj70, h⟩ := joinO_some h
  refine JS.blockJ (ι := Int) ⟨fun z => j39 z = some r, fun z => [(0, .v (.slice a3 x0.length c4)), (1, .v (I x1)), (7, .v (I x19)), (8, .v (I z))], fun z => .nil, fun z => [⟨.byte, ⟨a3, x0.length, c4⟩, x0⟩], fun z => [], fun z => 0⟩ ?_ ?_
  ·
   refine JS.loop (ι := Nat × Int × Int) ⟨fun z => fixF (M_i_RuneRead_L1 x0 x1 x19 j39) z.1 (z.2.1, z.2.2) = some r, fun z => [(0, .v (.slice a3 x0.length c4)), (1, .v (I x1)), (7, .v (I x19)), (8, .v (I z.2.1)), (55, .v (.slice a27 (sub' x0 (W (x1 + 1)) (W (x1 + x19))).length c28)), (56, .v (I ((sub' x0 (W (x1 + 1)) (W (x1 + x19))).length : Int))), (57, .v (I z.2.2))], fun z => .nil, fun z => [⟨.byte, ⟨a3, x0.length, c4⟩, x0⟩, ⟨.byte, ⟨a27, (sub' x0 (W (x1 + 1)) (W (x1 + x19))).length, c28⟩, (sub' x0 (W (x1 + 1)) (W (x1 + x19)))⟩], fun z => [], fun z => z.1⟩ (FUEL, x20, 0) h (Es E) V [1, 0] E [] E ?_
   rintro ⟨n35, x29, x30⟩ h
   obtain ⟨n35, rfl, h⟩ := fixF_some h
   rw [M_i_RuneRead_L1] at h
   refine JS.rg0 ttOk 1 [(58, .v (.bool (decide (x30 < ((sub' x0 (W (x1 + 1)) (W (x1 + x19))).length : Int)))))] ⟨⟨E, V⟩, E⟩ E E (JS.seq ?_)
   refine JS.cond E (fun ht65 => ?_) (fun ht65 => ?_)
   ·
    have h := condT h ht65
    refine JS.skip (JS.seq (JS.block (JS.seq (JS.region (JO.know 1 E fun hs64 => ?_)))))
    obtain ⟨g32, h⟩ := guardO_some h
    refine JO.reg ttOk 1 [] [] [(59, .ep ⟨a27, (sub' x0 (W (x1 + 1)) (W (x1 + x19))).length, c28⟩ (Int.toNat x30 * 1))] _ E ⟨hs64.ix g32, ⟨E, V⟩, E⟩ (JO.load ttOk E E E E E E E 1 E E (Int.toNat x30) 0 (at' (sub' x0 (W (x1 + 1)) (W (x1 + x19))) x30) ⟨at_some g32, E⟩ E E (JO.reg ttOk 1 [] [] [(10, .v (.int .u8 ((at' (sub' x0 (W (x1 + 1)) (W (x1 + x19))) x30).toNat : Int)))] _ E ⟨⟨E, V⟩, E⟩ (JO.done E (JS.re ttOk 7 [(W (x29 * 64)), ((at' (sub' x0 (W (x1 + 1)) (W (x1 + x19))) x30).toNat : Int), (W ((W (x29 * 64)) + ((at' (sub' x0 (W (x1 + 1)) (W (x1 + x19))) x30).toNat : Int))), (W ((W ((W (x29 * 64)) + ((at' (sub' x0 (W (x1 + 1)) (W (x1 + x19))) x30).toNat : Int))) - 128))] [] [(8, .v (I (W ((W ((W (x29 * 64)) + ((at' (sub' x0 (W (x1 + 1)) (W (x1 + x19))) x30).toNat : Int))) - 128))))] _ ⟨⟨V, E⟩, ⟨V, W_byte _⟩, ⟨V, E⟩, ⟨V, E⟩, ⟨E, V⟩, E⟩ E E (JS.endB (JS.re ttOk 2 [(W (x30 + 1))] [] [(57, .v (I (W (x30 + 1))))] _ ⟨⟨V, E⟩, ⟨E, V⟩, E⟩ E E (JS.endL (n35, (W ((W ((W (x29 * 64)) + ((at' (sub' x0 (W (x1 + 1)) (W (x1 + x19))) x30).toNat : Int))) - 128)), (W (x30 + 1))) h (Nat.lt_succ_self _) (Es E) V [0, 1] E [] E)))))))
   have h := condF h ht65
   refine JS.exit E (JS.endJ x29 h (Es E) V [0] E [] E)
  rintro x38 h
  subst hj70
  refine JS.seq (JS.seq ?_)
  obtain ⟨y42, hy43, h⟩ := bindO_some h
  obtain ⟨g46, h⟩ := guardO_some h
  refine JS.subR 0 E x1 (W (x1 + x19)) fun a47 c48 hu49 => JS.know 1 E fun hs68 => ?_
  refine JS.regionA E .nil [0] [10] V E (fun be53 => ?_)
  refine JA.reg ttOk panic_cx true 5 [0, 3, 4, 5, 6, 7] E (by kernel_rfl) [(W (x1 + x19))] [(68, .v (I x38)), (71, .v (.slice a3 x0.length c4)), (72, .v (I x1)), (75, .v (I (W (x1 + x19))))] V [0] E E ⟨⟨V, E⟩, (Es E)⟩ (JA.sliceP ttOk panic_cx 8 E (by kernel_rfl) E E E E E E x1 (W (x1 + x19)) E E ⟨g46.1, g46.2.1, g46.2.2, hs68.cap, hu49 g46⟩ E (JA.strOf ttOk panic_cx 9 E (by kernel_rfl) E E E E E E E 0 E E V [0] E (JA.one 1 (by kernel_rfl) (JK.call E E E E (ok_i_RuneBytes x38 _ hy43) E [] E E ?_))))
  rintro ⟨a44, c45⟩ -
  refine JA.next V [0] E (JA.one 2 (by kernel_rfl) (JK.strOf ttOk E E E E E E E E 2 E E (JA.next V [0] E (JA.regL ttOk panic_cx 0 [10] E (by kernel_rfl) [] [(78, .v (.bool (!(decide (y42 = (sub' x0 x1 (W (x1 + x19))))))))] E ⟨E, V⟩ (JA.done (by kernel_rfl) (JS.boxes (B' := .nil) V ?_))))))
  refine JS.cond E (fun ht69 => ?_) (fun ht69 => ?_)
  ·
   have h := condT h ht69
   refine JS.rg0 ttOk 2 [(4, .v (I 0)), (5, .v (I 0))] ⟨(Es E), E⟩ E E ?_
   cases h
   exact JS.ret ttOk () V E E [] E
  have h := condF h ht69
  refine JS.skip (JS.rg0 ttOk 4 [(4, .v (I x38)), (5, .v (I x19))] ⟨(Es E), E⟩ E E ?_)
  cases h
  exact JS.ret ttOk () V E E [] E

def M_i_RunesOf_L1 (x0 : List UInt8) (j29 : (List Int) → Option (List Int × Bool)) (k22 : (List Int × Int) → Option (List Int × Bool)) : (List Int × Int) → Option (List Int × Bool) := fun (x4, x10) =>
  (bif (decide (x10 < (x0.length : Int))) then
  (bindO (M_i_RuneRead x0 x10) fun (y11, y12) =>
  (bif (decide (y12 = 0)) then
  some ([], false)
  else
  (guardO (x4.length + ([y11] : List Int).length ≤ 536870912) <|
  k22 ((x4 ++ ([y11] : List Int)), (W (x10 + y12))))))
  else
  j29 x4)

def M_i_RunesOf (x0 : List UInt8) : Option (List Int × Bool) :=
  (bif (decide (65536 < (x0.length : Int))) then
  some ([], false)
  else
  (joinO (fun (x26 : List Int) =>
  some (x26, true)) fun j29 =>
  (fixF (M_i_RunesOf_L1 x0 j29) FUEL (([] : List Int), 0))))

theorem ok_i_RunesOf (x0 : List UInt8) (r : List Int × Bool) (h : M_i_RunesOf x0 = some r) :
  FC Tryz.prog 62 [.string (bs x0)] [] (fun _ : Option Addr × Nat => True) (fun q => .tuple #[.slice q.1 r.1.length q.2, .bool r.2]) (fun q => [⟨(.int .i64), ⟨q.1, r.1.length, q.2⟩, r.1⟩]) :=
 by
  refine FC.of (T := TTx) Tryz.call62 Tryz.func62 E E fun w0 => ?_
  unfold M_i_RunesOf at h
  refine JS.rg0 ttOk 2 [] ⟨V, E⟩ E E (JS.seq (JS.rg0 ttOk 3 [(11, .v (.bool (decide (65536 < (x0.length : Int)))))] ⟨⟨E, V⟩, E⟩ E E ?_))
  refine JS.cond E (fun ht37 => ?_) (fun ht37 => ?_)
  ·
   have h := condT h ht37
   refine JS.rg0 ttOk 2 [(2, .v (.slice none 0 0)), (3, .v (.bool false))] ⟨(Es E), E⟩ E E ?_
   cases h
   refine JS.nilO (.int .i64) Sl.nil E E (JS.ret ttOk (none, 0) V E E [0] E)
  have h := condF h ht37
  refine JS.skip (JS.rg0 ttOk 1 [(4, .v (.slice none 0 0))] ⟨⟨E, V⟩, E⟩ E E (JS.seq (JS.region (JO.reg ttOk 1 [] [] [(12, .v (.string (bs x0)))] _ E ⟨⟨E, V⟩, E⟩ (JO.bytesOf ttOk E E E E E E E E E fun a2 c3 => JO.reg ttOk 1 [] [] [(5, .v (.slice a2 x0.length c3))] _ E ⟨⟨E, V⟩, E⟩ (JO.done E (JS.seq (JS.rg0 ttOk 1 [(6, .v (I 0))] ⟨⟨E, V⟩, E⟩ E E ?_))))))))
  obtain ⟨j29, hj36, h⟩ := joinO_some h
  refine JS.blockJ (ι := List Int × Option Addr × Nat) ⟨fun z => j29 z.1 = some r, fun z => [(4, .v (.slice z.2.1 z.1.length z.2.2))], fun z => .nil, fun z => [], fun z => [⟨(.int .i64), ⟨z.2.1, z.1.length, z.2.2⟩, z.1⟩], fun z => 0⟩ ?_ ?_
  ·
   refine JS.nilO (.int .i64) Sl.nil E E (JS.loop (ι := Nat × List Int × Int × Option Addr × Nat) ⟨fun z => fixF (M_i_RunesOf_L1 x0 j29) z.1 (z.2.1, z.2.2.1) = some r, fun z => [(4, .v (.slice z.2.2.2.1 z.2.1.length (Q4 z))), (5, .v (.slice a2 x0.length c3)), (6, .v (I z.2.2.1))], fun z => .nil, fun z => [], fun z => [⟨(.int .i64), ⟨z.2.2.2.1, z.2.1.length, (Q4 z)⟩, z.2.1⟩, ⟨.byte, ⟨a2, x0.length, c3⟩, x0⟩], fun z => z.1⟩ (FUEL, ([] : List Int), 0, none, 0) h (Es E) V [] E [0, 0] E ?_)
   rintro ⟨n23, x4, x10, a5, c6⟩ h
   obtain ⟨n23, rfl, h⟩ := fixF_some h
   rw [M_i_RunesOf_L1] at h
   refine JS.seq (JS.rg0 ttOk 4 [(17, .v (.bool (decide (x10 < (x0.length : Int)))))] ⟨⟨E, V⟩, E⟩ E E ?_)
   refine JS.cond E (fun ht35 => ?_) (fun ht35 => ?_)
   ·
    have h := condT h ht35
    refine JS.skip (JS.block (JS.seq (JS.region (JO.reg ttOk 2 [] [] [(19, .v (.slice a2 x0.length c3)), (20, .v (I x10))] _ E ⟨(Es E), E⟩ ?_))))
    obtain ⟨⟨y11, y12⟩, hy13, h⟩ := bindO_some h
    refine JO.call E E E E (ok_i_RuneRead x0 x10 a2 c3 x0.length E _ hy13) E [1] E E fun _ _ => JO.reg ttOk 5 [] [] [(7, .v (I y11)), (8, .v (I y12))] _ E ⟨(Es E), E⟩ (JO.done E (JS.seq (JS.rg0 ttOk 2 [(25, .v (.bool (decide (y12 = 0))))] ⟨⟨E, V⟩, E⟩ E E ?_)))
    refine JS.cond E (fun ht34 => ?_) (fun ht34 => ?_)
    ·
     have h := condT h ht34
     refine JS.rg0 ttOk 2 [(2, .v (.slice none 0 0)), (3, .v (.bool false))] ⟨(Es E), E⟩ E E ?_
     cases h
     refine JS.nilO (.int .i64) Sl.nil E E (JS.ret ttOk (none, 0) V E E [0] E)
    have h := condF h ht34
    refine JS.skip (JS.seq (JS.region (JO.reg ttOk 2 [] [] [(26, .v (.slice a5 x4.length c6)), (27, .v (I y11))] _ E ⟨(Es E), E⟩ ?_)))
    refine JO.ofK E (JK.buildSlice ttOk E E E E E E E E E E E [] E (.int .i64) [y11] ⟨E, E⟩ E E fun a14 => JO.toK ?_)
    obtain ⟨g15, h⟩ := guardO_some h
    refine JO.appendR' ttOk E E E E ⟨E, E, E, E, V, E, E, E, E⟩ E E E [1] E 0 E g15 E fun a16 c17 => JO.reg ttOk 1 [] [] [(4, .v (.slice a16 (x4 ++ ([y11] : List Int)).length c17))] _ E ⟨⟨E, V⟩, E⟩ (JO.done E (JS.re ttOk 4 [(W (x10 + y12))] [] [(6, .v (I (W (x10 + y12))))] _ ⟨⟨V, E⟩, ⟨E, V⟩, E⟩ E E (JS.endB (JS.endL (n23, (x4 ++ ([y11] : List Int)), (W (x10 + y12)), a16, c17) h (Nat.lt_succ_self _) (Es E) V [] E [0, 1] E))))
   have h := condF h ht35
   refine JS.exit E (JS.endJ (x4, a5, c6) h ⟨E, V⟩ V [] E [0] E)
  rintro ⟨x26, a27, c28⟩ h
  subst hj36
  refine JS.rg0 ttOk 3 [(2, .v (.slice a27 x26.length c28)), (3, .v (.bool true))] ⟨(Es E), E⟩ E E ?_
  cases h
  exact JS.ret ttOk (a27, c28) V E E [0] E

def M_i_LineOf (x0 : List UInt8) : Option ((List Int × Int) × Bool) :=
  (bindO (M_i_RunesOf x0) fun (y2, y3) =>
  (callO ((!y3) = false) (M_i_LineOk (y2, (y2.length : Int))) false fun (y7 : Bool) =>
  (bif (bif (!y3) then true else (!y7)) then
  some (([], 0), false)
  else
  some ((y2, (y2.length : Int)), true))))

theorem ok_i_LineOf (x0 : List UInt8) (r : (List Int × Int) × Bool) (h : M_i_LineOf x0 = some r) :
  FC Tryz.prog 59 [.string (bs x0)] [] (fun _ : Option Addr × Nat => True) (fun q => .tuple #[.agg #[.slice q.1 r.1.1.length q.2, .int .i64 r.1.2], .bool r.2]) (fun q => [⟨(.int .i64), ⟨q.1, r.1.1.length, q.2⟩, r.1.1⟩]) :=
 by
  refine FC.of (T := TTx) Tryz.call59 Tryz.func59 E E fun w0 => ?_
  unfold M_i_LineOf at h
  refine JS.rgB ttOk 2 [] [1] [(2, .bp 1 0)] (.new 1 38 [.slice none 0 0, .int .i64 0] .nil) ⟨⟨E, V⟩, (Bs E E)⟩ E E (JS.seq (JS.region (JO.reg ttOk 1 [] [] [(8, .v (.string (bs x0)))] _ E ⟨⟨E, V⟩, E⟩ ?_)))
  obtain ⟨⟨y2, y3⟩, hy4, h⟩ := bindO_some h
  refine JO.call E E E E (ok_i_RunesOf x0 _ hy4) E [] E E ?_
  rintro ⟨a5, c6⟩ -
  refine JO.reg ttOk 5 [] [] [(4, .v (.slice a5 y2.length c6)), (5, .v (.bool y3))] _ E ⟨(Es E), E⟩ (JO.done E (JS.rgB ttOk 6 [] [8] [(6, .bp 8 0)] (.new 1 38 [.slice none 0 0, .int .i64 0] (.new 8 38 [.slice a5 y2.length c6, .int .i64 (y2.length : Int)] .nil)) ⟨⟨E, V⟩, (Bs E E)⟩ E E (JS.seq (JS.seq (JS.region (JO.reg ttOk 4 [] [] [(18, .v (.bool (!y3))), (19, .cd [(18, false)] (.v (.agg #[.slice a5 y2.length c6, .int .i64 (y2.length : Int)])))] _ E ⟨(Es E), E⟩ ?_))))))
  obtain ⟨y7, hy8, -, h⟩ := callO_some h
  refine JO.callg E E E E (fun q11 => ok_i_LineOk (y2, (y2.length : Int)) a5 c6 y2.length E _ (hy8 q11)) E [0] E E (JO.reg ttOk 2 [] [] [(22, .v (.bool (bif (!y3) then true else (!y7))))] _ E ⟨⟨E, V⟩, E⟩ (JO.done E ?_))
  refine JS.cond E (fun ht12 => ?_) (fun ht12 => ?_)
  ·
   have h := condT h ht12
   refine JS.rgB ttOk 3 [] [] [(3, .v (.bool false))] (.new 1 38 [.slice none 0 0, .int .i64 0] .nil) ⟨⟨E, V⟩, (Bs E E)⟩ E E ?_
   cases h
   refine JS.nilO (.int .i64) Sl.nil E E (JS.ret ttOk (none, 0) V E E [0] E)
  have h := condF h ht12
  refine JS.skip (JS.rgB ttOk 3 [] [] [(3, .v (.bool true))] (.new 1 38 [.slice a5 y2.length c6, .int .i64 (y2.length : Int)] .nil) ⟨⟨E, V⟩, (Bs E E)⟩ E E ?_)
  cases h
  exact JS.ret ttOk (a5, c6) V E E [0] E

def M_i_EdStep (x0 : EdQ) (x1 : Int × List (List UInt8)) (x2 : Int) : Option (EdQ × Bool) :=
  (bindO (M_i_EdOk x0) fun (y32 : Bool) =>
  (bif (bif (!y32) then true else (bif (!(decide (x2 = 1))) then (!(decide (x2 = (-1)))) else false)) then
  some ((false, 0, ([], 0), 0, 0, 0, 0, 0, 0, 0, [], [], 0, ([], 0), [], 0, ([], 0)), false)
  else
  (bindO (M_i_settled x0 0) fun (y34 : EdQ) =>
  (bindO (M_i_HistLast x1) fun (y48 : Int) =>
  (joinO (fun (x51 : Int) =>
  (bif (bif (bif (decide (x2 = 1)) then (!(decide (x0.2.2.2.2.2.2.2.2.2.2.2.2.1 = 0))) else false) then (decide ((W (x51 + 1)) = (W (y48 + 1)))) else false) then
  (bindO (M_i_copyLine x0.2.2.2.2.2.2.2.2.2.2.2.2.2.1) fun (y56 : List Int × Int) =>
  (bindO (M_i_inCommand y56 x0.2.1) fun (y60 : List Int × Int) =>
  some ((y34.1, y34.2.1, (y56.1, y60.2), y34.2.2.2.1, y34.2.2.2.2.1, y34.2.2.2.2.2.1, y34.2.2.2.2.2.2.1, y34.2.2.2.2.2.2.2.1, y34.2.2.2.2.2.2.2.2.1, y34.2.2.2.2.2.2.2.2.2.1, y34.2.2.2.2.2.2.2.2.2.2.1, [], 0, ([], 0), y34.2.2.2.2.2.2.2.2.2.2.2.2.2.2.1, y34.2.2.2.2.2.2.2.2.2.2.2.2.2.2.2.1, y34.2.2.2.2.2.2.2.2.2.2.2.2.2.2.2.2), true)))
  else
  (bindO (M_i_HistGet x1 (W (x51 + x2))) fun (y63, y64) =>
  (bindO (M_i_LineOf y63) fun (y66, y67) =>
  (bif (bif (!y64) then true else (!y67)) then
  some ((false, 0, ([], 0), 0, 0, 0, 0, 0, 0, 0, [], [], 0, ([], 0), [], 0, ([], 0)), false)
  else
  (joinO (fun (x72 : Int) =>
  (joinO (fun ((x80, x83) : List Int × Int) =>
  some ((y34.1, y34.2.1, (y66.1, x72), y34.2.2.2.1, y34.2.2.2.2.1, y34.2.2.2.2.2.1, y34.2.2.2.2.2.2.1, y34.2.2.2.2.2.2.2.1, y34.2.2.2.2.2.2.2.2.1, y34.2.2.2.2.2.2.2.2.2.1, y34.2.2.2.2.2.2.2.2.2.2.1, [], (W (x51 + x2)), (x80, x83), y34.2.2.2.2.2.2.2.2.2.2.2.2.2.2.1, y34.2.2.2.2.2.2.2.2.2.2.2.2.2.2.2.1, y34.2.2.2.2.2.2.2.2.2.2.2.2.2.2.2.2), true)) fun j84 =>
  (bif (decide (x0.2.2.2.2.2.2.2.2.2.2.2.2.1 = 0)) then
  (bindO (M_i_copyLine x0.2.2.1) fun (y75 : List Int × Int) =>
  j84 (y75.1, y75.2))
  else
  j84 (y34.2.2.2.2.2.2.2.2.2.2.2.2.2.1.1, y34.2.2.2.2.2.2.2.2.2.2.2.2.2.1.2)))) fun j73 =>
  (bif (decide (x0.2.1 = 2)) then
  j73 0
  else
  j73 y66.2))))))) fun j52 =>
  (bif (decide (x0.2.2.2.2.2.2.2.2.2.2.2.2.1 = 0)) then
  j52 (W (y48 + 1))
  else
  j52 x0.2.2.2.2.2.2.2.2.2.2.2.2.1))))))

theorem ok_i_EdStep (x0 : EdQ) (x1 : Int × List (List UInt8)) (x2 : Int) (a4 : Option Addr) (c5 : Nat) (l6 : Nat) (hl7 : x0.2.2.1.1.length = l6) (a8 : Option Addr) (c9 : Nat) (l10 : Nat) (hl11 : (Q8 x0).2.2.1.length = l10) (a12 : Option Addr) (c13 : Nat) (l14 : Nat) (hl15 : (Q8 x0).2.2.2.1.length = l14) (a16 : Option Addr) (c17 : Nat) (l18 : Nat) (hl19 : (Q12 x0).2.1.1.length = l18) (a20 : Option Addr) (c21 : Nat) (l22 : Nat) (hl23 : (Q12 x0).2.2.1.length = l22) (a24 : Option Addr) (c25 : Nat) (l26 : Nat) (hl27 : (Q16 x0).1.length = l26) (a28 : Option Addr) (c29 : Nat) (l30 : Nat) (hl31 : x1.2.length = l30) (r : EdQ × Bool) (h : M_i_EdStep x0 x1 x2 = some r) :
  FC Tryz.prog 247 [.agg #[.bool x0.1, .int .i64 x0.2.1, .slice a4 l6 c5, .int .i64 x0.2.2.1.2, .int .i64 x0.2.2.2.1, .int .i64 (Q4 x0).1, .int .i64 (Q4 x0).2.1, .int .i64 (Q4 x0).2.2.1, .int .i64 (Q4 x0).2.2.2.1, .int .i64 (Q8 x0).1, .int .i64 (Q8 x0).2.1, .slice a8 l10 c9, .slice a12 l14 c13, .int .i64 (Q12 x0).1, .slice a16 l18 c17, .int .i64 (Q12 x0).2.1.2, .slice a20 l22 c21, .int .i64 (Q12 x0).2.2.2.1, .slice a24 l26 c25, .int .i64 (Q16 x0).2], .agg #[.int .i64 x1.1, .slice a28 l30 c29], .int .i64 x2] [⟨(.int .i64), ⟨a4, l6, c5⟩, x0.2.2.1.1⟩, ⟨(.sl (.int .i64)), ⟨a8, l10, c9⟩, (Q8 x0).2.2.1⟩, ⟨(.pair (.sl (.int .i64)) (.int .i64)), ⟨a12, l14, c13⟩, (Q8 x0).2.2.2.1⟩, ⟨(.int .i64), ⟨a16, l18, c17⟩, (Q12 x0).2.1.1⟩, ⟨(.int .i64), ⟨a20, l22, c21⟩, (Q12 x0).2.2.1⟩, ⟨(.int .i64), ⟨a24, l26, c25⟩, (Q16 x0).1⟩, ⟨.str, ⟨a28, l30, c29⟩, x1.2⟩] (fun _ : Option Addr × Nat × Option Addr × Nat × Option Addr × Nat × Option Addr × Nat × Option Addr × Nat => True) (fun q => .tuple #[.agg (cl46 (r.1.1, r.1.2.1, r.1.2.2.1, r.1.2.2.2.1, r.1.2.2.2.2.1, r.1.2.2.2.2.2.1, r.1.2.2.2.2.2.2.1, r.1.2.2.2.2.2.2.2.1, r.1.2.2.2.2.2.2.2.2.1, r.1.2.2.2.2.2.2.2.2.2.1, r.1.2.2.2.2.2.2.2.2.2.2.1, [], r.1.2.2.2.2.2.2.2.2.2.2.2.2.1, r.1.2.2.2.2.2.2.2.2.2.2.2.2.2.1, r.1.2.2.2.2.2.2.2.2.2.2.2.2.2.2.1, r.1.2.2.2.2.2.2.2.2.2.2.2.2.2.2.2.1, r.1.2.2.2.2.2.2.2.2.2.2.2.2.2.2.2.2) q.1 q.2.1 q.2.2.1 q.2.2.2.1 none 0 (Q4 q).1 (Q4 q).2.1 (Q4 q).2.2.1 (Q4 q).2.2.2.1 (Q8 q).1 (Q8 q).2).toArray, .bool r.2]) (fun q => [⟨(.int .i64), ⟨q.1, r.1.2.2.1.1.length, q.2.1⟩, r.1.2.2.1.1⟩, ⟨(.sl (.int .i64)), ⟨q.2.2.1, r.1.2.2.2.2.2.2.2.2.2.2.1.length, q.2.2.2.1⟩, r.1.2.2.2.2.2.2.2.2.2.2.1⟩, ⟨(.int .i64), ⟨(Q4 q).1, r.1.2.2.2.2.2.2.2.2.2.2.2.2.2.1.1.length, (Q4 q).2.1⟩, r.1.2.2.2.2.2.2.2.2.2.2.2.2.2.1.1⟩, ⟨(.int .i64), ⟨(Q4 q).2.2.1, r.1.2.2.2.2.2.2.2.2.2.2.2.2.2.2.1.length, (Q4 q).2.2.2.1⟩, r.1.2.2.2.2.2.2.2.2.2.2.2.2.2.2.1⟩, ⟨(.int .i64), ⟨(Q8 q).1, r.1.2.2.2.2.2.2.2.2.2.2.2.2.2.2.2.2.1.length, (Q8 q).2⟩, r.1.2.2.2.2.2.2.2.2.2.2.2.2.2.2.2.2.1⟩]) :=
 by
  subst hl7
  subst hl11
  subst hl15
  subst hl19
  subst hl23
  subst hl27
  subst hl31
  refine FC.of (T := TTx) Tryz.call247 Tryz.func247 E E fun w0 => ?_
  unfold M_i_EdStep at h
  refine JS.rgB ttOk 4 [] [8, 9, 10] [(3, .bp 8 0), (4, .bp 9 0), (6, .bp 10 0)] (.new 8 46 (cl46 x0 a4 c5 a8 c9 a12 c13 a16 c17 a20 c21 a24 c25) (.new 9 50 [.int .i64 x1.1, .slice a28 x1.2.length c29] (.new 10 46 cz46 .nil))) ⟨(Es E), (Bs E E)⟩ E E (JS.seq (JS.seq (JS.region (JO.reg ttOk 1 [] [] [(15, .v (.agg (cl46 x0 a4 c5 a8 c9 a12 c13 a16 c17 a20 c21 a24 c25).toArray))] _ E ⟨⟨E, V⟩, E⟩ ?_))))
  obtain ⟨y32, hy33, h⟩ := bindO_some h
  refine JO.call E E E E (ok_i_EdOk x0 a4 c5 x0.2.2.1.1.length E a8 c9 (Q8 x0).2.2.1.length E a12 c13 (Q8 x0).2.2.2.1.length E a16 c17 (Q12 x0).2.1.1.length E a20 c21 (Q12 x0).2.2.1.length E a24 c25 (Q16 x0).1.length E _ hy33) E [0, 1, 2, 3, 4, 5] E E fun _ _ => JO.reg ttOk 9 [] [] [(25, .v (.bool (bif (!y32) then true else (bif (!(decide (x2 = 1))) then (!(decide (x2 = (-1)))) else false))))] _ E ⟨⟨E, V⟩, E⟩ (JO.done E ?_)
  refine JS.cond E (fun ht102 => ?_) (fun ht102 => ?_)
  ·
   have h := condT h ht102
   refine JS.rgB ttOk 3 [] [] [(7, .v (.bool false))] (.new 10 46 cz46 .nil) ⟨⟨E, V⟩, (Bs E E)⟩ E E ?_
   cases h
   refine JS.nilO (.int .i64) Sl.nil E E (JS.nilO (.sl (.int .i64)) Sl.nil E E (JS.nilO (.int .i64) Sl.nil E E (JS.nilO (.int .i64) Sl.nil E E (JS.nilO (.int .i64) Sl.nil E E (JS.ret ttOk (none, 0, none, 0, none, 0, none, 0, none, 0) V E E [4, 3, 2, 1, 0] E)))))
  have h := condF h ht102
  refine JS.skip (JS.seq (JS.region (JO.reg ttOk 1 [] [] [(27, .v (.agg (cl46 x0 a4 c5 a8 c9 a12 c13 a16 c17 a20 c21 a24 c25).toArray))] _ E ⟨⟨E, V⟩, E⟩ ?_)))
  obtain ⟨y34, hy35, h⟩ := bindO_some h
  refine JO.call E E E E (ok_i_settled x0 0 a4 c5 x0.2.2.1.1.length E a8 c9 (Q8 x0).2.2.1.length E a12 c13 (Q8 x0).2.2.2.1.length E a16 c17 (Q12 x0).2.1.1.length E a20 c21 (Q12 x0).2.2.1.length E a24 c25 (Q16 x0).1.length E _ hy35) E [0, 1, 2, 3, 4, 5] E E ?_
  rintro ⟨a36, c37, a38, c39, a40, c41, a42, c43, a44, c45, a46, c47⟩ -
  refine JO.regB ttOk 2 [] [33] [(8, .bp 33 0)] (.new 8 46 (cl46 x0 a4 c5 a8 c9 a12 c13 a16 c17 a20 c21 a24 c25) (.new 9 50 [.int .i64 x1.1, .slice a28 x1.2.length c29] (.new 10 46 cz46 (.new 33 46 (cl46 y34 a36 c37 a38 c39 a40 c41 a42 c43 a44 c45 a46 c47) .nil)))) E ⟨⟨E, V⟩, (Bs E E)⟩ (JO.done E (JS.rgB ttOk 3 [] [] [] (.new 8 46 (cl46 x0 a4 c5 a8 c9 a12 c13 a16 c17 a20 c21 a24 c25) (.new 9 50 [.int .i64 x1.1, .slice a28 x1.2.length c29] (.new 10 46 cz46 (.new 33 46 (cl46 (y34.1, y34.2.1, y34.2.2.1, y34.2.2.2.1, (Q4 y34).1, (Q4 y34).2.1, (Q4 y34).2.2.1, (Q4 y34).2.2.2.1, (Q8 y34).1, (Q8 y34).2.1, (Q8 y34).2.2.1, [], (Q12 y34).1, (Q12 y34).2.1, (Q12 y34).2.2.1, (Q12 y34).2.2.2.1, (Q16 y34)) a36 c37 a38 c39 none 0 a42 c43 a44 c45 a46 c47) .nil)))) ⟨V, (Bs E E)⟩ E E (JS.seq (JS.region (JO.reg ttOk 1 [] [] [(31, .v (.agg #[.int .i64 x1.1, .slice a28 x1.2.length c29]))] _ E ⟨⟨E, V⟩, E⟩ ?_)))))
  obtain ⟨y48, hy49, h⟩ := bindO_some h
  refine JO.call E E E E (ok_i_HistLast x1 a28 c29 x1.2.length E _ hy49) E [6] E E fun _ _ => JO.reg ttOk 1 [] [] [(9, .v (I y48))] _ E ⟨⟨E, V⟩, E⟩ (JO.done E (JS.rg0 ttOk 3 [(10, .v (I (Q12 x0).1))] ⟨⟨E, V⟩, E⟩ E E ?_))
  obtain ⟨j52, hj101, h⟩ := joinO_some h
  refine JS.seqJ (ι := Int) ⟨fun z => j52 z = some r, fun z => [(2, .v (I x2)), (3, .bp 8 0), (4, .bp 9 0), (6, .bp 10 0), (8, .bp 33 0), (9, .v (I y48)), (10, .v (I z))], fun z => (.new 8 46 (cl46 x0 a4 c5 a8 c9 a12 c13 a16 c17 a20 c21 a24 c25) (.new 9 50 [.int .i64 x1.1, .slice a28 x1.2.length c29] (.new 10 46 cz46 (.new 33 46 (cl46 (y34.1, y34.2.1, y34.2.2.1, y34.2.2.2.1, (Q4 y34).1, (Q4 y34).2.1, (Q4 y34).2.2.1, (Q4 y34).2.2.2.1, (Q8 y34).1, (Q8 y34).2.1, (Q8 y34).2.2.1, [], (Q12 y34).1, (Q12 y34).2.1, (Q12 y34).2.2.1, (Q12 y34).2.2.2.1, (Q16 y34)) a36 c37 a38 c39 none 0 a42 c43 a44 c45 a46 c47) .nil)))), fun z => (fl32 x0 a4 c5 a8 c9 a12 c13 a16 c17 a20 c21 a24 c25 [⟨.str, ⟨a28, x1.2.length, c29⟩, x1.2⟩]), fun z => [⟨(.int .i64), ⟨a36, y34.2.2.1.1.length, c37⟩, y34.2.2.1.1⟩, ⟨(.sl (.int .i64)), ⟨a38, (Q8 y34).2.2.1.length, c39⟩, (Q8 y34).2.2.1⟩, ⟨(.int .i64), ⟨a42, (Q12 y34).2.1.1.length, c43⟩, (Q12 y34).2.1.1⟩, ⟨(.int .i64), ⟨a44, (Q12 y34).2.2.1.length, c45⟩, (Q12 y34).2.2.1⟩, ⟨(.int .i64), ⟨a46, (Q16 y34).1.length, c47⟩, (Q16 y34).1⟩], fun z => 0⟩ ?_ ?_
  ·
   refine JS.rg0 ttOk 2 [(36, .v (.bool (decide ((Q12 x0).1 = 0))))] ⟨⟨E, V⟩, E⟩ E E ?_
   refine JS.cond E (fun ht92 => ?_) (fun ht92 => ?_)
   ·
    have h := condT h ht92
    refine JS.re ttOk 3 [(W (y48 + 1))] [] [(10, .v (I (W (y48 + 1))))] _ ⟨⟨V, E⟩, ⟨E, V⟩, E⟩ E E (JS.endJA (W (y48 + 1)) h (Es E) (Bs E E) [0, 1, 2, 3, 4, 5, 6] E [0, 1, 3, 4, 5] E E)
   have h := condF h ht92
   refine JS.skip (JS.endJA (Q12 x0).1 h (Es E) (Bs E E) [0, 1, 2, 3, 4, 5, 6] E [0, 1, 3, 4, 5] E E)
  rintro x51 h
  subst hj101
  refine JS.seq (JS.rg ttOk 14 [(W (x51 + 1)), (W (y48 + 1))] [] [(52, .v (.bool (bif (bif (decide (x2 = 1)) then (!(decide ((Q12 x0).1 = 0))) else false) then (decide ((W (x51 + 1)) = (W (y48 + 1)))) else false)))] _ ⟨(fun q93 => ⟨V, E⟩), (fun q94 => ⟨V, E⟩), ⟨E, V⟩, E⟩ E E ?_)
  refine JS.cond E (fun ht100 => ?_) (fun ht100 => ?_)
  ·
   have h := condT h ht100
   refine JS.seq ?_
   obtain ⟨y56, hy57, h⟩ := bindO_some h
   obtain ⟨y60, hy61, h⟩ := bindO_some h
   refine JS.regionA E (.new 8 46 (cl46 x0 a4 c5 a8 c9 a12 c13 a16 c17 a20 c21 a24 c25) .nil) [] [5, 6, 7] ⟨E, E, E, E, V⟩ E (fun be62 => ?_)
   refine JA.reg ttOk panic_cx true 4 [0, 1, 3, 4] E (by kernel_rfl) [] [(54, .v (.agg #[.slice a16 (Q12 x0).2.1.1.length c17, .int .i64 (Q12 x0).2.1.2])), (57, .v (I x0.2.1))] ⟨E, E, E, E, V⟩ [] E E (Es E) (JA.one 2 (by kernel_rfl) (JK.call E E E E (ok_i_copyLine (Q12 x0).2.1 a16 c17 (Q12 x0).2.1.1.length E _ hy57) E [3] E E ?_))
   rintro ⟨a58, c59⟩ -
   refine JA.next ⟨E, E, E, E, V⟩ [] E (JA.one 5 (by kernel_rfl) (JK.call E E E E (ok_i_inCommand y56 x0.2.1 a58 c59 y56.1.length E _ hy61) E [7] E E fun _ _ => JA.nextL E (JA.regL ttOk panic_cx 1 [6] E (by kernel_rfl) [] [(59, .bp 33 2)] E ⟨E, V⟩ (JA.one 7 (by kernel_rfl) (JK.stBox ttOk E E E E E E E E (JA.nextL E (JA.done (by kernel_rfl) (JS.boxes (B' := (.new 10 46 cz46 (.new 33 46 (cl46 (y34.1, y34.2.1, (y56.1, y60.2), y34.2.2.2.1, (Q4 y34).1, (Q4 y34).2.1, (Q4 y34).2.2.1, (Q4 y34).2.2.2.1, (Q8 y34).1, (Q8 y34).2.1, (Q8 y34).2.2.1, [], (Q12 y34).1, (Q12 y34).2.1, (Q12 y34).2.2.1, (Q12 y34).2.2.2.1, (Q16 y34)) a58 c59 a38 c39 none 0 a42 c43 a44 c45 a46 c47) .nil))) (Bs E E) (JS.rgB ttOk 5 [] [] [] (.new 10 46 cz46 (.new 33 46 (cl46 (y34.1, y34.2.1, (y56.1, y60.2), y34.2.2.2.1, (Q4 y34).1, (Q4 y34).2.1, (Q4 y34).2.2.1, (Q4 y34).2.2.2.1, (Q8 y34).1, (Q8 y34).2.1, (Q8 y34).2.2.1, [], 0, ([], 0), (Q12 y34).2.2.1, (Q12 y34).2.2.2.1, (Q16 y34)) a58 c59 a38 c39 none 0 none 0 a44 c45 a46 c47) .nil)) ⟨V, (Bs E E)⟩ E E (JS.rgB ttOk 3 [] [] [(7, .v (.bool true))] (.new 10 46 (cl46 (y34.1, y34.2.1, (y56.1, y60.2), y34.2.2.2.1, (Q4 y34).1, (Q4 y34).2.1, (Q4 y34).2.2.1, (Q4 y34).2.2.2.1, (Q8 y34).1, (Q8 y34).2.1, (Q8 y34).2.2.1, [], 0, ([], 0), (Q12 y34).2.2.1, (Q12 y34).2.2.2.1, (Q16 y34)) a58 c59 a38 c39 none 0 none 0 a44 c45 a46 c47) .nil) ⟨⟨E, V⟩, (Bs E E)⟩ E E ?_))))))))))
   cases h
   refine JS.nilO (.int .i64) Sl.nil E E (JS.ret ttOk (a58, c59, a38, c39, none, 0, a44, c45, a46, c47) V E E [1, 2, 0, 2, 2] E)
  have h := condF h ht100
  refine JS.skip (JS.seq (JS.region (JO.reg ttOk 4 [(W (x51 + x2))] [] [(65, .v (.agg #[.int .i64 x1.1, .slice a28 x1.2.length c29])), (68, .v (I (W (x51 + x2))))] _ E ⟨⟨V, E⟩, (Es E), E⟩ ?_)))
  obtain ⟨⟨y63, y64⟩, hy65, h⟩ := bindO_some h
  refine JO.call E E E E (ok_i_HistGet x1 (W (x51 + x2)) a28 c29 x1.2.length E _ hy65) E [6] E E fun _ _ => JO.reg ttOk 5 [] [] [(11, .v (.string (bs y63))), (12, .v (.bool y64))] _ E ⟨(Es E), E⟩ (JO.done E (JS.seq (JS.region (JO.reg ttOk 1 [] [] [(73, .v (.string (bs y63)))] _ E ⟨⟨E, V⟩, E⟩ ?_))))
  obtain ⟨⟨y66, y67⟩, hy68, h⟩ := bindO_some h
  refine JO.call E E E E (ok_i_LineOf y63 _ hy68) E [] E E ?_
  rintro ⟨a69, c70⟩ -
  refine JO.regB ttOk 6 [] [55] [(13, .bp 55 0), (14, .v (.bool y67))] (.new 8 46 (cl46 x0 a4 c5 a8 c9 a12 c13 a16 c17 a20 c21 a24 c25) (.new 10 46 cz46 (.new 33 46 (cl46 (y34.1, y34.2.1, y34.2.2.1, y34.2.2.2.1, (Q4 y34).1, (Q4 y34).2.1, (Q4 y34).2.2.1, (Q4 y34).2.2.2.1, (Q8 y34).1, (Q8 y34).2.1, (Q8 y34).2.2.1, [], (Q12 y34).1, (Q12 y34).2.1, (Q12 y34).2.2.1, (Q12 y34).2.2.2.1, (Q16 y34)) a36 c37 a38 c39 none 0 a42 c43 a44 c45 a46 c47) (.new 55 38 [.slice a69 y66.1.length c70, .int .i64 y66.2] .nil)))) E ⟨(Es E), (Bs E E)⟩ (JO.done E (JS.seq (JS.rg0 ttOk 6 [(82, .v (.bool (bif (!y64) then true else (!y67))))] ⟨⟨E, V⟩, E⟩ E E ?_)))
  refine JS.cond E (fun ht99 => ?_) (fun ht99 => ?_)
  ·
   have h := condT h ht99
   refine JS.rgB ttOk 3 [] [] [(7, .v (.bool false))] (.new 10 46 cz46 .nil) ⟨⟨E, V⟩, (Bs E E)⟩ E E ?_
   cases h
   refine JS.nilO (.int .i64) Sl.nil E E (JS.nilO (.sl (.int .i64)) Sl.nil E E (JS.nilO (.int .i64) Sl.nil E E (JS.nilO (.int .i64) Sl.nil E E (JS.nilO (.int .i64) Sl.nil E E (JS.ret ttOk (none, 0, none, 0, none, 0, none, 0, none, 0) V E E [4, 3, 2, 1, 0] E)))))
  have h := condF h ht99
  refine JS.skip ?_
  obtain ⟨j73, hj98, h⟩ := joinO_some h
  refine JS.seqJ (ι := Int) ⟨fun z => j73 z = some r, fun z => [(2, .v (I x2)), (3, .bp 8 0), (6, .bp 10 0), (8, .bp 33 0), (10, .v (I x51)), (13, .bp 55 0)], fun z => (.new 8 46 (cl46 x0 a4 c5 a8 c9 a12 c13 a16 c17 a20 c21 a24 c25) (.new 10 46 cz46 (.new 33 46 (cl46 (y34.1, y34.2.1, y34.2.2.1, y34.2.2.2.1, (Q4 y34).1, (Q4 y34).2.1, (Q4 y34).2.2.1, (Q4 y34).2.2.2.1, (Q8 y34).1, (Q8 y34).2.1, (Q8 y34).2.2.1, [], (Q12 y34).1, (Q12 y34).2.1, (Q12 y34).2.2.1, (Q12 y34).2.2.2.1, (Q16 y34)) a36 c37 a38 c39 none 0 a42 c43 a44 c45 a46 c47) (.new 55 38 [.slice a69 y66.1.length c70, .int .i64 z] .nil)))), fun z => (fl32 x0 a4 c5 a8 c9 a12 c13 a16 c17 a20 c21 a24 c25 []), fun z => [⟨(.int .i64), ⟨a36, y34.2.2.1.1.length, c37⟩, y34.2.2.1.1⟩, ⟨(.sl (.int .i64)), ⟨a38, (Q8 y34).2.2.1.length, c39⟩, (Q8 y34).2.2.1⟩, ⟨(.int .i64), ⟨a42, (Q12 y34).2.1.1.length, c43⟩, (Q12 y34).2.1.1⟩, ⟨(.int .i64), ⟨a44, (Q12 y34).2.2.1.length, c45⟩, (Q12 y34).2.2.1⟩, ⟨(.int .i64), ⟨a46, (Q16 y34).1.length, c47⟩, (Q16 y34).1⟩, ⟨(.int .i64), ⟨a69, y66.1.length, c70⟩, y66.1⟩], fun z => 0⟩ ?_ ?_
  ·
   refine JS.rg0 ttOk 3 [(86, .v (.bool (decide (x0.2.1 = 2))))] ⟨⟨E, V⟩, E⟩ E E ?_
   refine JS.cond E (fun ht95 => ?_) (fun ht95 => ?_)
   ·
    have h := condT h ht95
    refine JS.reB ttOk 2 [] [] [] (.new 8 46 (cl46 x0 a4 c5 a8 c9 a12 c13 a16 c17 a20 c21 a24 c25) (.new 10 46 cz46 (.new 33 46 (cl46 (y34.1, y34.2.1, y34.2.2.1, y34.2.2.2.1, (Q4 y34).1, (Q4 y34).2.1, (Q4 y34).2.2.1, (Q4 y34).2.2.2.1, (Q8 y34).1, (Q8 y34).2.1, (Q8 y34).2.2.1, [], (Q12 y34).1, (Q12 y34).2.1, (Q12 y34).2.2.1, (Q12 y34).2.2.2.1, (Q16 y34)) a36 c37 a38 c39 none 0 a42 c43 a44 c45 a46 c47) (.new 55 38 [.slice a69 y66.1.length c70, .int .i64 0] .nil)))) ⟨V, (Bs E E)⟩ E E (JS.endJA 0 h (Es E) (Bs E E) [0, 1, 2, 3, 4, 5] E [1, 2, 3, 4, 5, 0] E E)
   have h := condF h ht95
   refine JS.skip (JS.endJA y66.2 h (Es E) (Bs E E) [0, 1, 2, 3, 4, 5] E [1, 2, 3, 4, 5, 0] E E)
  rintro x72 h
  subst hj98
  obtain ⟨j84, hj97, h⟩ := joinO_some h
  refine JS.seqJ (ι := List Int × Int × Option Addr × Nat) ⟨fun z => j84 (z.1, z.2.1) = some r, fun z => [(2, .v (I x2)), (6, .bp 10 0), (8, .bp 33 0), (10, .v (I x51)), (13, .bp 55 0)], fun z => (.new 10 46 cz46 (.new 33 46 (cl46 (y34.1, y34.2.1, y34.2.2.1, y34.2.2.2.1, (Q4 y34).1, (Q4 y34).2.1, (Q4 y34).2.2.1, (Q4 y34).2.2.2.1, (Q8 y34).1, (Q8 y34).2.1, (Q8 y34).2.2.1, [], (Q12 y34).1, (z.1, z.2.1), (Q12 y34).2.2.1, (Q12 y34).2.2.2.1, (Q16 y34)) a36 c37 a38 c39 none 0 z.2.2.1 z.2.2.2 a44 c45 a46 c47) (.new 55 38 [.slice a69 y66.1.length c70, .int .i64 x72] .nil))), fun z => [], fun z => [⟨(.int .i64), ⟨z.2.2.1, z.1.length, z.2.2.2⟩, z.1⟩, ⟨(.int .i64), ⟨a36, y34.2.2.1.1.length, c37⟩, y34.2.2.1.1⟩, ⟨(.sl (.int .i64)), ⟨a38, (Q8 y34).2.2.1.length, c39⟩, (Q8 y34).2.2.1⟩, ⟨(.int .i64), ⟨a44, (Q12 y34).2.2.1.length, c45⟩, (Q12 y34).2.2.1⟩, ⟨(.int .i64), ⟨a46, (Q16 y34).1.length, c47⟩, (Q16 y34).1⟩, ⟨(.int .i64), ⟨a69, y66.1.length, c70⟩, y66.1⟩], fun z => 0⟩ ?_ ?_
  ·
   refine JS.rg0 ttOk 3 [(90, .v (.bool (decide ((Q12 x0).1 = 0))))] ⟨⟨E, V⟩, E⟩ E E ?_
   refine JS.cond E (fun ht96 => ?_) (fun ht96 => ?_)
   ·
    have h := condT h ht96
    refine JS.region (JO.reg ttOk 2 [] [] [(92, .v (.agg #[.slice a4 x0.2.2.1.1.length c5, .int .i64 x0.2.2.1.2]))] _ E ⟨⟨E, V⟩, E⟩ ?_)
    obtain ⟨y75, hy76, h⟩ := bindO_some h
    refine JO.call E E E E (ok_i_copyLine x0.2.2.1 a4 c5 x0.2.2.1.1.length E _ hy76) E [0] E E ?_
    rintro ⟨a77, c78⟩ -
    refine JO.regB ttOk 2 [] [] [] (.new 10 46 cz46 (.new 33 46 (cl46 (y34.1, y34.2.1, y34.2.2.1, y34.2.2.2.1, (Q4 y34).1, (Q4 y34).2.1, (Q4 y34).2.2.1, (Q4 y34).2.2.2.1, (Q8 y34).1, (Q8 y34).2.1, (Q8 y34).2.2.1, [], (Q12 y34).1, y75, (Q12 y34).2.2.1, (Q12 y34).2.2.2.1, (Q16 y34)) a36 c37 a38 c39 none 0 a77 c78 a44 c45 a46 c47) (.new 55 38 [.slice a69 y66.1.length c70, .int .i64 x72] .nil))) E ⟨V, (Bs E E)⟩ (JO.done E (JS.endJA (y75.1, y75.2, a77, c78) h (Es E) (Bs E E) [] E [0, 1, 2, 4, 5, 6] E E))
   have h := condF h ht96
   refine JS.skip (JS.endJA ((Q12 y34).2.1.1, (Q12 y34).2.1.2, a42, c43) h (Es E) (Bs E E) [] E [2, 0, 1, 3, 4, 5] E E)
  rintro ⟨x80, x83, a81, c82⟩ h
  subst hj97
  refine JS.rgB ttOk 8 [(W (x51 + x2))] [] [] (.new 10 46 cz46 (.new 33 46 (cl46 (y34.1, y34.2.1, (y66.1, x72), y34.2.2.2.1, (Q4 y34).1, (Q4 y34).2.1, (Q4 y34).2.2.1, (Q4 y34).2.2.2.1, (Q8 y34).1, (Q8 y34).2.1, (Q8 y34).2.2.1, [], (W (x51 + x2)), (x80, x83), (Q12 y34).2.2.1, (Q12 y34).2.2.2.1, (Q16 y34)) a69 c70 a38 c39 none 0 a81 c82 a44 c45 a46 c47) .nil)) ⟨⟨V, E⟩, V, (Bs E E)⟩ E E (JS.rgB ttOk 3 [] [] [(7, .v (.bool true))] (.new 10 46 (cl46 (y34.1, y34.2.1, (y66.1, x72), y34.2.2.2.1, (Q4 y34).1, (Q4 y34).2.1, (Q4 y34).2.2.1, (Q4 y34).2.2.2.1, (Q8 y34).1, (Q8 y34).2.1, (Q8 y34).2.2.1, [], (W (x51 + x2)), (x80, x83), (Q12 y34).2.2.1, (Q12 y34).2.2.2.1, (Q16 y34)) a69 c70 a38 c39 none 0 a81 c82 a44 c45 a46 c47) .nil) ⟨⟨E, V⟩, (Bs E E)⟩ E E ?_)
  cases h
  exact JS.ret ttOk (a69, c70, a38, c39, a81, c82, a44, c45, a46, c47) V E E [5, 2, 0, 1, 1] E

def M_i_bell (x0 : EdQ) : Option (EdQ × Int) :=
  (bindO (M_i_settled x0 0) fun (y26 : EdQ) =>
  some (y26, 1))

theorem ok_i_bell (x0 : EdQ) (a2 : Option Addr) (c3 : Nat) (l4 : Nat) (hl5 : x0.2.2.1.1.length = l4) (a6 : Option Addr) (c7 : Nat) (l8 : Nat) (hl9 : (Q8 x0).2.2.1.length = l8) (a10 : Option Addr) (c11 : Nat) (l12 : Nat) (hl13 : (Q8 x0).2.2.2.1.length = l12) (a14 : Option Addr) (c15 : Nat) (l16 : Nat) (hl17 : (Q12 x0).2.1.1.length = l16) (a18 : Option Addr) (c19 : Nat) (l20 : Nat) (hl21 : (Q12 x0).2.2.1.length = l20) (a22 : Option Addr) (c23 : Nat) (l24 : Nat) (hl25 : (Q16 x0).1.length = l24) (r : EdQ × Int) (h : M_i_bell x0 = some r) :
  FC Tryz.prog 119 [.agg #[.bool x0.1, .int .i64 x0.2.1, .slice a2 l4 c3, .int .i64 x0.2.2.1.2, .int .i64 x0.2.2.2.1, .int .i64 (Q4 x0).1, .int .i64 (Q4 x0).2.1, .int .i64 (Q4 x0).2.2.1, .int .i64 (Q4 x0).2.2.2.1, .int .i64 (Q8 x0).1, .int .i64 (Q8 x0).2.1, .slice a6 l8 c7, .slice a10 l12 c11, .int .i64 (Q12 x0).1, .slice a14 l16 c15, .int .i64 (Q12 x0).2.1.2, .slice a18 l20 c19, .int .i64 (Q12 x0).2.2.2.1, .slice a22 l24 c23, .int .i64 (Q16 x0).2]] [⟨(.int .i64), ⟨a2, l4, c3⟩, x0.2.2.1.1⟩, ⟨(.sl (.int .i64)), ⟨a6, l8, c7⟩, (Q8 x0).2.2.1⟩, ⟨(.pair (.sl (.int .i64)) (.int .i64)), ⟨a10, l12, c11⟩, (Q8 x0).2.2.2.1⟩, ⟨(.int .i64), ⟨a14, l16, c15⟩, (Q12 x0).2.1.1⟩, ⟨(.int .i64), ⟨a18, l20, c19⟩, (Q12 x0).2.2.1⟩, ⟨(.int .i64), ⟨a22, l24, c23⟩, (Q16 x0).1⟩] (fun _ : Option Addr × Nat × Option Addr × Nat × Option Addr × Nat × Option Addr × Nat × Option Addr × Nat × Option Addr × Nat => True) (fun q => .tuple #[.agg (cl46 r.1 q.1 q.2.1 q.2.2.1 q.2.2.2.1 (Q4 q).1 (Q4 q).2.1 (Q4 q).2.2.1 (Q4 q).2.2.2.1 (Q8 q).1 (Q8 q).2.1 (Q8 q).2.2.1 (Q8 q).2.2.2).toArray, .int .i64 r.2]) (fun q => (fl32 r.1 q.1 q.2.1 q.2.2.1 q.2.2.2.1 (Q4 q).1 (Q4 q).2.1 (Q4 q).2.2.1 (Q4 q).2.2.2.1 (Q8 q).1 (Q8 q).2.1 (Q8 q).2.2.1 (Q8 q).2.2.2 [])) :=
 by
  subst hl5
  subst hl9
  subst hl13
  subst hl17
  subst hl21
  subst hl25
  refine FC.of (T := TTx) Tryz.call119 Tryz.func119 E E fun w0 => ?_
  unfold M_i_bell at h
  refine JS.rgB ttOk 3 [] [7, 8] [(1, .bp 7 0), (2, .bp 8 0)] (.new 7 46 (cl46 x0 a2 c3 a6 c7 a10 c11 a14 c15 a18 c19 a22 c23) (.new 8 46 cz46 .nil)) ⟨(Es E), (Bs E E)⟩ E E (JS.seq (JS.region (JO.reg ttOk 1 [] [] [(4, .v (.agg (cl46 x0 a2 c3 a6 c7 a10 c11 a14 c15 a18 c19 a22 c23).toArray))] _ E ⟨⟨E, V⟩, E⟩ ?_)))
  obtain ⟨y26, hy27, h⟩ := bindO_some h
  refine JO.call E E E E (ok_i_settled x0 0 a2 c3 x0.2.2.1.1.length E a6 c7 (Q8 x0).2.2.1.length E a10 c11 (Q8 x0).2.2.2.1.length E a14 c15 (Q12 x0).2.1.1.length E a18 c19 (Q12 x0).2.2.1.length E a22 c23 (Q16 x0).1.length E _ hy27) E [0, 1, 2, 3, 4, 5] E E ?_
  rintro ⟨a28, c29, a30, c31, a32, c33, a34, c35, a36, c37, a38, c39⟩ -
  refine JO.regB ttOk 2 [] [] [(3, .v (I 1))] (.new 8 46 (cl46 y26 a28 c29 a30 c31 a32 c33 a34 c35 a36 c37 a38 c39) .nil) E ⟨⟨E, V⟩, (Bs E E)⟩ (JO.done E ?_)
  cases h
  exact JS.ret ttOk (a28, c29, a30, c31, a32, c33, a34, c35, a36, c37, a38, c39) V E E [0, 0, 0, 0, 0, 0] E

def M_i_step (x0 : EdQ) (x1 : Int × List (List UInt8)) (x2 : Int) : Option (EdQ × Int) :=
  (bindO (M_i_EdStep x0 x1 x2) fun (y32, y33) =>
  (bif (!y33) then
  (bindO (M_i_bell x0) fun (y45, y46) =>
  some (y45, y46))
  else
  some ((y32.1, y32.2.1, y32.2.2.1, y32.2.2.2.1, y32.2.2.2.2.1, y32.2.2.2.2.2.1, y32.2.2.2.2.2.2.1, y32.2.2.2.2.2.2.2.1, y32.2.2.2.2.2.2.2.2.1, y32.2.2.2.2.2.2.2.2.2.1, y32.2.2.2.2.2.2.2.2.2.2.1, [], y32.2.2.2.2.2.2.2.2.2.2.2.2.1, y32.2.2.2.2.2.2.2.2.2.2.2.2.2.1, y32.2.2.2.2.2.2.2.2.2.2.2.2.2.2.1, y32.2.2.2.2.2.2.2.2.2.2.2.2.2.2.2.1, y32.2.2.2.2.2.2.2.2.2.2.2.2.2.2.2.2), 0)))

theorem ok_i_step (x0 : EdQ) (x1 : Int × List (List UInt8)) (x2 : Int) (a4 : Option Addr) (c5 : Nat) (l6 : Nat) (hl7 : x0.2.2.1.1.length = l6) (a8 : Option Addr) (c9 : Nat) (l10 : Nat) (hl11 : (Q8 x0).2.2.1.length = l10) (a12 : Option Addr) (c13 : Nat) (l14 : Nat) (hl15 : (Q8 x0).2.2.2.1.length = l14) (a16 : Option Addr) (c17 : Nat) (l18 : Nat) (hl19 : (Q12 x0).2.1.1.length = l18) (a20 : Option Addr) (c21 : Nat) (l22 : Nat) (hl23 : (Q12 x0).2.2.1.length = l22) (a24 : Option Addr) (c25 : Nat) (l26 : Nat) (hl27 : (Q16 x0).1.length = l26) (a28 : Option Addr) (c29 : Nat) (l30 : Nat) (hl31 : x1.2.length = l30) (r : EdQ × Int) (h : M_i_step x0 x1 x2 = some r) :
  FC Tryz.prog 171 [.agg #[.bool x0.1, .int .i64 x0.2.1, .slice a4 l6 c5, .int .i64 x0.2.2.1.2, .int .i64 x0.2.2.2.1, .int .i64 (Q4 x0).1, .int .i64 (Q4 x0).2.1, .int .i64 (Q4 x0).2.2.1, .int .i64 (Q4 x0).2.2.2.1, .int .i64 (Q8 x0).1, .int .i64 (Q8 x0).2.1, .slice a8 l10 c9, .slice a12 l14 c13, .int .i64 (Q12 x0).1, .slice a16 l18 c17, .int .i64 (Q12 x0).2.1.2, .slice a20 l22 c21, .int .i64 (Q12 x0).2.2.2.1, .slice a24 l26 c25, .int .i64 (Q16 x0).2], .agg #[.int .i64 x1.1, .slice a28 l30 c29], .int .i64 x2] [⟨(.int .i64), ⟨a4, l6, c5⟩, x0.2.2.1.1⟩, ⟨(.sl (.int .i64)), ⟨a8, l10, c9⟩, (Q8 x0).2.2.1⟩, ⟨(.pair (.sl (.int .i64)) (.int .i64)), ⟨a12, l14, c13⟩, (Q8 x0).2.2.2.1⟩, ⟨(.int .i64), ⟨a16, l18, c17⟩, (Q12 x0).2.1.1⟩, ⟨(.int .i64), ⟨a20, l22, c21⟩, (Q12 x0).2.2.1⟩, ⟨(.int .i64), ⟨a24, l26, c25⟩, (Q16 x0).1⟩, ⟨.str, ⟨a28, l30, c29⟩, x1.2⟩] (fun _ : Option Addr × Nat × Option Addr × Nat × Option Addr × Nat × Option Addr × Nat × Option Addr × Nat × Option Addr × Nat => True) (fun q => .tuple #[.agg (cl46 r.1 q.1 q.2.1 q.2.2.1 q.2.2.2.1 (Q4 q).1 (Q4 q).2.1 (Q4 q).2.2.1 (Q4 q).2.2.2.1 (Q8 q).1 (Q8 q).2.1 (Q8 q).2.2.1 (Q8 q).2.2.2).toArray, .int .i64 r.2]) (fun q => (fl32 r.1 q.1 q.2.1 q.2.2.1 q.2.2.2.1 (Q4 q).1 (Q4 q).2.1 (Q4 q).2.2.1 (Q4 q).2.2.2.1 (Q8 q).1 (Q8 q).2.1 (Q8 q).2.2.1 (Q8 q).2.2.2 [])) :=
 by
  subst hl7
  subst hl11
  subst hl15
  subst hl19
  subst hl23
  subst hl27
  subst hl31
  refine FC.of (T := TTx) Tryz.call171 Tryz.func171 E E fun w0 => ?_
  unfold M_i_step at h
  refine JS.rgB ttOk 4 [] [8, 9, 10] [(3, .bp 8 0), (4, .bp 9 0), (6, .bp 10 0)] (.new 8 46 (cl46 x0 a4 c5 a8 c9 a12 c13 a16 c17 a20 c21 a24 c25) (.new 9 50 [.int .i64 x1.1, .slice a28 x1.2.length c29] (.new 10 46 cz46 .nil))) ⟨(Es E), (Bs E E)⟩ E E (JS.seq (JS.region (JO.reg ttOk 3 [] [] [(11, .v (.agg (cl46 x0 a4 c5 a8 c9 a12 c13 a16 c17 a20 c21 a24 c25).toArray)), (12, .v (.agg #[.int .i64 x1.1, .slice a28 x1.2.length c29])), (13, .v (I x2))] _ E ⟨(Es E), E⟩ ?_)))
  obtain ⟨⟨y32, y33⟩, hy34, h⟩ := bindO_some h
  refine JO.call E E E E (ok_i_EdStep x0 x1 x2 a4 c5 x0.2.2.1.1.length E a8 c9 (Q8 x0).2.2.1.length E a12 c13 (Q8 x0).2.2.2.1.length E a16 c17 (Q12 x0).2.1.1.length E a20 c21 (Q12 x0).2.2.1.length E a24 c25 (Q16 x0).1.length E a28 c29 x1.2.length E _ hy34) E [0, 1, 2, 3, 4, 5, 6] E E ?_
  rintro ⟨a35, c36, a37, c38, a39, c40, a41, c42, a43, c44⟩ -
  refine JO.regB ttOk 6 [] [29] [(8, .bp 29 0), (9, .v (.bool y33))] (.new 8 46 (cl46 x0 a4 c5 a8 c9 a12 c13 a16 c17 a20 c21 a24 c25) (.new 10 46 cz46 (.new 29 46 (cl46 (y32.1, y32.2.1, y32.2.2.1, y32.2.2.2.1, (Q4 y32).1, (Q4 y32).2.1, (Q4 y32).2.2.1, (Q4 y32).2.2.2.1, (Q8 y32).1, (Q8 y32).2.1, (Q8 y32).2.2.1, [], (Q12 y32).1, (Q12 y32).2.1, (Q12 y32).2.2.1, (Q12 y32).2.2.2.1, (Q16 y32)) a35 c36 a37 c38 none 0 a39 c40 a41 c42 a43 c44) .nil))) E ⟨(Es E), (Bs E E)⟩ (JO.done E (JS.seq (JS.rg0 ttOk 2 [(18, .v (.bool (!y33)))] ⟨⟨E, V⟩, E⟩ E E ?_)))
  refine JS.cond E (fun ht61 => ?_) (fun ht61 => ?_)
  ·
   have h := condT h ht61
   refine JS.seq (JS.region (JO.reg ttOk 1 [] [] [(19, .v (.agg (cl46 x0 a4 c5 a8 c9 a12 c13 a16 c17 a20 c21 a24 c25).toArray))] _ E ⟨⟨E, V⟩, E⟩ ?_))
   obtain ⟨⟨y45, y46⟩, hy47, h⟩ := bindO_some h
   refine JO.call E E E E (ok_i_bell x0 a4 c5 x0.2.2.1.1.length E a8 c9 (Q8 x0).2.2.1.length E a12 c13 (Q8 x0).2.2.2.1.length E a16 c17 (Q12 x0).2.1.1.length E a20 c21 (Q12 x0).2.2.1.length E a24 c25 (Q16 x0).1.length E _ hy47) E [0, 1, 2, 3, 4, 5] E E ?_
   rintro ⟨a48, c49, a50, c51, a52, c53, a54, c55, a56, c57, a58, c59⟩ -
   refine JO.regB ttOk 4 [] [] [(7, .v (I y46))] (.new 10 46 (cl46 y45 a48 c49 a50 c51 a52 c53 a54 c55 a56 c57 a58 c59) .nil) E ⟨⟨E, V⟩, (Bs E E)⟩ (JO.done E ?_)
   cases h
   exact JS.ret ttOk (a48, c49, a50, c51, a52, c53, a54, c55, a56, c57, a58, c59) V E E [0, 0, 0, 0, 0, 0] E
  have h := condF h ht61
  refine JS.skip (JS.rgB ttOk 3 [] [] [(7, .v (I 0))] (.new 10 46 (cl46 (y32.1, y32.2.1, y32.2.2.1, y32.2.2.2.1, (Q4 y32).1, (Q4 y32).2.1, (Q4 y32).2.2.1, (Q4 y32).2.2.2.1, (Q8 y32).1, (Q8 y32).2.1, (Q8 y32).2.2.1, [], (Q12 y32).1, (Q12 y32).2.1, (Q12 y32).2.2.1, (Q12 y32).2.2.2.1, (Q16 y32)) a35 c36 a37 c38 none 0 a39 c40 a41 c42 a43 c44) .nil) ⟨⟨E, V⟩, (Bs E E)⟩ E E ?_)
  cases h
  refine JS.nilO (.pair (.sl (.int .i64)) (.int .i64)) Sl.nil E E (JS.ret ttOk (a35, c36, a37, c38, none, 0, a39, c40, a41, c42, a43, c44) V E E [1, 1, 0, 0, 0, 0] E)

def M_i_goTo (x0 : List Int × Int) (x1 : Int) : Option (List Int × Int) :=
  (bindO (M_i_copyInts x0.1) fun (y7 : List Int) =>
  some (y7, (max (0 : Int) (min x1 (x0.1.length : Int)))))

theorem ok_i_goTo (x0 : List Int × Int) (x1 : Int) (a3 : Option Addr) (c4 : Nat) (l5 : Nat) (hl6 : x0.1.length = l5) (r : List Int × Int) (h : M_i_goTo x0 x1 = some r) :
  FC Tryz.prog 170 [.agg #[.slice a3 l5 c4, .int .i64 x0.2], .int .i64 x1] [⟨(.int .i64), ⟨a3, l5, c4⟩, x0.1⟩] (fun _ : Option Addr × Nat => True) (fun q => .agg #[.slice q.1 r.1.length q.2, .int .i64 r.2]) (fun q => [⟨(.int .i64), ⟨q.1, r.1.length, q.2⟩, r.1⟩]) :=
 by
  subst hl6
  refine FC.of (T := TTx) Tryz.call170 Tryz.func170 E E fun w0 => ?_
  unfold M_i_goTo at h
  refine JS.rgB ttOk 2 [] [2, 3] [(2, .bp 2 0), (4, .bp 3 0)] (.new 2 38 [.slice a3 x0.1.length c4, .int .i64 x0.2] (.new 3 38 [.slice none 0 0, .int .i64 0] .nil)) ⟨(Es E), (Bs E E)⟩ E E (JS.seq ?_)
  obtain ⟨y7, hy8, h⟩ := bindO_some h
  refine JS.regionA E (.new 2 38 [.slice a3 x0.1.length c4, .int .i64 x0.2] .nil) [] [9, 10] ⟨E, E, E, E, V⟩ E (fun be11 => ?_)
  refine JA.reg ttOk panic_cx true 3 [0, 1, 3, 4, 5, 6, 7, 8] E (by kernel_rfl) [] [(6, .v (.slice a3 x0.1.length c4)), (13, .v (I (max (0 : Int) (min x1 (x0.1.length : Int)))))] ⟨E, E, E, E, V⟩ [] E E (Es E) (JA.one 2 (by kernel_rfl) (JK.call E E E E (ok_i_copyInts x0.1 a3 c4 x0.1.length E _ hy8) E [0] E E ?_))
  rintro ⟨a9, c10⟩ -
  refine JA.next ⟨E, E, E, E, V⟩ [] E (JA.regL ttOk panic_cx 1 [9] E (by kernel_rfl) [] [(14, .v (.agg #[.slice a9 y7.length c10, .int .i64 (max (0 : Int) (min x1 (x0.1.length : Int)))]))] E ⟨E, V⟩ (JA.one 10 (by kernel_rfl) (JK.stBox ttOk E E E E E E E E (JA.nextL E (JA.done (by kernel_rfl) (JS.boxes (B' := (.new 3 38 [.slice a9 y7.length c10, .int .i64 (max (0 : Int) (min x1 (x0.1.length : Int)))] .nil)) (Bs E E) ?_))))))
  cases h
  exact JS.ret ttOk (a9, c10) V E E [0] E

def M_i_sameInts_L1 (x0 : List Int) (x1 : List Int) (j28 : Unit → Option Bool) (k20 : Int → Option Bool) : Int → Option Bool := fun x11 =>
  (bif (decide (x11 < (x0.length : Int))) then
  (guardO (0 ≤ x11 ∧ x11 < (x0.length : Int)) <|
  (guardO (0 ≤ x11 ∧ x11 < (x1.length : Int)) <|
  (bif (!(decide ((at' x0 x11) = (at' x1 x11)))) then
  some false
  else
  k20 (W (x11 + 1)))))
  else
  j28 ())

def M_i_sameInts (x0 : List Int) (x1 : List Int) : Option Bool :=
  (bif (!(decide ((x0.length : Int) = (x1.length : Int)))) then
  some false
  else
  (joinO (fun (_ : Unit) =>
  some true) fun j28 =>
  (fixF (M_i_sameInts_L1 x0 x1 j28) FUEL 0)))

theorem ok_i_sameInts (x0 : List Int) (x1 : List Int) (a3 : Option Addr) (c4 : Nat) (l5 : Nat) (hl6 : x0.length = l5) (a7 : Option Addr) (c8 : Nat) (l9 : Nat) (hl10 : x1.length = l9) (r : Bool) (h : M_i_sameInts x0 x1 = some r) :
  FC Tryz.prog 258 [.slice a3 l5 c4, .slice a7 l9 c8] [⟨(.int .i64), ⟨a3, l5, c4⟩, x0⟩, ⟨(.int .i64), ⟨a7, l9, c8⟩, x1⟩] (fun _ : Unit => True) (fun _ => .bool r) (fun _ => []) :=
 by
  subst hl6
  subst hl10
  refine FC.of (T := TTx) Tryz.call258 Tryz.func258 E E fun w0 => ?_
  unfold M_i_sameInts at h
  refine JS.rg0 ttOk 1 [] ⟨V, E⟩ E E (JS.seq (JS.rg0 ttOk 5 [(10, .v (.bool (!(decide ((x0.length : Int) = (x1.length : Int))))))] ⟨⟨E, V⟩, E⟩ E E ?_))
  refine JS.cond E (fun ht44 => ?_) (fun ht44 => ?_)
  ·
   have h := condT h ht44
   refine JS.rg0 ttOk 1 [(4, .v (.bool false))] ⟨⟨E, V⟩, E⟩ E E ?_
   cases h
   exact JS.ret ttOk () V E E [] E
  have h := condF h ht44
  refine JS.skip (JS.seq (JS.rg0 ttOk 3 [(12, .v (I (x0.length : Int))), (13, .v (I 0))] ⟨(Es E), E⟩ E E ?_))
  obtain ⟨j28, hj43, h⟩ := joinO_some h
  refine JS.blockJ (ι := Unit) ⟨fun _ => j28 () = some r, fun _ => [], fun _ => .nil, fun _ => [], fun _ => [], fun _ => 0⟩ ?_ ?_
  ·
   refine JS.loop (ι := Nat × Int) ⟨fun z => fixF (M_i_sameInts_L1 x0 x1 j28) z.1 z.2 = some r, fun z => [(0, .v (.slice a3 x0.length c4)), (1, .v (.slice a7 x1.length c8)), (12, .v (I (x0.length : Int))), (13, .v (I z.2))], fun z => .nil, fun z => [⟨(.int .i64), ⟨a3, x0.length, c4⟩, x0⟩, ⟨(.int .i64), ⟨a7, x1.length, c8⟩, x1⟩], fun z => [], fun z => z.1⟩ (FUEL, 0) h (Es E) V [0, 1] E [] E ?_
   rintro ⟨n21, x11⟩ h
   obtain ⟨n21, rfl, h⟩ := fixF_some h
   rw [M_i_sameInts_L1] at h
   refine JS.rg0 ttOk 1 [(14, .v (.bool (decide (x11 < (x0.length : Int)))))] ⟨⟨E, V⟩, E⟩ E E (JS.seq ?_)
   refine JS.cond E (fun ht42 => ?_) (fun ht42 => ?_)
   ·
    have h := condT h ht42
    refine JS.skip (JS.seq (JS.block (JS.rg0 ttOk 2 [(5, .v (I x11))] ⟨⟨E, V⟩, E⟩ E E (JS.seq ?_))))
    obtain ⟨g13, h⟩ := guardO_some h
    obtain ⟨g15, h⟩ := guardO_some h
    refine JS.know 0 E fun hs39 => JS.know 1 E fun hs40 => JS.regionQ E (by kernel_rfl) (JQ.reg ttOk 3 [] [(18, .ep ⟨a3, x0.length, c4⟩ (Int.toNat x11 * 1))] E ⟨hs39.ix g13, ⟨E, V⟩⟩ (JQ.load ttOk E E E E E E E 0 E E (Int.toNat x11) 0 (at' x0 x11) ⟨at_some g13, E⟩ E E (JQ.reg ttOk 3 [] [(22, .ep ⟨a7, x1.length, c8⟩ (Int.toNat x11 * 1))] E ⟨hs40.ix g15, ⟨E, V⟩⟩ (JQ.load ttOk E E E E E E E 1 E E (Int.toNat x11) 0 (at' x1 x11) ⟨at_some g15, E⟩ E E (JQ.reg ttOk 1 [] [(24, .v (.bool (!(decide ((at' x0 x11) = (at' x1 x11))))))] E ⟨E, V⟩ (JQ.done E ?_))))))
    refine JS.cond E (fun ht41 => ?_) (fun ht41 => ?_)
    ·
     have h := condT h ht41
     refine JS.rg0 ttOk 1 [(4, .v (.bool false))] ⟨⟨E, V⟩, E⟩ E E ?_
     cases h
     exact JS.ret ttOk () V E E [] E
    have h := condF h ht41
    refine JS.skip (JS.endB (JS.re ttOk 2 [(W (x11 + 1))] [] [(13, .v (I (W (x11 + 1))))] _ ⟨⟨V, E⟩, ⟨E, V⟩, E⟩ E E (JS.endL (n21, (W (x11 + 1))) h (Nat.lt_succ_self _) (Es E) V [0, 1] E [] E)))
   have h := condF h ht42
   refine JS.exit E (JS.endJ () h V V [] E [] E)
  rintro _ h
  subst hj43
  refine JS.rg0 ttOk 1 [(4, .v (.bool true))] ⟨⟨E, V⟩, E⟩ E E ?_
  cases h
  exact JS.ret ttOk () V E E [] E

end
end Go.Eng
