/- The walks of the functions that FnExactShName reaches: what each computes, as a plain function (M_..), and that the model computes it (ok_..). Condition of each: that the plain function answers. -/
import Derived.Test.YtfpkjlgpjhlbbaaEngA
import Derived.Test.YtfpkjlgpjhlbbaaChecked
set_option linter.unusedVariables false
set_option linter.unusedSimpArgs false
namespace Go.Eng
open Go Go.Proofs

def TTx : TT := [
  (2, ⟨.int .i64, 1, 8, [.int .i64 0]⟩),
  (3, ⟨.int .i64, 1, 8, [.int .i64 0]⟩),
  (4, ⟨.bool, 1, 1, [.bool false]⟩),
  (5, ⟨.int .u8, 1, 1, [.int .u8 0]⟩),
  (6, ⟨.int .u8, 1, 1, [.int .u8 0]⟩),
  (7, ⟨.struct [(0, 2), (1, 3), (2, 4), (3, 6)], 4, 24, [.int .i64 0, .int .i64 0, .bool false, .int .u8 0]⟩),
  (8, ⟨.struct [(0, 2), (1, 3), (2, 4), (3, 6)], 4, 24, [.int .i64 0, .int .i64 0, .bool false, .int .u8 0]⟩),
  (9, ⟨.str, 1, 16, [.string ByteArray.empty]⟩),
  (10, ⟨.str, 1, 16, [.string ByteArray.empty]⟩),
  (11, ⟨.str, 1, 16, [.string ByteArray.empty]⟩),
  (12, ⟨.int .u64, 1, 8, [.int .u64 0]⟩),
  (13, ⟨.struct [(0, 9), (1, 12)], 2, 24, [.string ByteArray.empty, .int .u64 0]⟩),
  (14, ⟨.struct [(0, 9), (1, 12)], 2, 24, [.string ByteArray.empty, .int .u64 0]⟩),
  (21, ⟨.int .i32, 1, 4, [.int .i32 0]⟩),
  (29, ⟨.struct [(0, 3), (1, 3), (2, 9), (3, 3)], 4, 40, [.int .i64 0, .int .i64 0, .string ByteArray.empty, .int .i64 0]⟩),
  (30, ⟨.struct [(0, 3), (1, 3), (2, 9), (3, 3)], 4, 40, [.int .i64 0, .int .i64 0, .string ByteArray.empty, .int .i64 0]⟩),
  (34, ⟨.slice 3, 1, 24, [.slice none 0 0]⟩),
  (52, ⟨.int .u32, 1, 4, [.int .u32 0]⟩),
  (53, ⟨.int .u8, 1, 1, [.int .u8 0]⟩),
  (54, ⟨.int .u8, 1, 1, [.int .u8 0]⟩),
  (57, ⟨.int .i32, 1, 4, [.int .i32 0]⟩),
  (58, ⟨.int .i32, 1, 4, [.int .i32 0]⟩)]

theorem ttOk : TTok Try.prog TTx := TTok.of (by
  simp only [TTx, List.forall_mem_cons]
  exact ⟨⟨⟨_, _, rfl, rfl, rfl, rfl, rfl⟩, rfl⟩, ⟨⟨_, _, rfl, rfl, rfl, rfl, rfl⟩, rfl⟩, ⟨⟨_, _, rfl, rfl, rfl, rfl, rfl⟩, rfl⟩, ⟨⟨_, _, rfl, rfl, rfl, rfl, rfl⟩, rfl⟩, ⟨⟨_, _, rfl, rfl, rfl, rfl, rfl⟩, rfl⟩, ⟨⟨_, _, rfl, rfl, rfl, rfl, rfl⟩, ⟨_, rfl, rfl⟩⟩, ⟨⟨_, _, rfl, rfl, rfl, rfl, rfl⟩, ⟨_, rfl, rfl⟩⟩, ⟨⟨_, _, rfl, rfl, rfl, rfl, rfl⟩, rfl⟩, ⟨⟨_, _, rfl, rfl, rfl, rfl, rfl⟩, rfl⟩, ⟨⟨_, _, rfl, rfl, rfl, rfl, rfl⟩, rfl⟩, ⟨⟨_, _, rfl, rfl, rfl, rfl, rfl⟩, rfl⟩, ⟨⟨_, _, rfl, rfl, rfl, rfl, rfl⟩, ⟨_, rfl, rfl⟩⟩, ⟨⟨_, _, rfl, rfl, rfl, rfl, rfl⟩, ⟨_, rfl, rfl⟩⟩, ⟨⟨_, _, rfl, rfl, rfl, rfl, rfl⟩, rfl⟩, ⟨⟨_, _, rfl, rfl, rfl, rfl, rfl⟩, ⟨_, rfl, rfl⟩⟩, ⟨⟨_, _, rfl, rfl, rfl, rfl, rfl⟩, ⟨_, rfl, rfl⟩⟩, ⟨⟨_, _, rfl, rfl, rfl, rfl, rfl⟩, rfl⟩, ⟨⟨_, _, rfl, rfl, rfl, rfl, rfl⟩, rfl⟩, ⟨⟨_, _, rfl, rfl, rfl, rfl, rfl⟩, rfl⟩, ⟨⟨_, _, rfl, rfl, rfl, rfl, rfl⟩, rfl⟩, ⟨⟨_, _, rfl, rfl, rfl, rfl, rfl⟩, rfl⟩, ⟨⟨_, _, rfl, rfl, rfl, rfl, rfl⟩, rfl⟩, by simp⟩)

def M_s_ShName_L1 (x0 : List UInt8) (j35 : Unit → Option Bool) (k18 : Int → Option Bool) : Int → Option Bool := fun x2 =>
  (bif (decide (x2 < (x0.length : Int))) then
  (guardO (0 ≤ x2 ∧ x2 < (x0.length : Int)) <|
  (guardO (((decide ((97 : Int) ≤ ((at' x0 x2).toNat : Int))) = true) → 0 ≤ x2 ∧ x2 < (x0.length : Int)) <|
  (guardO (((bif (decide ((97 : Int) ≤ ((at' x0 x2).toNat : Int))) then (decide (((at' x0 x2).toNat : Int) ≤ (122 : Int))) else false) = false) → 0 ≤ x2 ∧ x2 < (x0.length : Int)) <|
  (guardO (((decide ((65 : Int) ≤ ((at' x0 x2).toNat : Int))) = true) → ((bif (decide ((97 : Int) ≤ ((at' x0 x2).toNat : Int))) then (decide (((at' x0 x2).toNat : Int) ≤ (122 : Int))) else false) = false) → 0 ≤ x2 ∧ x2 < (x0.length : Int)) <|
  (guardO (((bif (bif (decide ((97 : Int) ≤ ((at' x0 x2).toNat : Int))) then (decide (((at' x0 x2).toNat : Int) ≤ (122 : Int))) else false) then true else (bif (decide ((65 : Int) ≤ ((at' x0 x2).toNat : Int))) then (decide (((at' x0 x2).toNat : Int) ≤ (90 : Int))) else false)) = false) → 0 ≤ x2 ∧ x2 < (x0.length : Int)) <|
  (guardO (0 ≤ x2 ∧ x2 < (x0.length : Int)) <|
  (guardO (((decide ((48 : Int) ≤ ((at' x0 x2).toNat : Int))) = true) → 0 ≤ x2 ∧ x2 < (x0.length : Int)) <|
  (bif (bif (!(bif (bif (bif (decide ((97 : Int) ≤ ((at' x0 x2).toNat : Int))) then (decide (((at' x0 x2).toNat : Int) ≤ (122 : Int))) else false) then true else (bif (decide ((65 : Int) ≤ ((at' x0 x2).toNat : Int))) then (decide (((at' x0 x2).toNat : Int) ≤ (90 : Int))) else false)) then true else (decide (((at' x0 x2).toNat : Int) = (95 : Int))))) then (bif (!(bif (decide ((48 : Int) ≤ ((at' x0 x2).toNat : Int))) then (decide (((at' x0 x2).toNat : Int) ≤ (57 : Int))) else false)) then true else (decide (x2 = 0))) else false) then
  some false
  else
  k18 (W (x2 + 1))))))))))
  else
  j35 ())

def M_s_ShName (x0 : List UInt8) : Option Bool :=
  (joinO (fun (_ : Unit) =>
  some (decide (0 < (x0.length : Int)))) fun j35 =>
  (fixF (M_s_ShName_L1 x0 j35) FUEL 0))

theorem ok_s_ShName (x0 : List UInt8) (r : Bool) (h : M_s_ShName x0 = some r) :
    FC Try.prog 10 [.string (bs x0)] [] (fun _ : Unit => True) (fun _ => .bool r) (fun _ => []) :=
  FC.of (T := TTx) Try.call10 Try.func10 rfl rfl fun w0 => by
    unfold M_s_ShName at h
    refine JS.seq ?_
    refine JS.region ?_
    refine JO.reg ttOk 1 [] [] [] _ rfl ⟨trivial, rfl⟩ ?_
    refine JO.done rfl ?_
    refine JS.seq ?_
    refine JS.seq ?_
    refine JS.region ?_
    refine JO.reg ttOk 1 [] [] [(3, .v (.int .i64 0))] _ rfl ⟨⟨rfl, trivial⟩, rfl⟩ ?_
    refine JO.done rfl ?_
    obtain ⟨j35, hj67, h⟩ := joinO_some h
    refine JS.blockJ (ι := Unit) ⟨fun _ => j35 () = some r, fun _ => [(0, .v (.string (bs x0)))], fun _ => .nil, fun _ => [], fun _ => [], fun _ => 0⟩ ?_ ?_
    · refine JS.loop (ι := Nat × Int) ⟨fun z => fixF (M_s_ShName_L1 x0 j35) z.1 z.2 = some r, fun z => [(0, .v (.string (bs x0))), (3, .v (.int .i64 z.2))], fun z => .nil, fun z => [], fun z => [], fun z => z.1⟩ (FUEL, 0) h ⟨rfl, rfl, trivial⟩ trivial [] rfl [] rfl ?_
      rintro ⟨n19, x2⟩ h
      obtain ⟨n19, rfl, h⟩ := fixF_some h
      rw [M_s_ShName_L1] at h
      refine JS.seq ?_
      refine JS.seq ?_
      refine JS.region ?_
      refine JO.reg ttOk 4 [] [] [(9, .v (.bool (decide (x2 < (x0.length : Int)))))] _ rfl ⟨⟨rfl, trivial⟩, rfl⟩ ?_
      refine JO.done rfl ?_
      refine JS.cond rfl (fun ht66 => ?_) (fun ht66 => ?_)
      · have h := condT h ht66
        refine JS.skip ?_
        refine JS.seq ?_
        refine JS.block ?_
        refine JS.seq ?_
        refine JS.region ?_
        obtain ⟨g52, h⟩ := guardO_some h
        obtain ⟨g53, h⟩ := guardO_some h
        obtain ⟨g55, h⟩ := guardO_some h
        obtain ⟨g57, h⟩ := guardO_some h
        obtain ⟨g60, h⟩ := guardO_some h
        refine JO.reg ttOk 29 [] [] [(4, .v (.bool (bif (bif (bif (decide ((97 : Int) ≤ ((at' x0 x2).toNat : Int))) then (decide (((at' x0 x2).toNat : Int) ≤ (122 : Int))) else false) then true else (bif (decide ((65 : Int) ≤ ((at' x0 x2).toNat : Int))) then (decide (((at' x0 x2).toNat : Int) ≤ (90 : Int))) else false)) then true else (decide (((at' x0 x2).toNat : Int) = (95 : Int))))))] _ rfl ⟨g52, (fun q54 => (g53 q54)), (fun q56 => (g55 q56)), (fun q58 q59 => (g57 q58 q59)), (fun q61 => (g60 q61)), ⟨rfl, trivial⟩, rfl⟩ ?_
        refine JO.done rfl ?_
        refine JS.seq ?_
        refine JS.region ?_
        obtain ⟨g62, h⟩ := guardO_some h
        obtain ⟨g63, h⟩ := guardO_some h
        refine JO.reg ttOk 11 [] [] [(5, .v (.bool (bif (decide ((48 : Int) ≤ ((at' x0 x2).toNat : Int))) then (decide (((at' x0 x2).toNat : Int) ≤ (57 : Int))) else false)))] _ rfl ⟨g62, (fun q64 => (g63 q64)), ⟨rfl, trivial⟩, rfl⟩ ?_
        refine JO.done rfl ?_
        refine JS.seq ?_
        refine JS.region ?_
        refine JO.reg ttOk 10 [] [] [(59, .v (.bool (bif (!(bif (bif (bif (decide ((97 : Int) ≤ ((at' x0 x2).toNat : Int))) then (decide (((at' x0 x2).toNat : Int) ≤ (122 : Int))) else false) then true else (bif (decide ((65 : Int) ≤ ((at' x0 x2).toNat : Int))) then (decide (((at' x0 x2).toNat : Int) ≤ (90 : Int))) else false)) then true else (decide (((at' x0 x2).toNat : Int) = (95 : Int))))) then (bif (!(bif (decide ((48 : Int) ≤ ((at' x0 x2).toNat : Int))) then (decide (((at' x0 x2).toNat : Int) ≤ (57 : Int))) else false)) then true else (decide (x2 = 0))) else false)))] _ rfl ⟨⟨rfl, trivial⟩, rfl⟩ ?_
        refine JO.done rfl ?_
        refine JS.cond rfl (fun ht65 => ?_) (fun ht65 => ?_)
        · have h := condT h ht65
          refine JS.seq ?_
          refine JS.region ?_
          refine JO.reg ttOk 1 [] [] [(2, .v (.bool false))] _ rfl ⟨⟨rfl, trivial⟩, rfl⟩ ?_
          refine JO.done rfl ?_
          cases h
          exact JS.ret ttOk () trivial rfl rfl [] rfl
        · have h := condF h ht65
          refine JS.skip ?_
          refine JS.endB ?_
          refine JS.region ?_
          refine JO.reg ttOk 3 [(W (x2 + 1))] [] [(3, .v (.int .i64 (W (x2 + 1))))] _ rfl ⟨⟨trivial, rfl⟩, ⟨rfl, trivial⟩, rfl⟩ ?_
          refine JO.done rfl ?_
          exact JS.endL (n19, (W (x2 + 1))) h (Nat.lt_succ_self _) ⟨rfl, rfl, trivial⟩ trivial [] rfl [] rfl
      · have h := condF h ht66
        refine JS.exit rfl ?_
        exact JS.endJ () h ⟨rfl, trivial⟩ trivial [] rfl [] rfl
    · rintro _ h
      subst hj67
      refine JS.seq ?_
      refine JS.region ?_
      refine JO.reg ttOk 4 [] [] [(2, .v (.bool (decide (0 < (x0.length : Int)))))] _ rfl ⟨⟨rfl, trivial⟩, rfl⟩ ?_
      refine JO.done rfl ?_
      cases h
      exact JS.ret ttOk () trivial rfl rfl [] rfl

def M_i_in (x0 : Int) (x1 : Int) (x2 : Int) : Option Bool :=
  some (bif (decide (x1 ≤ x0)) then (decide (x0 ≤ x2)) else false)

theorem ok_i_in (x0 : Int) (x1 : Int) (x2 : Int) (r : Bool) (h : M_i_in x0 x1 x2 = some r) :
    FC Try.prog 35 [.int .i64 x0, .int .i64 x1, .int .i64 x2] [] (fun _ : Unit => True) (fun _ => .bool r) (fun _ => []) :=
  FC.of (T := TTx) Try.call35 Try.func35 rfl rfl fun w0 => by
    unfold M_i_in at h
    refine JS.seq ?_
    refine JS.region ?_
    refine JO.reg ttOk 1 [] [] [] _ rfl ⟨trivial, rfl⟩ ?_
    refine JO.done rfl ?_
    refine JS.seq ?_
    refine JS.region ?_
    refine JO.reg ttOk 9 [] [] [(6, .v (.bool (bif (decide (x1 ≤ x0)) then (decide (x0 ≤ x2)) else false)))] _ rfl ⟨⟨rfl, trivial⟩, rfl⟩ ?_
    refine JO.done rfl ?_
    cases h
    exact JS.ret ttOk () trivial rfl rfl [] rfl

def M_i_isLower (x0 : Int) : Option Bool :=
  (bindO (M_i_in x0 97 122) fun (y2 : Bool) =>
  some y2)

theorem ok_i_isLower (x0 : Int) (r : Bool) (h : M_i_isLower x0 = some r) :
    FC Try.prog 27 [.int .i64 x0] [] (fun _ : Unit => True) (fun _ => .bool r) (fun _ => []) :=
  FC.of (T := TTx) Try.call27 Try.func27 rfl rfl fun w0 => by
    unfold M_i_isLower at h
    refine JS.seq ?_
    refine JS.region ?_
    refine JO.reg ttOk 1 [] [] [] _ rfl ⟨trivial, rfl⟩ ?_
    refine JO.done rfl ?_
    refine JS.seq ?_
    refine JS.region ?_
    refine JO.reg ttOk 1 [] [] [(3, .v (.int .i64 x0))] _ rfl ⟨⟨rfl, trivial⟩, rfl⟩ ?_
    obtain ⟨y2, hy4, h⟩ := bindO_some h
    refine JO.call rfl rfl rfl rfl (ok_i_in x0 97 122 _ hy4) rfl [] rfl rfl ?_
    intro _ _
    refine JO.reg ttOk 1 [] [] [(2, .v (.bool y2))] _ rfl ⟨⟨rfl, trivial⟩, rfl⟩ ?_
    refine JO.done rfl ?_
    cases h
    exact JS.ret ttOk () trivial rfl rfl [] rfl

def M_i_isUpper (x0 : Int) : Option Bool :=
  (bindO (M_i_in x0 65 90) fun (y2 : Bool) =>
  some y2)

theorem ok_i_isUpper (x0 : Int) (r : Bool) (h : M_i_isUpper x0 = some r) :
    FC Try.prog 28 [.int .i64 x0] [] (fun _ : Unit => True) (fun _ => .bool r) (fun _ => []) :=
  FC.of (T := TTx) Try.call28 Try.func28 rfl rfl fun w0 => by
    unfold M_i_isUpper at h
    refine JS.seq ?_
    refine JS.region ?_
    refine JO.reg ttOk 1 [] [] [] _ rfl ⟨trivial, rfl⟩ ?_
    refine JO.done rfl ?_
    refine JS.seq ?_
    refine JS.region ?_
    refine JO.reg ttOk 1 [] [] [(3, .v (.int .i64 x0))] _ rfl ⟨⟨rfl, trivial⟩, rfl⟩ ?_
    obtain ⟨y2, hy4, h⟩ := bindO_some h
    refine JO.call rfl rfl rfl rfl (ok_i_in x0 65 90 _ hy4) rfl [] rfl rfl ?_
    intro _ _
    refine JO.reg ttOk 1 [] [] [(2, .v (.bool y2))] _ rfl ⟨⟨rfl, trivial⟩, rfl⟩ ?_
    refine JO.done rfl ?_
    cases h
    exact JS.ret ttOk () trivial rfl rfl [] rfl

def M_i_isDigit (x0 : Int) : Option Bool :=
  (bindO (M_i_in x0 48 57) fun (y2 : Bool) =>
  some y2)

theorem ok_i_isDigit (x0 : Int) (r : Bool) (h : M_i_isDigit x0 = some r) :
    FC Try.prog 29 [.int .i64 x0] [] (fun _ : Unit => True) (fun _ => .bool r) (fun _ => []) :=
  FC.of (T := TTx) Try.call29 Try.func29 rfl rfl fun w0 => by
    unfold M_i_isDigit at h
    refine JS.seq ?_
    refine JS.region ?_
    refine JO.reg ttOk 1 [] [] [] _ rfl ⟨trivial, rfl⟩ ?_
    refine JO.done rfl ?_
    refine JS.seq ?_
    refine JS.region ?_
    refine JO.reg ttOk 1 [] [] [(3, .v (.int .i64 x0))] _ rfl ⟨⟨rfl, trivial⟩, rfl⟩ ?_
    obtain ⟨y2, hy4, h⟩ := bindO_some h
    refine JO.call rfl rfl rfl rfl (ok_i_in x0 48 57 _ hy4) rfl [] rfl rfl ?_
    intro _ _
    refine JO.reg ttOk 1 [] [] [(2, .v (.bool y2))] _ rfl ⟨⟨rfl, trivial⟩, rfl⟩ ?_
    refine JO.done rfl ?_
    cases h
    exact JS.ret ttOk () trivial rfl rfl [] rfl

def M_i_ShName_L1 (x0 : List UInt8) (j26 : Unit → Option Bool) (k15 : Int → Option Bool) : Int → Option Bool := fun x2 =>
  (bif (decide (x2 < (x0.length : Int))) then
  (guardO (0 ≤ x2 ∧ x2 < (x0.length : Int)) <|
  (bindO (M_i_isLower ((at' x0 x2).toNat : Int)) fun (y4 : Bool) =>
  (callO ((!y4) = true) (M_i_isUpper ((at' x0 x2).toNat : Int)) false fun (y6 : Bool) =>
  (callO ((decide (x2 = 0)) = false ∧ (bif (bif (!y4) then (!y6) else false) then (!(decide (((at' x0 x2).toNat : Int) = 95))) else false) = true) (M_i_isDigit ((at' x0 x2).toNat : Int)) false fun (y9 : Bool) =>
  (bif (bif (bif (bif (!y4) then (!y6) else false) then (!(decide (((at' x0 x2).toNat : Int) = 95))) else false) then (bif (decide (x2 = 0)) then true else (!y9)) else false) then
  some false
  else
  k15 (W (x2 + 1)))))))
  else
  j26 ())

def M_i_ShName (x0 : List UInt8) : Option Bool :=
  (joinO (fun (_ : Unit) =>
  some (!(decide (x0 = [])))) fun j26 =>
  (fixF (M_i_ShName_L1 x0 j26) FUEL 0))

theorem ok_i_ShName (x0 : List UInt8) (r : Bool) (h : M_i_ShName x0 = some r) :
    FC Try.prog 11 [.string (bs x0)] [] (fun _ : Unit => True) (fun _ => .bool r) (fun _ => []) :=
  FC.of (T := TTx) Try.call11 Try.func11 rfl rfl fun w0 => by
    unfold M_i_ShName at h
    refine JS.seq ?_
    refine JS.region ?_
    refine JO.reg ttOk 1 [] [] [] _ rfl ⟨trivial, rfl⟩ ?_
    refine JO.done rfl ?_
    refine JS.seq ?_
    refine JS.seq ?_
    refine JS.region ?_
    refine JO.reg ttOk 1 [] [] [(3, .v (.int .i64 0))] _ rfl ⟨⟨rfl, trivial⟩, rfl⟩ ?_
    refine JO.done rfl ?_
    obtain ⟨j26, hj46, h⟩ := joinO_some h
    refine JS.blockJ (ι := Unit) ⟨fun _ => j26 () = some r, fun _ => [(0, .v (.string (bs x0)))], fun _ => .nil, fun _ => [], fun _ => [], fun _ => 0⟩ ?_ ?_
    · refine JS.loop (ι := Nat × Int) ⟨fun z => fixF (M_i_ShName_L1 x0 j26) z.1 z.2 = some r, fun z => [(0, .v (.string (bs x0))), (3, .v (.int .i64 z.2))], fun z => .nil, fun z => [], fun z => [], fun z => z.1⟩ (FUEL, 0) h ⟨rfl, rfl, trivial⟩ trivial [] rfl [] rfl ?_
      rintro ⟨n16, x2⟩ h
      obtain ⟨n16, rfl, h⟩ := fixF_some h
      rw [M_i_ShName_L1] at h
      refine JS.seq ?_
      refine JS.seq ?_
      refine JS.region ?_
      refine JO.reg ttOk 4 [] [] [(8, .v (.bool (decide (x2 < (x0.length : Int)))))] _ rfl ⟨⟨rfl, trivial⟩, rfl⟩ ?_
      refine JO.done rfl ?_
      refine JS.cond rfl (fun ht45 => ?_) (fun ht45 => ?_)
      · have h := condT h ht45
        refine JS.skip ?_
        refine JS.seq ?_
        refine JS.block ?_
        refine JS.seq ?_
        refine JS.region ?_
        obtain ⟨g37, h⟩ := guardO_some h
        refine JO.reg ttOk 5 [((at' x0 x2).toNat : Int)] [] [(4, .v (.int .i64 ((at' x0 x2).toNat : Int)))] _ rfl ⟨g37, ⟨trivial, W_byte _⟩, ⟨rfl, trivial⟩, rfl⟩ ?_
        refine JO.done rfl ?_
        refine JS.seq ?_
        refine JS.region ?_
        refine JO.reg ttOk 1 [] [] [(15, .v (.int .i64 ((at' x0 x2).toNat : Int)))] _ rfl ⟨⟨rfl, trivial⟩, rfl⟩ ?_
        obtain ⟨y4, hy38, h⟩ := bindO_some h
        refine JO.call rfl rfl rfl rfl (ok_i_isLower ((at' x0 x2).toNat : Int) _ hy38) rfl [] rfl rfl ?_
        intro _ _
        refine JO.reg ttOk 3 [] [] [(18, .v (.bool (!y4))), (19, .cd [(18, true)] (.v (.int .i64 ((at' x0 x2).toNat : Int))))] _ rfl ⟨⟨rfl, rfl, trivial⟩, rfl⟩ ?_
        obtain ⟨y6, hy39, -, h⟩ := callO_some h
        refine JO.callg rfl rfl rfl rfl (fun q40 => ok_i_isUpper ((at' x0 x2).toNat : Int) _ (hy39 q40)) rfl [] rfl rfl ?_
        refine JO.reg ttOk 11 [] [] [(27, .v (.bool (bif (bif (!y4) then (!y6) else false) then (!(decide (((at' x0 x2).toNat : Int) = 95))) else false))), (30, .cd [(27, true)] (.v (.bool (decide (x2 = 0))))), (31, .cd [(30, false), (27, true)] (.v (.int .i64 ((at' x0 x2).toNat : Int))))] _ rfl ⟨⟨rfl, rfl, rfl, trivial⟩, rfl⟩ ?_
        obtain ⟨y9, hy41, -, h⟩ := callO_some h
        refine JO.callg rfl rfl rfl rfl (fun q42 q43 => ok_i_isDigit ((at' x0 x2).toNat : Int) _ (hy41 ⟨q42, q43⟩)) rfl [] rfl rfl ?_
        refine JO.reg ttOk 3 [] [] [(35, .v (.bool (bif (bif (bif (!y4) then (!y6) else false) then (!(decide (((at' x0 x2).toNat : Int) = 95))) else false) then (bif (decide (x2 = 0)) then true else (!y9)) else false)))] _ rfl ⟨⟨rfl, trivial⟩, rfl⟩ ?_
        refine JO.done rfl ?_
        refine JS.cond rfl (fun ht44 => ?_) (fun ht44 => ?_)
        · have h := condT h ht44
          refine JS.seq ?_
          refine JS.region ?_
          refine JO.reg ttOk 1 [] [] [(2, .v (.bool false))] _ rfl ⟨⟨rfl, trivial⟩, rfl⟩ ?_
          refine JO.done rfl ?_
          cases h
          exact JS.ret ttOk () trivial rfl rfl [] rfl
        · have h := condF h ht44
          refine JS.skip ?_
          refine JS.endB ?_
          refine JS.region ?_
          refine JO.reg ttOk 3 [(W (x2 + 1))] [] [(3, .v (.int .i64 (W (x2 + 1))))] _ rfl ⟨⟨trivial, rfl⟩, ⟨rfl, trivial⟩, rfl⟩ ?_
          refine JO.done rfl ?_
          exact JS.endL (n16, (W (x2 + 1))) h (Nat.lt_succ_self _) ⟨rfl, rfl, trivial⟩ trivial [] rfl [] rfl
      · have h := condF h ht45
        refine JS.exit rfl ?_
        exact JS.endJ () h ⟨rfl, trivial⟩ trivial [] rfl [] rfl
    · rintro _ h
      subst hj46
      refine JS.seq ?_
      refine JS.region ?_
      refine JO.reg ttOk 3 [] [] [(2, .v (.bool (!(decide (x0 = [])))))] _ rfl ⟨⟨rfl, trivial⟩, rfl⟩ ?_
      refine JO.done rfl ?_
      cases h
      exact JS.ret ttOk () trivial rfl rfl [] rfl

def M_l_FnExactShName (x0 : List UInt8) : Option Bool :=
  (bif (decide (1048576 < (x0.length : Int))) then
  some true
  else
  (bindO (M_s_ShName x0) fun (y2 : Bool) =>
  (bindO (M_i_ShName x0) fun (y4 : Bool) =>
  (bif (!(y4 == y2)) then
  some false
  else
  some true))))

theorem ok_l_FnExactShName (x0 : List UInt8) (r : Bool) (h : M_l_FnExactShName x0 = some r) :
    FC Try.prog 3 [.string (bs x0)] [] (fun _ : Unit => True) (fun _ => .bool r) (fun _ => []) :=
  FC.of (T := TTx) Try.call3 Try.func3 rfl rfl fun w0 => by
    unfold M_l_FnExactShName at h
    refine JS.seq ?_
    refine JS.region ?_
    refine JO.reg ttOk 1 [] [] [] _ rfl ⟨trivial, rfl⟩ ?_
    refine JO.done rfl ?_
    refine JS.seq ?_
    refine JS.seq ?_
    refine JS.region ?_
    refine JO.reg ttOk 3 [] [] [(7, .v (.bool (decide (1048576 < (x0.length : Int)))))] _ rfl ⟨⟨rfl, trivial⟩, rfl⟩ ?_
    refine JO.done rfl ?_
    refine JS.cond rfl (fun ht11 => ?_) (fun ht11 => ?_)
    · have h := condT h ht11
      refine JS.seq ?_
      refine JS.region ?_
      refine JO.reg ttOk 1 [] [] [(2, .v (.bool true))] _ rfl ⟨⟨rfl, trivial⟩, rfl⟩ ?_
      refine JO.done rfl ?_
      cases h
      exact JS.ret ttOk () trivial rfl rfl [] rfl
    · have h := condF h ht11
      refine JS.skip ?_
      refine JS.seq ?_
      refine JS.region ?_
      refine JO.reg ttOk 1 [] [] [(8, .v (.string (bs x0)))] _ rfl ⟨⟨rfl, trivial⟩, rfl⟩ ?_
      obtain ⟨y2, hy8, h⟩ := bindO_some h
      refine JO.call rfl rfl rfl rfl (ok_s_ShName x0 _ hy8) rfl [] rfl rfl ?_
      intro _ _
      refine JO.reg ttOk 1 [] [] [(3, .v (.bool y2))] _ rfl ⟨⟨rfl, trivial⟩, rfl⟩ ?_
      refine JO.done rfl ?_
      refine JS.seq ?_
      refine JS.region ?_
      refine JO.reg ttOk 1 [] [] [(10, .v (.string (bs x0)))] _ rfl ⟨⟨rfl, trivial⟩, rfl⟩ ?_
      obtain ⟨y4, hy9, h⟩ := bindO_some h
      refine JO.call rfl rfl rfl rfl (ok_i_ShName x0 _ hy9) rfl [] rfl rfl ?_
      intro _ _
      refine JO.reg ttOk 1 [] [] [(4, .v (.bool y4))] _ rfl ⟨⟨rfl, trivial⟩, rfl⟩ ?_
      refine JO.done rfl ?_
      refine JS.seq ?_
      refine JS.seq ?_
      refine JS.region ?_
      refine JO.reg ttOk 3 [] [] [(14, .v (.bool (!(y4 == y2))))] _ rfl ⟨⟨rfl, trivial⟩, rfl⟩ ?_
      refine JO.done rfl ?_
      refine JS.cond rfl (fun ht10 => ?_) (fun ht10 => ?_)
      · have h := condT h ht10
        refine JS.seq ?_
        refine JS.region ?_
        refine JO.reg ttOk 1 [] [] [(2, .v (.bool false))] _ rfl ⟨⟨rfl, trivial⟩, rfl⟩ ?_
        refine JO.done rfl ?_
        cases h
        exact JS.ret ttOk () trivial rfl rfl [] rfl
      · have h := condF h ht10
        refine JS.skip ?_
        refine JS.seq ?_
        refine JS.region ?_
        refine JO.reg ttOk 1 [] [] [(2, .v (.bool true))] _ rfl ⟨⟨rfl, trivial⟩, rfl⟩ ?_
        refine JO.done rfl ?_
        cases h
        exact JS.ret ttOk () trivial rfl rfl [] rfl

end Go.Eng
