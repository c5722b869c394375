/- FnExactMotionTo: for every input the given law returns true and leaves its arguments as they were. No condition. -/
import Derived.Test.YtamjkgjmefknkaaFnExactMotionToWalkA
import Derived.Test.YtamjkgjmefknkaaRows
import Derived.WalkKit
import Derived.ProofKit
import Derived.OpenShut
import Derived.ShutString
set_option linter.unusedVariables false
set_option linter.unusedSimpArgs false
namespace Go.Eng
open Go Go.Proofs


theorem bindO_of {α β : Type} {m : Option α} {k : α → Option β} {y : α} (h : m = some y) : bindO m k = k y := by rw [h]; rfl

theorem wf64 {a : Int} (h : (Lit.int .i64 a).wf = true) : -9223372036854775808 ≤ a ∧ a ≤ 9223372036854775807 := by
  simpa [Lit.wf, IntKind.min, IntKind.max, IntKind.signed, IntKind.bits] using h


theorem clamp_eq (a n : Int) (hn : 0 ≤ n) : M_s_l08Clamp a n = some (max 0 (min a n)) := by
  simp only [M_s_l08Clamp, Bool.cond_decide]
  split
  · congr 1; omega
  · split <;> (congr 1; omega)


/-- The class of a rune. -/
def cls0 (r : Int) : Int :=
  if r = 9 ∨ r = 10 ∨ r = 32 then 0
  else if (97 ≤ r ∧ r ≤ 122) ∨ (65 ≤ r ∧ r ≤ 90) ∨ (48 ≤ r ∧ r ≤ 57) ∨ r = 95 ∨ (159 < r ∧ r ≤ 1114111 ∧ (r < 55296 ∨ 57343 < r)) then 1 else 2

theorem sClass_eq (r : Int) : M_s_ClassOf r = some (cls0 r) := by
  unfold M_s_ClassOf M_s_Printable M_s_RuneOk cls0 callO
  simp only [bindO, Bool.cond_decide]
  by_cases h0 : r = 9
  · simp [h0]
  by_cases h1 : r = 10
  · simp [h1]
  by_cases h2 : r = 32
  · simp [h2]
  simp only [h0, h1, h2, if_false, decide_false, or_self, cond_false, Bool.false_eq_true]
  by_cases a1 : 97 ≤ r ∧ r ≤ 122
  · have : ¬ (159 < r) := by omega
    simp [a1, this]
  by_cases a2 : 65 ≤ r ∧ r ≤ 90
  · have : ¬ (159 < r) := by omega
    have a1' : ¬ (97 ≤ r) := by omega
    simp [a2, a1', this]
  by_cases a3 : 48 ≤ r ∧ r ≤ 57
  · have : ¬ (159 < r) := by omega
    have a1' : ¬ (97 ≤ r) := by omega
    have a2' : ¬ (65 ≤ r) := by omega
    simp [a3, a1', a2', this]
  by_cases a4 : r = 95
  · subst a4; decide
  have e1 : (if 97 ≤ r then decide (r ≤ 122) else false) = false := by split <;> simp <;> omega
  have e2 : (if 65 ≤ r then decide (r ≤ 90) else false) = false := by split <;> simp <;> omega
  have e3 : (if 48 ≤ r then decide (r ≤ 57) else false) = false := by split <;> simp <;> omega
  simp only [e1, e2, e3, a1, a2, a3, a4, cond_false, decide_false, false_or, if_false, and_true, decide_eq_true_eq, Bool.false_eq_true]
  by_cases a5 : 159 < r
  · by_cases a6 : r ≤ 1114111
    · by_cases a7 : r < 55296
      · have b1 : 0 ≤ r := by omega
        have b2 : 32 ≤ r := by omega
        have b3 : ¬ (r < 127) := by omega
        simp [a5, a6, a7, b1, b2, b3]
      · by_cases a8 : 57343 < r
        · have b1 : 0 ≤ r := by omega
          have b2 : 32 ≤ r := by omega
          have b3 : ¬ (r < 127) := by omega
          simp [a5, a6, a7, a8, b1, b2, b3]
        · have b1 : 0 ≤ r := by omega
          simp [a5, a6, a7, a8, b1]
    · simp [a5, a6]
  · simp [a5]

theorem iClass_eq (r : Int) : M_i_ClassOf r = some (cls0 r) := by
  unfold M_i_ClassOf M_i_Printable M_i_RuneOk M_i_isLower M_i_isUpper M_i_isDigit M_i_in cls0 callO
  simp only [bindO, Bool.cond_decide]
  by_cases h0 : r = 9
  · simp [h0]
  by_cases h1 : r = 10
  · simp [h1]
  by_cases h2 : r = 32
  · simp [h2]
  simp only [h0, h1, h2, if_false, decide_false, or_self, cond_false, Bool.false_eq_true]
  by_cases a1 : 97 ≤ r ∧ r ≤ 122
  · have : ¬ (159 < r) := by omega
    simp [a1, this]
  by_cases a2 : 65 ≤ r ∧ r ≤ 90
  · have : ¬ (159 < r) := by omega
    have a1' : ¬ (97 ≤ r) := by omega
    simp [a2, a1', this]
  by_cases a3 : 48 ≤ r ∧ r ≤ 57
  · have : ¬ (159 < r) := by omega
    have a1' : ¬ (97 ≤ r) := by omega
    have a2' : ¬ (65 ≤ r) := by omega
    simp [a3, a1', a2', this]
  by_cases a4 : r = 95
  · subst a4; decide
  have e1 : (if 97 ≤ r then decide (r ≤ 122) else false) = false := by split <;> simp <;> omega
  have e2 : (if 65 ≤ r then decide (r ≤ 90) else false) = false := by split <;> simp <;> omega
  have e3 : (if 48 ≤ r then decide (r ≤ 57) else false) = false := by split <;> simp <;> omega
  simp only [e1, e2, e3, a1, a2, a3, a4, cond_false, decide_false, false_or, if_false, if_true, and_true, decide_eq_true_eq, Bool.false_eq_true]
  by_cases a5 : 159 < r
  · by_cases a6 : r ≤ 1114111
    · by_cases a7 : r < 55296
      · have b1 : 0 ≤ r := by omega
        have b2 : 32 ≤ r := by omega
        have b3 : ¬ (r ≤ 159) := by omega
        have b4 : ¬ (55296 ≤ r) := by omega
        have b5 : 127 ≤ r := by omega
        simp [a5, a6, a7, b1, b2, b3, b4, b5]
      · by_cases a8 : 57343 < r
        · have b1 : 0 ≤ r := by omega
          have b2 : 32 ≤ r := by omega
          have b3 : ¬ (r ≤ 159) := by omega
          have b4 : 55296 ≤ r := by omega
          have b5 : 127 ≤ r := by omega
          have b6 : ¬ (r ≤ 57343) := by omega
          simp [a5, a6, a7, a8, b1, b2, b3, b4, b5, b6]
        · have b1 : 0 ≤ r := by omega
          have b4 : 55296 ≤ r := by omega
          have b6 : r ≤ 57343 := by omega
          simp [a5, a6, a7, a8, b1, b4, b6]
    · simp [a5, a6]
  · simp [a5]

def clsB (big : Bool) (r : Int) : Int := if big = true ∧ cls0 r = 2 then 1 else cls0 r

theorem sClassB_eq (r : Int) (big : Bool) : M_s_l14Class r big = some (clsB big r) := by
  unfold M_s_l14Class clsB
  rw [bindO_of (sClass_eq r)]
  cases big
  · simp
  · by_cases h : cls0 r = 2 <;> simp [h]

theorem iClassB_eq (t : List Int) (i : Int) (big : Bool) (h0 : 0 ≤ i) (h1 : i < (t.length : Int)) : M_i_classAt t i big = some (clsB big (at' t i)) := by
  unfold M_i_classAt clsB guardO
  rw [if_pos ⟨h0, h1⟩, bindO_of (iClass_eq _)]
  cases big
  · simp
  · by_cases h : cls0 (at' t i) = 2 <;> simp [h]

/-- On while f holds, r steps at most. -/
def fwd (f : Int → Prop) [DecidablePred f] : Nat → Int → Int
  | 0, k => k
  | r + 1, k => if f k then fwd f r (k + 1) else k

theorem fwd_bound (f : Int → Prop) [DecidablePred f] : ∀ (r : Nat) (k : Int), k ≤ fwd f r k ∧ fwd f r k ≤ k + r
  | 0, k => by simp [fwd]
  | r + 1, k => by
    have := fwd_bound f r (k + 1)
    simp only [fwd]
    split <;> omega

/-- Back while f holds of the place before. -/
def bwd (f : Int → Prop) [DecidablePred f] : Nat → Nat
  | 0 => 0
  | r + 1 => if f (r : Int) then bwd f r else r + 1

theorem bwd_le (f : Int → Prop) [DecidablePred f] : ∀ (r : Nat), bwd f r ≤ r
  | 0 => Nat.le_refl _
  | r + 1 => by
    have := bwd_le f r
    simp only [bwd]
    split <;> omega

section
variable (t : List Int) (hl : (t.length : Int) ≤ 1048576) (big : Bool)
include hl

theorem runEnd_loop (c : Int) (j : Int → Option Int) : ∀ (m r : Nat) (k : Int), 0 ≤ k → k + r = (t.length : Int) → r < m →
    fixF (M_i_runEnd_L1 t big c j) m k = j (fwd (fun i => clsB big (at' t i) = c) r k) := by
  intro m
  induction m with
  | zero => intro r k _ _ h; omega
  | succ m ih =>
    intro r k hk hr hm
    simp only [fixF, M_i_runEnd_L1, callO, Bool.cond_decide]
    cases r with
    | zero =>
      have : ¬ (k < (t.length : Int)) := by omega
      simp [this, fwd]
    | succ r =>
      have h1 : k < (t.length : Int) := by omega
      simp only [h1, decide_true, if_true]
      rw [bindO_of (iClassB_eq t k big hk h1), W_eq (by omega) (by omega), ih r (k + 1) (by omega) (by omega) (by omega)]
      simp only [fwd, Bool.cond_decide]
      split <;> rfl

theorem iEnd_loop (j : Int → Option Int) : ∀ (m r : Nat) (k : Int), 0 ≤ k → k + r = (t.length : Int) → r < m →
    fixF (M_i_ViWordEnd_L1 t big j) m k = j (fwd (fun i => clsB big (at' t i) = 0) r k) := by
  intro m
  induction m with
  | zero => intro r k _ _ h; omega
  | succ m ih =>
    intro r k hk hr hm
    simp only [fixF, M_i_ViWordEnd_L1, callO, Bool.cond_decide]
    cases r with
    | zero =>
      have : ¬ (k < (t.length : Int)) := by omega
      simp [this, fwd]
    | succ r =>
      have h1 : k < (t.length : Int) := by omega
      simp only [h1, decide_true, if_true]
      rw [bindO_of (iClassB_eq t k big hk h1), W_eq (by omega) (by omega), ih r (k + 1) (by omega) (by omega) (by omega)]
      simp only [fwd, Bool.cond_decide]
      split <;> rfl

theorem iOn_loop (j : Int → Option Int) : ∀ (m r : Nat) (k : Int), 0 ≤ k → k + r = (t.length : Int) → r < m →
    fixF (M_i_ViWordOn_L1 t big j) m k = j (fwd (fun i => clsB big (at' t i) = 0) r k) := by
  intro m
  induction m with
  | zero => intro r k _ _ h; omega
  | succ m ih =>
    intro r k hk hr hm
    simp only [fixF, M_i_ViWordOn_L1, callO, Bool.cond_decide]
    cases r with
    | zero =>
      have : ¬ (k < (t.length : Int)) := by omega
      simp [this, fwd]
    | succ r =>
      have h1 : k < (t.length : Int) := by omega
      simp only [h1, decide_true, if_true]
      rw [bindO_of (iClassB_eq t k big hk h1), W_eq (by omega) (by omega), ih r (k + 1) (by omega) (by omega) (by omega)]
      simp only [fwd, Bool.cond_decide]
      split <;> rfl

theorem iBlank_loop (j : Int → Option (Int × Bool × Bool)) : ∀ (m r : Nat) (k : Int), 0 ≤ k → k + r = (t.length : Int) → r < m →
    fixF (M_i_MotionTo_L1 t j) m k = j (fwd (fun i => cls0 (at' t i) = 0) r k) := by
  intro m
  induction m with
  | zero => intro r k _ _ h; omega
  | succ m ih =>
    intro r k hk hr hm
    simp only [fixF, M_i_MotionTo_L1, callO, Bool.cond_decide, guardO]
    cases r with
    | zero =>
      have : ¬ (k < (t.length : Int)) := by omega
      simp [this, fwd]
    | succ r =>
      have h1 : k < (t.length : Int) := by omega
      simp only [h1, decide_true, if_true, hk, and_self, imp_self, imp_true_iff]
      rw [bindO_of (iClass_eq _), W_eq (by omega) (by omega), ih r (k + 1) (by omega) (by omega) (by omega)]
      simp only [fwd, Bool.cond_decide]
      split <;> rfl

theorem iBack1_loop (j : Int → Option Int) : ∀ (m k : Nat), (k : Int) ≤ (t.length : Int) → k < m →
    fixF (M_i_ViWordBack_L1 t big j) m (k : Int) = j (bwd (fun i => clsB big (at' t i) = 0) k : Nat) := by
  intro m
  induction m with
  | zero => intro k _ h; omega
  | succ m ih =>
    intro k hk hm
    simp only [fixF, M_i_ViWordBack_L1, callO, Bool.cond_decide]
    cases k with
    | zero => simp [bwd]
    | succ k =>
      have h1 : (0 : Int) < ((k + 1 : Nat) : Int) := by omega
      have e : ((k + 1 : Nat) : Int) - 1 = (k : Int) := by omega
      simp only [h1, decide_true, if_true]
      rw [W_eq (by omega) (by omega), e, bindO_of (iClassB_eq t k big (by omega) (by omega)), ih k (by omega) (by omega)]
      simp only [bwd, Bool.cond_decide]
      split <;> rfl

theorem iBack2_loop (c : Int) (j : Int → Option Int) : ∀ (m k : Nat), (k : Int) ≤ (t.length : Int) → k < m →
    fixF (M_i_ViWordBack_L2 t big c j) m (k : Int) = j (bwd (fun i => clsB big (at' t i) = c) k : Nat) := by
  intro m
  induction m with
  | zero => intro k _ h; omega
  | succ m ih =>
    intro k hk hm
    simp only [fixF, M_i_ViWordBack_L2, callO, Bool.cond_decide]
    cases k with
    | zero => simp [bwd]
    | succ k =>
      have h1 : (0 : Int) < ((k + 1 : Nat) : Int) := by omega
      have e : ((k + 1 : Nat) : Int) - 1 = (k : Int) := by omega
      simp only [h1, decide_true, if_true]
      rw [W_eq (by omega) (by omega), e, bindO_of (iClassB_eq t k big (by omega) (by omega)), ih k (by omega) (by omega)]
      simp only [bwd, Bool.cond_decide]
      split <;> rfl

omit hl in
/-- The three motions. -/
def wOn (k : Int) : Int :=
  let n : Int := t.length
  let x := if k < n ∧ clsB big (at' t k) ≠ 0 then fwd (fun i => clsB big (at' t i) = clsB big (at' t k)) (n - k).toNat k else k
  fwd (fun i => clsB big (at' t i) = 0) (n - x).toNat x
omit hl in
def wBack (k : Nat) : Int :=
  let x := bwd (fun i => clsB big (at' t i) = 0) k
  if x = 0 then 0 else (bwd (fun i => clsB big (at' t i) = clsB big (at' t ((x : Int) - 1))) x : Nat)
omit hl in
def wEnd (k : Int) : Int :=
  let n : Int := t.length
  if n = 0 then 0 else if n ≤ k + 1 then n - 1 else
    let x := fwd (fun i => clsB big (at' t i) = 0) (n - (k + 1)).toNat (k + 1)
    if n ≤ x then n - 1 else fwd (fun i => clsB big (at' t i) = clsB big (at' t x)) (n - x).toNat x - 1

omit hl in
theorem wOn_bound (k : Int) (h0 : 0 ≤ k) (h1 : k ≤ (t.length : Int)) : k ≤ wOn t big k ∧ wOn t big k ≤ (t.length : Int) := by
  unfold wOn
  simp only
  split
  · have a := fwd_bound (fun i => clsB big (at' t i) = clsB big (at' t k)) ((t.length : Int) - k).toNat k
    have b := fwd_bound (fun i => clsB big (at' t i) = 0) ((t.length : Int) - fwd (fun i => clsB big (at' t i) = clsB big (at' t k)) ((t.length : Int) - k).toNat k).toNat (fwd (fun i => clsB big (at' t i) = clsB big (at' t k)) ((t.length : Int) - k).toNat k)
    omega
  · have b := fwd_bound (fun i => clsB big (at' t i) = 0) ((t.length : Int) - k).toNat k
    omega

omit hl in
theorem wBack_bound (k : Nat) (h1 : (k : Int) ≤ (t.length : Int)) : 0 ≤ wBack t big k ∧ wBack t big k ≤ k := by
  unfold wBack
  simp only
  have a := bwd_le (fun i => clsB big (at' t i) = 0) k
  split
  · omega
  · have b := bwd_le (fun i => clsB big (at' t i) = clsB big (at' t ((bwd (fun i => clsB big (at' t i) = 0) k : Nat) - 1 : Int))) (bwd (fun i => clsB big (at' t i) = 0) k)
    omega

theorem wEnd_bound (k : Int) (h0 : 0 ≤ k) (h1 : k ≤ (t.length : Int)) : 0 ≤ wEnd t big k ∧ wEnd t big k ≤ (t.length : Int) := by
  unfold wEnd
  simp only
  split
  · omega
  · split
    · omega
    · have a := fwd_bound (fun i => clsB big (at' t i) = 0) ((t.length : Int) - (k + 1)).toNat (k + 1)
      split
      · omega
      · have b := fwd_bound (fun i => clsB big (at' t i) = clsB big (at' t (fwd (fun i => clsB big (at' t i) = 0) ((t.length : Int) - (k + 1)).toNat (k + 1)))) ((t.length : Int) - fwd (fun i => clsB big (at' t i) = 0) ((t.length : Int) - (k + 1)).toNat (k + 1)).toNat (fwd (fun i => clsB big (at' t i) = 0) ((t.length : Int) - (k + 1)).toNat (k + 1))
        omega

theorem iOn_eq (k : Int) (h0 : 0 ≤ k) (h1 : k ≤ (t.length : Int)) : M_i_ViWordOn t k big = some (wOn t big k) := by
  unfold M_i_ViWordOn M_i_within wOn
  have e : max (0 : Int) (min k (t.length : Int)) = k := by omega
  simp only [bindO, joinO, callO, Bool.cond_decide, e]
  by_cases h2 : k < (t.length : Int)
  · simp only [h2, decide_true, if_true, true_and]
    rw [iClassB_eq t k big h0 h2]
    simp only
    by_cases h3 : clsB big (at' t k) = 0
    · simp only [h3, decide_true, Bool.not_true, cond_false, ne_eq, not_true_eq_false, if_false]
      rw [iOn_loop t hl big _ FUEL ((t.length : Int) - k).toNat k h0 (by omega) (by rw [fuel_eq]; omega)]
    · simp only [h3, decide_false, Bool.not_false, cond_true, ne_eq, not_false_eq_true, if_true]
      have hr : M_i_runEnd t k big = some (fwd (fun i => clsB big (at' t i) = clsB big (at' t k)) ((t.length : Int) - k).toNat k) := by
        unfold M_i_runEnd
        rw [bindO_of (iClassB_eq t k big h0 h2)]
        simp only [joinO]
        rw [runEnd_loop t hl big _ _ FUEL ((t.length : Int) - k).toNat k h0 (by omega) (by rw [fuel_eq]; omega)]
      rw [hr]
      simp only
      have b := fwd_bound (fun i => clsB big (at' t i) = clsB big (at' t k)) ((t.length : Int) - k).toNat k
      generalize fwd (fun i => clsB big (at' t i) = clsB big (at' t k)) ((t.length : Int) - k).toNat k = x at *
      rw [iOn_loop t hl big _ FUEL ((t.length : Int) - x).toNat x (by omega) (by omega) (by rw [fuel_eq]; omega)]
  · simp only [h2, decide_false, if_false, Bool.false_eq_true, false_and, cond_false]
    rw [iOn_loop t hl big _ FUEL ((t.length : Int) - k).toNat k h0 (by omega) (by rw [fuel_eq]; omega)]

theorem iBack_eq (k : Nat) (h1 : (k : Int) ≤ (t.length : Int)) : M_i_ViWordBack t (k : Int) big = some (wBack t big k) := by
  unfold M_i_ViWordBack M_i_within wBack
  have e : max (0 : Int) (min (k : Int) (t.length : Int)) = k := by omega
  simp only [bindO, joinO, Bool.cond_decide, e]
  rw [iBack1_loop t hl big _ FUEL k h1 (by rw [fuel_eq]; omega)]
  have a := bwd_le (fun i => clsB big (at' t i) = 0) k
  generalize bwd (fun i => clsB big (at' t i) = 0) k = x at *
  by_cases h2 : x = 0
  · simp [h2]
  · have h2' : ¬ ((x : Int) = 0) := by omega
    simp only [h2, h2', if_false]
    rw [W_eq (by omega) (by omega), iClassB_eq t ((x : Int) - 1) big (by omega) (by omega)]
    simp only
    rw [iBack2_loop t hl big _ _ FUEL x (by omega) (by rw [fuel_eq]; omega)]

theorem iEnd_eq (k : Int) (h0 : 0 ≤ k) (h1 : k ≤ (t.length : Int)) : M_i_ViWordEnd t k big = some (wEnd t big k) := by
  unfold M_i_ViWordEnd M_i_within wEnd
  have e : max (0 : Int) (min k (t.length : Int)) = k := by omega
  simp only [bindO, joinO, Bool.cond_decide, e]
  by_cases hz : (t.length : Int) = 0
  · simp [hz]
  · simp only [hz, if_false]
    rw [W_eq (x := k + 1) (by omega) (by omega)]
    by_cases h2 : (t.length : Int) ≤ k + 1
    · simp only [h2, if_true]
      obtain ⟨n, hn⟩ : ∃ n, FUEL = n + 1 := ⟨FUEL - 1, by have := fuel_eq; omega⟩
      rw [hn]
      have h3 : ¬ (k + 1 < (t.length : Int)) := by omega
      simp only [fixF, M_i_ViWordEnd_L1, callO, h3, decide_false, Bool.false_eq_true, if_false, cond_false, h2, if_true]
      rw [W_eq (by omega) (by omega)]
    · simp only [h2, if_false]
      rw [iEnd_loop t hl big _ FUEL ((t.length : Int) - (k + 1)).toNat (k + 1) (by omega) (by omega) (by rw [fuel_eq]; omega)]
      have b := fwd_bound (fun i => clsB big (at' t i) = 0) ((t.length : Int) - (k + 1)).toNat (k + 1)
      generalize fwd (fun i => clsB big (at' t i) = 0) ((t.length : Int) - (k + 1)).toNat (k + 1) = x at *
      by_cases h3 : (t.length : Int) ≤ x
      · simp only [h3, if_true]
        rw [W_eq (by omega) (by omega)]
      · simp only [h3, if_false]
        have hr : M_i_runEnd t x big = some (fwd (fun i => clsB big (at' t i) = clsB big (at' t x)) ((t.length : Int) - x).toNat x) := by
          unfold M_i_runEnd
          rw [bindO_of (iClassB_eq t x big (by omega) (by omega))]
          simp only [joinO]
          rw [runEnd_loop t hl big _ _ FUEL ((t.length : Int) - x).toNat x (by omega) (by omega) (by rw [fuel_eq]; omega)]
        rw [hr]
        simp only
        have b2 := fwd_bound (fun i => clsB big (at' t i) = clsB big (at' t x)) ((t.length : Int) - x).toNat x
        rw [W_eq (by omega) (by omega)]
end

section
variable (t : List Int) (hl : (t.length : Int) ≤ 1048576) (big : Bool)
include hl

theorem sOn1_loop (c : Int) (hc : c ≠ 0) (j : Int → Option Int) : ∀ (m r : Nat) (k : Int), 0 ≤ k → k + r = (t.length : Int) → r < m →
    fixF (M_s_ViWordOn_L1 t big c j) m k = j (fwd (fun i => clsB big (at' t i) = c) r k) := by
  intro m
  induction m with
  | zero => intro r k _ _ h; omega
  | succ m ih =>
    intro r k hk hr hm
    simp only [fixF, M_s_ViWordOn_L1, callO, Bool.cond_decide, guardO, hc, decide_false, Bool.not_false]
    cases r with
    | zero =>
      have : ¬ (k < (t.length : Int)) := by omega
      simp [this, fwd]
    | succ r =>
      have h1 : k < (t.length : Int) := by omega
      simp only [h1, decide_true, if_true, hk, and_self, imp_true_iff, cond_true]
      rw [bindO_of (sClassB_eq _ big), W_eq (by omega) (by omega), ih r (k + 1) (by omega) (by omega) (by omega)]
      simp only [fwd, Bool.cond_decide]
      split <;> rfl

omit hl in
theorem sOn1_zero (j : Int → Option Int) (k : Int) : fixF (M_s_ViWordOn_L1 t big 0 j) FUEL k = j k := by
  obtain ⟨n, hn⟩ : ∃ n, FUEL = n + 1 := ⟨FUEL - 1, by have := fuel_eq; omega⟩
  rw [hn]
  simp [fixF, M_s_ViWordOn_L1, callO, guardO]

theorem sOn2_loop (j : Int → Option Int) : ∀ (m r : Nat) (k : Int), 0 ≤ k → k + r = (t.length : Int) → r < m →
    fixF (M_s_ViWordOn_L2 t big j) m k = j (fwd (fun i => clsB big (at' t i) = 0) r k) := by
  intro m
  induction m with
  | zero => intro r k _ _ h; omega
  | succ m ih =>
    intro r k hk hr hm
    simp only [fixF, M_s_ViWordOn_L2, callO, Bool.cond_decide, guardO]
    cases r with
    | zero =>
      have : ¬ (k < (t.length : Int)) := by omega
      simp [this, fwd]
    | succ r =>
      have h1 : k < (t.length : Int) := by omega
      simp only [h1, decide_true, if_true, hk, and_self, imp_true_iff]
      rw [bindO_of (sClassB_eq _ big), W_eq (by omega) (by omega), ih r (k + 1) (by omega) (by omega) (by omega)]
      simp only [fwd, Bool.cond_decide]
      split <;> rfl

theorem sEnd1_loop (j : Int → Option Int) : ∀ (m r : Nat) (k : Int), 0 ≤ k → k + r = (t.length : Int) → r < m →
    fixF (M_s_ViWordEnd_L1 t big j) m k = j (fwd (fun i => clsB big (at' t i) = 0) r k) := by
  intro m
  induction m with
  | zero => intro r k _ _ h; omega
  | succ m ih =>
    intro r k hk hr hm
    simp only [fixF, M_s_ViWordEnd_L1, callO, Bool.cond_decide, guardO]
    cases r with
    | zero =>
      have : ¬ (k < (t.length : Int)) := by omega
      simp [this, fwd]
    | succ r =>
      have h1 : k < (t.length : Int) := by omega
      simp only [h1, decide_true, if_true, hk, and_self, imp_true_iff]
      rw [bindO_of (sClassB_eq _ big), W_eq (by omega) (by omega), ih r (k + 1) (by omega) (by omega) (by omega)]
      simp only [fwd, Bool.cond_decide]
      split <;> rfl

theorem sEnd2_loop (c : Int) (j : Int → Option Int) : ∀ (m r : Nat) (k : Int), 0 ≤ k → k + 1 + r = (t.length : Int) → r < m →
    fixF (M_s_ViWordEnd_L2 t big c j) m k = j (fwd (fun i => clsB big (at' t i) = c) r (k + 1) - 1) := by
  intro m
  induction m with
  | zero => intro r k _ _ h; omega
  | succ m ih =>
    intro r k hk hr hm
    simp only [fixF, M_s_ViWordEnd_L2, callO, Bool.cond_decide, guardO]
    rw [W_eq (by omega) (by omega)]
    cases r with
    | zero =>
      have : ¬ (k + 1 < (t.length : Int)) := by omega
      simp [this, fwd]
    | succ r =>
      have h1 : k + 1 < (t.length : Int) := by omega
      have h2 : 0 ≤ k + 1 := by omega
      simp only [h1, h2, decide_true, if_true, and_self, imp_true_iff]
      rw [bindO_of (sClassB_eq _ big), ih r (k + 1) (by omega) (by omega) (by omega)]
      simp only [fwd, Bool.cond_decide]
      split
      · rfl
      · congr 1; omega

theorem sBlank_loop (j : Int → Option (Int × Bool × Bool)) : ∀ (m r : Nat) (k : Int), 0 ≤ k → k + r = (t.length : Int) → r < m →
    fixF (M_s_MotionTo_L1 t j) m k = j (fwd (fun i => cls0 (at' t i) = 0) r k) := by
  intro m
  induction m with
  | zero => intro r k _ _ h; omega
  | succ m ih =>
    intro r k hk hr hm
    simp only [fixF, M_s_MotionTo_L1, callO, Bool.cond_decide, guardO]
    cases r with
    | zero =>
      have : ¬ (k < (t.length : Int)) := by omega
      simp [this, fwd]
    | succ r =>
      have h1 : k < (t.length : Int) := by omega
      simp only [h1, decide_true, if_true, hk, and_self, imp_true_iff]
      rw [bindO_of (sClass_eq _), W_eq (by omega) (by omega), ih r (k + 1) (by omega) (by omega) (by omega)]
      simp only [fwd, Bool.cond_decide]
      split <;> rfl

theorem sBack1_loop (j : Int → Option Int) : ∀ (m k : Nat), (k : Int) ≤ (t.length : Int) → k < m →
    fixF (M_s_ViWordBack_L1 t big j) m (k : Int) = j (bwd (fun i => clsB big (at' t i) = 0) k : Nat) := by
  intro m
  induction m with
  | zero => intro k _ h; omega
  | succ m ih =>
    intro k hk hm
    simp only [fixF, M_s_ViWordBack_L1, callO, Bool.cond_decide, guardO]
    cases k with
    | zero => simp [bwd]
    | succ k =>
      have h1 : (0 : Int) < ((k + 1 : Nat) : Int) := by omega
      have e : ((k + 1 : Nat) : Int) - 1 = (k : Int) := by omega
      have g : (0 : Int) ≤ k ∧ (k : Int) < (t.length : Int) := by omega
      simp only [h1, decide_true, if_true]
      rw [W_eq (by omega) (by omega), e, if_pos (fun _ => g), bindO_of (sClassB_eq _ big), ih k (by omega) (by omega)]
      simp only [bwd, Bool.cond_decide]
      split <;> rfl

theorem sBack2_loop (c : Int) (j : Int → Option Int) : ∀ (m k : Nat), (k : Int) ≤ (t.length : Int) → k < m →
    fixF (M_s_ViWordBack_L2 t big c j) m (k : Int) = j (bwd (fun i => clsB big (at' t i) = c) k : Nat) := by
  intro m
  induction m with
  | zero => intro k _ h; omega
  | succ m ih =>
    intro k hk hm
    simp only [fixF, M_s_ViWordBack_L2, callO, Bool.cond_decide, guardO]
    cases k with
    | zero => simp [bwd]
    | succ k =>
      have h1 : (0 : Int) < ((k + 1 : Nat) : Int) := by omega
      have e : ((k + 1 : Nat) : Int) - 1 = (k : Int) := by omega
      have g : (0 : Int) ≤ k ∧ (k : Int) < (t.length : Int) := by omega
      simp only [h1, decide_true, if_true]
      rw [W_eq (by omega) (by omega), e, if_pos (fun _ => g), bindO_of (sClassB_eq _ big), ih k (by omega) (by omega)]
      simp only [bwd, Bool.cond_decide]
      split <;> rfl

theorem sOn_eq (k : Int) (h0 : 0 ≤ k) (h1 : k ≤ (t.length : Int)) : M_s_ViWordOn t k big = some (wOn t big k) := by
  unfold M_s_ViWordOn
  rw [clamp_eq _ _ (by omega)]
  have e : max (0 : Int) (min k (t.length : Int)) = k := by omega
  simp only [bindO, joinO, Bool.cond_decide, e, guardO]
  unfold wOn
  by_cases h2 : k = (t.length : Int)
  · have h3 : ¬ (k < (t.length : Int)) := by omega
    have e2 : ((t.length : Int) - k).toNat = 0 := by omega
    simp only [h2, if_true]
    have h4 : ¬ ((t.length : Int) < (t.length : Int)) := by omega
    simp [h4, fwd]
  · have h3 : k < (t.length : Int) := by omega
    simp only [h2, if_false, h3, true_and]
    rw [if_pos ⟨h0, trivial⟩, sClassB_eq]
    simp only
    by_cases h4 : clsB big (at' t k) = 0
    · rw [h4, sOn1_zero t big, sOn2_loop t hl big _ FUEL ((t.length : Int) - k).toNat k h0 (by omega) (by rw [fuel_eq]; omega)]
      simp
    · simp only [ne_eq, h4, not_false_eq_true, if_true]
      rw [sOn1_loop t hl big _ h4 _ FUEL ((t.length : Int) - k).toNat k h0 (by omega) (by rw [fuel_eq]; omega)]
      have b := fwd_bound (fun i => clsB big (at' t i) = clsB big (at' t k)) ((t.length : Int) - k).toNat k
      generalize fwd (fun i => clsB big (at' t i) = clsB big (at' t k)) ((t.length : Int) - k).toNat k = x at *
      rw [sOn2_loop t hl big _ FUEL ((t.length : Int) - x).toNat x (by omega) (by omega) (by rw [fuel_eq]; omega)]

theorem sBack_eq (k : Nat) (h1 : (k : Int) ≤ (t.length : Int)) : M_s_ViWordBack t (k : Int) big = some (wBack t big k) := by
  unfold M_s_ViWordBack
  rw [clamp_eq _ _ (by omega)]
  have e : max (0 : Int) (min (k : Int) (t.length : Int)) = k := by omega
  simp only [bindO, joinO, Bool.cond_decide, e, guardO]
  unfold wBack
  rw [sBack1_loop t hl big _ FUEL k h1 (by rw [fuel_eq]; omega)]
  have a := bwd_le (fun i => clsB big (at' t i) = 0) k
  generalize bwd (fun i => clsB big (at' t i) = 0) k = x at *
  by_cases h2 : x = 0
  · simp [h2]
  · have h2' : ¬ ((x : Int) = 0) := by omega
    simp only [h2, h2', if_false]
    rw [W_eq (by omega) (by omega), if_pos ⟨by omega, by omega⟩, sClassB_eq]
    simp only
    rw [sBack2_loop t hl big _ _ FUEL x (by omega) (by rw [fuel_eq]; omega)]

theorem sEnd_eq (k : Int) (h0 : 0 ≤ k) (h1 : k ≤ (t.length : Int)) : M_s_ViWordEnd t k big = some (wEnd t big k) := by
  unfold M_s_ViWordEnd
  rw [clamp_eq _ _ (by omega)]
  have e : max (0 : Int) (min k (t.length : Int)) = k := by omega
  simp only [bindO, joinO, Bool.cond_decide, e, guardO]
  unfold wEnd
  rw [W_eq (x := k + 1) (by omega) (by omega), W_eq (x := (t.length : Int) - 1) (by omega) (by omega), clamp_eq _ _ (by omega)]
  by_cases h2 : (t.length : Int) ≤ k + 1
  · have hx : ∀ j, fixF (M_s_ViWordEnd_L1 t big j) FUEL (k + 1) = j (k + 1) := by
      intro j
      obtain ⟨n, hn⟩ : ∃ n, FUEL = n + 1 := ⟨FUEL - 1, by have := fuel_eq; omega⟩
      rw [hn]
      have h3 : ¬ (k + 1 < (t.length : Int)) := by omega
      simp [fixF, M_s_ViWordEnd_L1, callO, guardO, h3]
    rw [hx]
    simp only [h2, if_true]
    by_cases hz : (t.length : Int) = 0
    · simp only [hz, if_true]; rfl
    · simp only [hz, h2, if_false, if_true]
      congr 1; omega
  · have hz : ¬ ((t.length : Int) = 0) := by omega
    simp only [hz, h2, if_false]
    rw [sEnd1_loop t hl big _ FUEL ((t.length : Int) - (k + 1)).toNat (k + 1) (by omega) (by omega) (by rw [fuel_eq]; omega)]
    have b := fwd_bound (fun i => clsB big (at' t i) = 0) ((t.length : Int) - (k + 1)).toNat (k + 1)
    generalize fwd (fun i => clsB big (at' t i) = 0) ((t.length : Int) - (k + 1)).toNat (k + 1) = x at *
    by_cases h3 : (t.length : Int) ≤ x
    · simp only [h3, if_true]
      congr 1; omega
    · simp only [h3, if_false]
      rw [if_pos ⟨by omega, by omega⟩, sClassB_eq]
      simp only
      have e2 : ((t.length : Int) - x).toNat = ((t.length : Int) - (x + 1)).toNat + 1 := by omega
      rw [sEnd2_loop t hl big _ _ FUEL ((t.length : Int) - (x + 1)).toNat x (by omega) (by omega) (by rw [fuel_eq]; omega), e2]
      simp [fwd]
end

theorem sWord_eq (t : List Int) (hl : (t.length : Int) ≤ 1048576) (k r : Int) (h0 : 0 ≤ k) (h1 : k ≤ (t.length : Int)) :
    M_s_l22Word t k r = some (if r = 119 ∨ r = 87 then wOn t (decide (r < 97)) k else if r = 98 ∨ r = 66 then wBack t (decide (r < 97)) k.toNat else wEnd t (decide (r < 97)) k) := by
  unfold M_s_l22Word
  have hk : ((k.toNat : Nat) : Int) = k := by omega
  have hb := sBack_eq t hl (decide (r < 97)) k.toNat (by omega)
  rw [hk] at hb
  simp only [joinO, Bool.cond_decide, sOn_eq t hl _ k h0 h1, hb, sEnd_eq t hl _ k h0 h1, bindO]
  by_cases c1 : r = 119
  · simp [c1]
  by_cases c2 : r = 87
  · simp [c2]
  by_cases c3 : r = 98
  · simp [c3]
  by_cases c4 : r = 66
  · simp [c4]
  simp [c1, c2, c3, c4]

theorem at_get {α : Type} [Inhabited α] {l : List α} {k : Int} (h0 : 0 ≤ k) (h : k < (l.length : Int)) : l[k.toNat]? = some (at' l k) := at_some ⟨h0, h⟩

theorem toIntS_loop (xs : List Int) (hl : (xs.length : Int) ≤ 100000000) (j : List Int → Option (List Int)) : ∀ (m : Nat) (ys : List Int) (k : Int), 0 ≤ k → k ≤ (xs.length : Int) → ys.length = xs.length → (∀ i : Nat, (i : Int) < k → ys[i]? = xs[i]?) → (xs.length : Int) - k < m → 0 < m →
    fixF (M_l_toIntS_L1 xs j) m (ys, k) = j xs := by
  intro m
  induction m with
  | zero => intro ys k _ _ _ _ h h'; omega
  | succ m ih =>
    intro ys k hk hk' hy hyx hm _
    simp only [fixF, M_l_toIntS_L1, guardO, Bool.cond_decide]
    by_cases h1 : k < (xs.length : Int)
    · have h2 : k < (ys.length : Int) := by omega
      simp only [h1, h2, hk, if_true, and_self]
      rw [W_eq (by omega) (by omega)]
      refine ih _ _ (by omega) (by omega) (by simpa using hy) (fun i hi => ?_) (by omega) (by omega)
      rw [List.getElem?_set]
      by_cases he : k.toNat = i
      · subst he
        rw [if_pos rfl, if_pos (by omega), at_get hk h1]
      · rw [if_neg he]
        exact hyx i (by omega)
    · simp only [h1, if_false]
      congr 1
      apply List.ext_getElem?
      intro i
      by_cases hi : (i : Int) < k
      · exact hyx i hi
      · rw [List.getElem?_eq_none (by omega), List.getElem?_eq_none (by omega)]

theorem toIntS_eq (xs : List Int) (hl : (xs.length : Int) ≤ 100000000) : M_l_toIntS xs = some xs := by
  unfold M_l_toIntS guardO
  rw [if_pos (by omega)]
  exact toIntS_loop xs hl _ FUEL _ 0 (by omega) (by omega) (by simp) (fun i hi => by omega) (by rw [fuel_eq]; omega) (by rw [fuel_eq]; omega)

theorem eqIntS_loop (xs : List Int) (hl : (xs.length : Int) ≤ 100000000) (j : Unit → Option Bool) : ∀ (m : Nat) (k : Int), 0 ≤ k → k ≤ (xs.length : Int) → (xs.length : Int) - k < m → 0 < m → fixF (M_l_eqIntS_L1 xs xs j) m k = j () := by
  intro m
  induction m with
  | zero => intro k _ _ h h'; omega
  | succ m ih =>
    intro k hk hk' hm _
    simp only [fixF, M_l_eqIntS_L1, guardO, Bool.cond_decide]
    by_cases h1 : k < (xs.length : Int)
    · simp only [h1, hk, if_true, and_self, decide_true, Bool.not_true, cond_false]
      rw [W_eq (by omega) (by omega)]
      exact ih _ (by omega) (by omega) (by omega) (by omega)
    · simp only [h1, if_false]

theorem eqIntS_self (xs : List Int) (hl : (xs.length : Int) ≤ 100000000) : M_l_eqIntS xs xs = some true := by
  unfold M_l_eqIntS
  simp only [decide_true, Bool.not_true, cond_false]
  exact eqIntS_loop xs hl _ FUEL 0 (by omega) (by omega) (by rw [fuel_eq]; omega) (by rw [fuel_eq]; omega)

/-- A step, again and again. -/
def again (g : Int → Int) : Nat → Int → Int
  | 0, k => k
  | n + 1, k => again g n (g k)

theorem rep_on (t : List Int) (hl : (t.length : Int) ≤ 1048576) (big : Bool) (x2 : List Int × Bool) (hx : x2.1 = t) (q : Int) (j : Int × Bool → Option (Int × List Int × Bool)) : ∀ (m r : Nat) (k i : Int), 0 ≤ k → k ≤ (t.length : Int) → 0 ≤ i → i ≤ 2000 → q ≤ 2000 → r = (q - i).toNat → r < m →
    fixF (M_i_repeated_f46_L1 q x2 j) m (k, i, big) = j (again (wOn t big) r k, big) := by
  intro m
  induction m with
  | zero => intro r k i _ _ _ _ _ _ h; omega
  | succ m ih =>
    intro r k i h0 h1 hi hi' hq hr hm
    simp only [fixF, M_i_repeated_f46_L1, M_i_MotionTo1, Bool.cond_decide, hx]
    cases r with
    | zero =>
      rw [if_neg (by omega)]; rfl
    | succ r =>
      have hb := wOn_bound t big k h0 h1
      rw [if_pos (by omega), iOn_eq t hl big k h0 h1]
      simp only [bindO]
      rw [W_eq (by omega) (by omega)]
      exact ih r _ (i + 1) (by omega) hb.2 (by omega) (by omega) hq (by omega) (by omega)

theorem rep_back (t : List Int) (hl : (t.length : Int) ≤ 1048576) (big : Bool) (x2 : List Int × Bool) (hx : x2.1 = t) (q : Int) (j : Int × Bool → Option (Int × List Int × Bool)) : ∀ (m r : Nat) (k i : Int), 0 ≤ k → k ≤ (t.length : Int) → 0 ≤ i → i ≤ 2000 → q ≤ 2000 → r = (q - i).toNat → r < m →
    fixF (M_i_repeated_f48_L1 q x2 j) m (k, i, big) = j (again (fun k => wBack t big k.toNat) r k, big) := by
  intro m
  induction m with
  | zero => intro r k i _ _ _ _ _ _ h; omega
  | succ m ih =>
    intro r k i h0 h1 hi hi' hq hr hm
    simp only [fixF, M_i_repeated_f48_L1, M_i_MotionTo2, Bool.cond_decide, hx]
    cases r with
    | zero =>
      rw [if_neg (by omega)]; rfl
    | succ r =>
      have hk : ((k.toNat : Nat) : Int) = k := by omega
      have hb := wBack_bound t big k.toNat (by omega)
      have he := iBack_eq t hl big k.toNat (by omega)
      rw [hk] at he
      rw [if_pos (by omega), he]
      simp only [bindO]
      rw [W_eq (by omega) (by omega)]
      exact ih r _ (i + 1) (by omega) (by omega) (by omega) (by omega) hq (by omega) (by omega)

theorem rep_end (t : List Int) (hl : (t.length : Int) ≤ 1048576) (big : Bool) (x2 : List Int × Bool) (hx : x2.1 = t) (q : Int) (j : Int × Bool → Option (Int × List Int × Bool)) : ∀ (m r : Nat) (k i : Int), 0 ≤ k → k ≤ (t.length : Int) → 0 ≤ i → i ≤ 2000 → q ≤ 2000 → r = (q - i).toNat → r < m →
    fixF (M_i_repeated_f50_L1 q x2 j) m (k, i, big) = j (again (wEnd t big) r k, big) := by
  intro m
  induction m with
  | zero => intro r k i _ _ _ _ _ _ h; omega
  | succ m ih =>
    intro r k i h0 h1 hi hi' hq hr hm
    simp only [fixF, M_i_repeated_f50_L1, M_i_MotionTo3, Bool.cond_decide, hx]
    cases r with
    | zero =>
      rw [if_neg (by omega)]; rfl
    | succ r =>
      have hb := wEnd_bound t hl big k h0 h1
      rw [if_pos (by omega), iEnd_eq t hl big k h0 h1]
      simp only [bindO]
      rw [W_eq (by omega) (by omega)]
      exact ih r _ (i + 1) hb.1 hb.2 (by omega) (by omega) hq (by omega) (by omega)

/-- What the motion gives. -/
def motion (t : List Int) (a r c : Int) : Int × Bool × Bool :=
  let n : Int := t.length
  let k := max 0 (min a n)
  let q := max 1 (min c 999)
  let big := decide (65 ≤ r ∧ r ≤ 90)
  if r = 104 then (max (k - q) 0, false, true)
  else if r = 108 ∨ r = 32 then (min (k + q) n, false, true)
  else if r = 119 ∨ r = 87 then (again (wOn t big) q.toNat k, false, true)
  else if r = 98 ∨ r = 66 then (again (fun k => wBack t big k.toNat) q.toNat k, false, true)
  else if r = 101 ∨ r = 69 then (again (wEnd t big) q.toNat k, decide (0 < n), true)
  else if r = 48 then (0, false, true)
  else if r = 94 then (fwd (fun i => cls0 (at' t i) = 0) t.length 0, false, true)
  else if r = 36 then (max (n - 1) 0, decide (0 < n), true)
  else if r = 124 then (min (q - 1) n, false, true)
  else (0, false, false)

theorem iMotion_eq (t : List Int) (hl : (t.length : Int) ≤ 1048576) (a r c : Int) : M_i_MotionTo t a r c = some (motion t a r c) := by
  unfold M_i_MotionTo M_i_within M_i_isUpper M_i_in motion
  simp only [bindO, joinO, Bool.cond_decide]
  have hq0 : 1 ≤ max (1 : Int) (min c 999) := by omega
  have hq1 : max (1 : Int) (min c 999) ≤ 999 := by omega
  have hk0 : 0 ≤ max (0 : Int) (min a (t.length : Int)) := by omega
  have hk1 : max (0 : Int) (min a (t.length : Int)) ≤ (t.length : Int) := by omega
  generalize max (1 : Int) (min c 999) = q at *
  generalize max (0 : Int) (min a (t.length : Int)) = k at *
  have hbig : (if 65 ≤ r then decide (r ≤ 90) else false) = decide (65 ≤ r ∧ r ≤ 90) := by
    by_cases h : 65 ≤ r <;> simp [h]
  rw [hbig]
  generalize decide (65 ≤ r ∧ r ≤ 90) = big
  have e1 : M_i_repeated_f46 k q (t, big) = some (again (wOn t big) q.toNat k, t, big) := by
    unfold M_i_repeated_f46
    simp only [joinO]
    rw [rep_on t hl big (t, big) rfl q _ FUEL q.toNat k 0 hk0 hk1 (by omega) (by omega) (by omega) (by omega) (by rw [fuel_eq]; omega)]
  have e2 : M_i_repeated_f48 k q (t, big) = some (again (fun k => wBack t big k.toNat) q.toNat k, t, big) := by
    unfold M_i_repeated_f48
    simp only [joinO]
    rw [rep_back t hl big (t, big) rfl q _ FUEL q.toNat k 0 hk0 hk1 (by omega) (by omega) (by omega) (by omega) (by rw [fuel_eq]; omega)]
  have e3 : M_i_repeated_f50 k q (t, big) = some (again (wEnd t big) q.toNat k, t, big) := by
    unfold M_i_repeated_f50
    simp only [joinO]
    rw [rep_end t hl big (t, big) rfl q _ FUEL q.toNat k 0 hk0 hk1 (by omega) (by omega) (by omega) (by omega) (by rw [fuel_eq]; omega)]
  simp only [e1, e2, e3]
  rw [W_eq (x := k - q) (by omega) (by omega), W_eq (x := k + q) (by omega) (by omega), W_eq (x := (t.length : Int) - 1) (by omega) (by omega), W_eq (x := q - 1) (by omega) (by omega),
    iBlank_loop t hl _ FUEL t.length 0 (by omega) (by omega) (by rw [fuel_eq]; omega)]
  by_cases c1 : r = 104
  · simp [c1]
  by_cases c2 : r = 108
  · simp [c2]
  by_cases c3 : r = 32
  · simp [c3]
  by_cases c4 : r = 119
  · simp [c4]
  by_cases c5 : r = 87
  · simp [c5]
  by_cases c6 : r = 98
  · simp [c6]
  by_cases c7 : r = 66
  · simp [c7]
  by_cases c8 : r = 101
  · simp [c8]
  by_cases c9 : r = 69
  · simp [c9]
  by_cases c10 : r = 48
  · simp [c10]
  by_cases c11 : r = 94
  · simp [c11]
  by_cases c12 : r = 36
  · simp [c12]
  by_cases c13 : r = 124
  · simp [c13]
  simp [c1, c2, c3, c4, c5, c6, c7, c8, c9, c10, c11, c12, c13]

theorem times_eq (x : Int) : M_s_l22Times x = some (max 1 (min x 999)) := by
  simp only [M_s_l22Times, Bool.cond_decide]
  split
  · congr 1; omega
  · split <;> (congr 1; omega)

theorem sRep (t : List Int) (hl : (t.length : Int) ≤ 1048576) (r q : Int) (g : Int → Int) (hg : ∀ k, 0 ≤ k → k ≤ (t.length : Int) → M_s_l22Word t k r = some (g k) ∧ 0 ≤ g k ∧ g k ≤ (t.length : Int)) (j : Int → Option (Int × Bool × Bool)) : ∀ (m n : Nat) (k i : Int), 0 ≤ k → k ≤ (t.length : Int) → 0 ≤ i → i ≤ 2000 → q ≤ 2000 → n = (q - i).toNat → n < m →
    fixF (M_s_MotionTo_L2 t r q j) m (k, i) = j (again g n k) := by
  intro m
  induction m with
  | zero => intro n k i _ _ _ _ _ _ h; omega
  | succ m ih =>
    intro n k i h0 h1 hi hi' hq hr hm
    simp only [fixF, M_s_MotionTo_L2, Bool.cond_decide]
    cases n with
    | zero => rw [if_neg (by omega)]; rfl
    | succ n =>
      obtain ⟨g1, g2, g3⟩ := hg k h0 h1
      rw [if_pos (by omega), bindO_of g1]
      rw [W_eq (by omega) (by omega)]
      exact ih n _ (i + 1) g2 g3 (by omega) (by omega) hq (by omega) (by omega)

theorem again_congr {g h : Int → Int} {p : Int → Prop} (hp : ∀ k, p k → p (g k)) (e : ∀ k, p k → g k = h k) : ∀ (n : Nat) (k : Int), p k → again g n k = again h n k
  | 0, _, _ => rfl
  | n + 1, k, hk => by
    simp only [again]
    rw [← e k hk]
    exact again_congr hp e n (g k) (hp k hk)

theorem sMotion_eq (t : List Int) (hl : (t.length : Int) ≤ 1048576) (a r c : Int) : M_s_MotionTo t a r c = some (motion t a r c) := by
  unfold M_s_MotionTo motion
  rw [clamp_eq _ _ (by omega), times_eq]
  simp only [bindO, joinO, Bool.cond_decide]
  have hq0 : 1 ≤ max (1 : Int) (min c 999) := by omega
  have hq1 : max (1 : Int) (min c 999) ≤ 999 := by omega
  have hk0 : 0 ≤ max (0 : Int) (min a (t.length : Int)) := by omega
  have hk1 : max (0 : Int) (min a (t.length : Int)) ≤ (t.length : Int) := by omega
  generalize max (1 : Int) (min c 999) = q at *
  generalize max (0 : Int) (min a (t.length : Int)) = k at *
  rw [W_eq (x := k - q) (by omega) (by omega), W_eq (x := k + q) (by omega) (by omega), W_eq (x := (t.length : Int) - 1) (by omega) (by omega), W_eq (x := q - 1) (by omega) (by omega),
    clamp_eq _ _ (by omega), clamp_eq _ _ (by omega), clamp_eq _ _ (by omega), clamp_eq _ _ (by omega),
    sBlank_loop t hl _ FUEL t.length 0 (by omega) (by omega) (by rw [fuel_eq]; omega)]
  have m1 : max (0 : Int) (min (k - q) (t.length : Int)) = max (k - q) 0 := by omega
  have m2 : max (0 : Int) (min (k + q) (t.length : Int)) = min (k + q) (t.length : Int) := by omega
  have m3 : max (0 : Int) (min ((t.length : Int) - 1) (t.length : Int)) = max ((t.length : Int) - 1) 0 := by omega
  have m4 : max (0 : Int) (min (q - 1) (t.length : Int)) = min (q - 1) (t.length : Int) := by omega
  rw [m1, m2, m3, m4]
  have hw : ∀ g : Int → Int, (∀ k, 0 ≤ k → k ≤ (t.length : Int) → M_s_l22Word t k r = some (g k) ∧ 0 ≤ g k ∧ g k ≤ (t.length : Int)) → ∀ j, fixF (M_s_MotionTo_L2 t r q j) FUEL (k, 0) = j (again g q.toNat k) :=
    fun g hg j => sRep t hl r q g hg j FUEL q.toNat k 0 hk0 hk1 (by omega) (by omega) (by omega) (by omega) (by rw [fuel_eq]; omega)
  have word : ∀ k, 0 ≤ k → k ≤ (t.length : Int) → M_s_l22Word t k r = some (if r = 119 ∨ r = 87 then wOn t (decide (r < 97)) k else if r = 98 ∨ r = 66 then wBack t (decide (r < 97)) k.toNat else wEnd t (decide (r < 97)) k) := fun k h0 h1 => sWord_eq t hl k r h0 h1
  have w1 : (r = 119 ∨ r = 87) → ∀ j, fixF (M_s_MotionTo_L2 t r q j) FUEL (k, 0) = j (again (wOn t (decide (65 ≤ r ∧ r ≤ 90))) q.toNat k) := by
    intro h
    refine hw _ fun k h0 h1 => ?_
    have hb := wOn_bound t (decide (65 ≤ r ∧ r ≤ 90)) k h0 h1
    have hd : decide (r < 97) = decide (65 ≤ r ∧ r ≤ 90) := by rcases h with rfl | rfl <;> rfl
    rw [word k h0 h1, if_pos h, hd]
    exact ⟨rfl, by omega, hb.2⟩
  have w2 : (r = 98 ∨ r = 66) → ∀ j, fixF (M_s_MotionTo_L2 t r q j) FUEL (k, 0) = j (again (fun k => wBack t (decide (65 ≤ r ∧ r ≤ 90)) k.toNat) q.toNat k) := by
    intro h
    refine hw _ fun k h0 h1 => ?_
    have hb := wBack_bound t (decide (65 ≤ r ∧ r ≤ 90)) k.toNat (by omega)
    have hd : decide (r < 97) = decide (65 ≤ r ∧ r ≤ 90) := by rcases h with rfl | rfl <;> rfl
    rw [word k h0 h1, if_neg (by rcases h with rfl | rfl <;> decide), if_pos h, hd]
    exact ⟨rfl, hb.1, by omega⟩
  have w3 : (r = 101 ∨ r = 69) → ∀ j, fixF (M_s_MotionTo_L2 t r q j) FUEL (k, 0) = j (again (wEnd t (decide (65 ≤ r ∧ r ≤ 90))) q.toNat k) := by
    intro h
    refine hw _ fun k h0 h1 => ?_
    have hb := wEnd_bound t hl (decide (65 ≤ r ∧ r ≤ 90)) k h0 h1
    have hd : decide (r < 97) = decide (65 ≤ r ∧ r ≤ 90) := by rcases h with rfl | rfl <;> rfl
    rw [word k h0 h1, if_neg (by rcases h with rfl | rfl <;> decide), if_neg (by rcases h with rfl | rfl <;> decide), hd]
    exact ⟨rfl, hb.1, hb.2⟩
  by_cases c1 : r = 104
  · simp [c1]
  by_cases c2 : r = 108
  · simp [c2]
  by_cases c3 : r = 32
  · simp [c3]
  by_cases c4 : r = 119
  · rw [w1 (.inl c4)]; subst c4; simp
  by_cases c5 : r = 87
  · rw [w1 (.inr c5)]; subst c5; simp
  by_cases c6 : r = 98
  · rw [w2 (.inl c6)]; subst c6; simp
  by_cases c7 : r = 66
  · rw [w2 (.inr c7)]; subst c7; simp
  by_cases c8 : r = 101
  · rw [w3 (.inl c8)]; subst c8; simp
  by_cases c9 : r = 69
  · rw [w3 (.inr c9)]; subst c9; simp
  by_cases c10 : r = 48
  · simp [c10]
  by_cases c11 : r = 94
  · simp [c11]
  by_cases c12 : r = 36
  · simp [c12]
  by_cases c13 : r = 124
  · simp [c13]
  simp [c1, c2, c3, c4, c5, c6, c7, c8, c9, c10, c11, c12, c13]

theorem law_MotionTo (l : List Int) (a r t : Int) (w1 : (Lit.int .i64 a).wf = true) (w2 : (Lit.int .i64 r).wf = true) (w3 : (Lit.int .i64 t).wf = true) : M_l_FnExactMotionTo l a r t = some true := by
  simp only [M_l_FnExactMotionTo]
  cases hc : decide ((1048576 : Int) < (l.length : Int)) with
  | true => rfl
  | false =>
    have h : ¬ (1048576 : Int) < (l.length : Int) := by simpa using hc
    have et := toIntS_eq l (by omega)
    simp only [cond_false]
    rw [bindO_of et, bindO_of (sMotion_eq l (by omega) a r t), bindO_of et, bindO_of (iMotion_eq l (by omega) a r t)]
    simp only [decide_true, Bool.not_true, cond_false, BEq.rfl]
    rw [bindO_of et, bindO_of (eqIntS_self l (by omega))]
    rfl

end Go.Eng

namespace Go.Proofs.Ytamjkgjmefknkaa.fnExactMotionTo
open Go.ChangeShapes Go.WideShapes Go.ChangeAt Go.RowKit Go.Eng
open Go.ChangeMaps (open_string shut_string)

theorem own : ownKnob Try.prog.godebug = none := by kernel_rfl
theorem laidOut : laidOutB Try.prog = true := by kernel_rfl

theorem walk (a0 : Option Addr) (len0 cap0 : Nat) (z0 : List Int) (a1 : Int) (a2 : Int) (a3 : Int) (w : World) (w0 : IsRow .i64 w a0 len0 cap0 z0) (w1 : (Lit.int .i64 a1).wf = true) (w2 : (Lit.int .i64 a2).wf = true) (w3 : (Lit.int .i64 a3).wf = true) :
    Calls Try.prog 5 #[.slice a0 len0 cap0, .int .i64 a1, .int .i64 a2, .int .i64 a3] w fun e w' => e = .returned (.bool true) ∧ Below w.heap.size w w' := by
  obtain ⟨l0, f0⟩ := w0.intFact
  have h := ok_l_FnExactMotionTo (z0.take len0) a1 a2 a3 a0 cap0 len0 l0 true (law_MotionTo (z0.take len0) a1 a2 a3 w1 w2 w3)
  refine Calls.mono (h.calls w ?_) ?_
  · intro x hx
    rcases List.mem_cons.1 hx with rfl | hx
    · exact ⟨_, f0.choose_spec⟩
    cases hx
  · rintro e w' ⟨r, -, he, hk, -⟩
    exact ⟨he, hk.below⟩

set_option maxRecDepth 100000 in
theorem lifted (os : Os) (started : os.Started) (H : Type) (enc : TypeId × Value → H) :
    ReturnsInHanded {} Try.checked os 5 .any (Rows.fnExactMotionToSpec.pre6 enc Try.prog Try.f5 Rows.fnExactMotionToRow.domain false) (Rows.fnExactMotionToSpec.post enc Try.prog Try.f5 false true false false) := by
  refine returnsInHanded_of_change (C := Try.checked) own started (by kernel_rfl) Try.func5
    (ChangeSpec.witness6 (enc := enc) (C := Try.checked) false ⟨#[], #[.slice none 0 0, .int .i64 0, .int .i64 0, .int .i64 0], []⟩ 8 (by kernel_rfl) (by kernel_rfl) (by kernel_rfl) (by kernel_rfl)) ?_
  intro W base args ds gs before hval0 hW hcnd _
  have hval : ∀ (j : Nat) t v, Try.f5.params[j]? = some t → args[j]? = some v → Value.okWide Try.prog W .any base t v := hval0
  have hW' := hW
  obtain ⟨p, q, hA0, hV, rfl, hfz, hnd⟩ := hW
  have hA : DataW.TrodAll enc Try.prog W 0 (fun _ => true) true Try.f5.params.toList args.toList ds p := hA0
  rw [Try.params5] at hA hval
  obtain ⟨v0, vs0, d0, ds0, p0, q0, hargs, rfl, rfl, h0, r0⟩ := trodAll_cons hA
  obtain ⟨v1, vs1, d1, ds1, p1, q1, rfl, rfl, rfl, h1, r1⟩ := trodAll_cons r0
  obtain ⟨v2, vs2, d2, ds2, p2, q2, rfl, rfl, rfl, h2, r2⟩ := trodAll_cons r1
  obtain ⟨v3, vs3, d3, ds3, p3, q3, rfl, rfl, rfl, h3, r3⟩ := trodAll_cons r2
  obtain ⟨rfl, rfl, rfl⟩ := trodAll_nil r3
  obtain rfl : args = #[v0, v1, v2, v3] := by cases args; simp_all
  obtain ⟨rfl, rfl⟩ := trodVars_none hV
  obtain ⟨a0, len0, cap0, rfl⟩ := okWide_slice Try.underlying23 (hval 0 23 v0 rfl rfl)
  have k0 := h0
  have lt0 : ∀ x ∈ p0, x.block < W.heap.size := by obtain ⟨m, hm⟩ := k0; exact DataW.trod_lt m _ _ _ hm
  obtain ⟨z0, w0⟩ : ∃ zs, IsRow .i64 W a0 len0 cap0 zs := by
    obtain ⟨fuel, hf⟩ := h0
    rcases open_ints Try.underlying23 Try.underlying3 (by kernel_rfl) hf with ⟨hcs, _⟩ | ⟨x, l, c, zs, hcs, _, hl, hm, hz, _, hcell, hwz⟩
    · simp [Value.cells] at hcs
      obtain ⟨rfl, rfl, rfl⟩ := hcs
      exact ⟨[], .inl ⟨rfl, rfl, rfl, rfl⟩⟩
    · simp [Value.cells] at hcs
      obtain ⟨rfl, rfl, rfl⟩ := hcs
      exact ⟨zs, .inr ⟨_, rfl, hl, hm, by simpa using hz, hcell, hwz⟩⟩
  obtain ⟨a1, rfl, rfl, rfl, w1⟩ := open_int Try.underlying3 (hval 1 3 v1 rfl rfl) h1
  obtain ⟨a2, rfl, rfl, rfl, w2⟩ := open_int Try.underlying3 (hval 2 3 v2 rfl rfl) h2
  obtain ⟨a3, rfl, rfl, rfl, w3⟩ := open_int Try.underlying3 (hval 3 3 v3 rfl rfl) h3
  clear hA0 hval0
  simp only [List.append_nil] at hW'
  refine (walk a0 len0 cap0 z0 a1 a2 a3 W w0 w1 w2 w3).mono fun e W' ⟨he, bel⟩ => ?_
  subst he
  exact ⟨_, rfl, _, _, _, [], _, [], hW', trodAll_mk1 (shut_bool Try.underlying4 _), (trodAll_cons_mk (Below.trod laidOut (by kernel_rfl) (of_decide_eq_true (by kernel_rfl)) k0 bel lt0) (trodAll_cons_mk (shut_int Try.underlying3 w1) (trodAll_cons_mk (shut_int Try.underlying3 w2) (trodAll_cons_mk (shut_int Try.underlying3 w3) trodAll_mk0)))), rfl, bel.frame _, fun h => by cases h⟩

theorem over : Rows.fnExactMotionToRow.holds Try.pinned (OpenSpec.ofChange Rows.fnExactMotionToSpec) :=
  OpenClaim.holds_of_wide 5 Try.f5 rfl rfl rfl rfl rfl rfl rfl ⟨rfl, rfl, rfl, rfl, rfl⟩ rfl rfl rfl rfl rfl (by kernel_rfl) Try.func5 (by kernel_rfl)
    (of_decide_eq_true (by kernel_rfl)) (by unfold Func.isWrapper; first | (rw [if_pos (by decide +kernel)]; kernel_rfl) | (rw [if_neg (by decide +kernel)]; exact ⟨rfl, rfl⟩))
    (fun os started H enc _ => lifted os started H enc)

theorem proved : Rows.FnExactMotionToSaid := over
#print axioms proved
end Go.Proofs.Ytamjkgjmefknkaa.fnExactMotionTo
