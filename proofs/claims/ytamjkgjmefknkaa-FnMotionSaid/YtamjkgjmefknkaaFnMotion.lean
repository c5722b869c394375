/- FnMotion: for every input the given law returns true and leaves its arguments as they were. No condition. -/
import Derived.Test.YtamjkgjmefknkaaFnMotionWalkA
import Derived.Test.YtamjkgjmefknkaaRows
import Derived.WalkKit
import Derived.ProofKit
import Derived.OpenShut
import Derived.ShutString
set_option linter.unusedVariables false
set_option linter.unusedSimpArgs false
namespace Go.Eng
open Go Go.Proofs


theorem bindO_of {α β : Type} {m : Option α} {k : α → Option β} {y : α} (h : m = some y) : bindO m k = k y := by rw [h]; rfl

theorem wf64 {a : Int} (h : (Lit.int .i64 a).wf = true) : -9223372036854775808 ≤ a ∧ a ≤ 9223372036854775807 := by
  simpa [Lit.wf, IntKind.min, IntKind.max, IntKind.signed, IntKind.bits] using h


/-- The class of a rune. -/
def cls0 (r : Int) : Int :=
  if r = 9 ∨ r = 10 ∨ r = 32 then 0
  else if (97 ≤ r ∧ r ≤ 122) ∨ (65 ≤ r ∧ r ≤ 90) ∨ (48 ≤ r ∧ r ≤ 57) ∨ r = 95 ∨ (159 < r ∧ r ≤ 1114111 ∧ (r < 55296 ∨ 57343 < r)) then 1 else 2

theorem iClass_eq (r : Int) : M_i_ClassOf r = some (cls0 r) := by
  unfold M_i_ClassOf M_i_Printable M_i_RuneOk M_i_isLower M_i_isUpper M_i_isDigit M_i_in cls0 callO
  simp only [bindO, Bool.cond_decide]
  by_cases h0 : r = 9
  · simp [h0]
  by_cases h1 : r = 10
  · simp [h1]
  by_cases h2 : r = 32
  · simp [h2]
  simp only [h0, h1, h2, if_false, decide_false, or_self, cond_false, Bool.false_eq_true]
  by_cases a1 : 97 ≤ r ∧ r ≤ 122
  · have : ¬ (159 < r) := by omega
    simp [a1, this]
  by_cases a2 : 65 ≤ r ∧ r ≤ 90
  · have : ¬ (159 < r) := by omega
    have a1' : ¬ (97 ≤ r) := by omega
    simp [a2, a1', this]
  by_cases a3 : 48 ≤ r ∧ r ≤ 57
  · have : ¬ (159 < r) := by omega
    have a1' : ¬ (97 ≤ r) := by omega
    have a2' : ¬ (65 ≤ r) := by omega
    simp [a3, a1', a2', this]
  by_cases a4 : r = 95
  · subst a4; decide
  have e1 : (if 97 ≤ r then decide (r ≤ 122) else false) = false := by split <;> simp <;> omega
  have e2 : (if 65 ≤ r then decide (r ≤ 90) else false) = false := by split <;> simp <;> omega
  have e3 : (if 48 ≤ r then decide (r ≤ 57) else false) = false := by split <;> simp <;> omega
  simp only [e1, e2, e3, a1, a2, a3, a4, cond_false, decide_false, false_or, if_false, if_true, and_true, decide_eq_true_eq, Bool.false_eq_true]
  by_cases a5 : 159 < r
  · by_cases a6 : r ≤ 1114111
    · by_cases a7 : r < 55296
      · have b1 : 0 ≤ r := by omega
        have b2 : 32 ≤ r := by omega
        have b3 : ¬ (r ≤ 159) := by omega
        have b4 : ¬ (55296 ≤ r) := by omega
        have b5 : 127 ≤ r := by omega
        simp [a5, a6, a7, b1, b2, b3, b4, b5]
      · by_cases a8 : 57343 < r
        · have b1 : 0 ≤ r := by omega
          have b2 : 32 ≤ r := by omega
          have b3 : ¬ (r ≤ 159) := by omega
          have b4 : 55296 ≤ r := by omega
          have b5 : 127 ≤ r := by omega
          have b6 : ¬ (r ≤ 57343) := by omega
          simp [a5, a6, a7, a8, b1, b2, b3, b4, b5, b6]
        · have b1 : 0 ≤ r := by omega
          have b4 : 55296 ≤ r := by omega
          have b6 : r ≤ 57343 := by omega
          simp [a5, a6, a7, a8, b1, b4, b6]
    · simp [a5, a6]
  · simp [a5]

def clsB (big : Bool) (r : Int) : Int := if big = true ∧ cls0 r = 2 then 1 else cls0 r

theorem iClassB_eq (t : List Int) (i : Int) (big : Bool) (h0 : 0 ≤ i) (h1 : i < (t.length : Int)) : M_i_classAt t i big = some (clsB big (at' t i)) := by
  unfold M_i_classAt clsB guardO
  rw [if_pos ⟨h0, h1⟩, bindO_of (iClass_eq _)]
  cases big
  · simp
  · by_cases h : cls0 (at' t i) = 2 <;> simp [h]

/-- On while f holds, r steps at most. -/
def fwd (f : Int → Prop) [DecidablePred f] : Nat → Int → Int
  | 0, k => k
  | r + 1, k => if f k then fwd f r (k + 1) else k

theorem fwd_bound (f : Int → Prop) [DecidablePred f] : ∀ (r : Nat) (k : Int), k ≤ fwd f r k ∧ fwd f r k ≤ k + r
  | 0, k => by simp [fwd]
  | r + 1, k => by
    have := fwd_bound f r (k + 1)
    simp only [fwd]
    split <;> omega

/-- Back while f holds of the place before. -/
def bwd (f : Int → Prop) [DecidablePred f] : Nat → Nat
  | 0 => 0
  | r + 1 => if f (r : Int) then bwd f r else r + 1

theorem bwd_le (f : Int → Prop) [DecidablePred f] : ∀ (r : Nat), bwd f r ≤ r
  | 0 => Nat.le_refl _
  | r + 1 => by
    have := bwd_le f r
    simp only [bwd]
    split <;> omega

section
variable (t : List Int) (hl : (t.length : Int) ≤ 1048576) (big : Bool)
include hl

theorem runEnd_loop (c : Int) (j : Int → Option Int) : ∀ (m r : Nat) (k : Int), 0 ≤ k → k + r = (t.length : Int) → r < m →
    fixF (M_i_runEnd_L1 t big c j) m k = j (fwd (fun i => clsB big (at' t i) = c) r k) := by
  intro m
  induction m with
  | zero => intro r k _ _ h; omega
  | succ m ih =>
    intro r k hk hr hm
    simp only [fixF, M_i_runEnd_L1, callO, Bool.cond_decide]
    cases r with
    | zero =>
      have : ¬ (k < (t.length : Int)) := by omega
      simp [this, fwd]
    | succ r =>
      have h1 : k < (t.length : Int) := by omega
      simp only [h1, decide_true, if_true]
      rw [bindO_of (iClassB_eq t k big hk h1), W_eq (by omega) (by omega), ih r (k + 1) (by omega) (by omega) (by omega)]
      simp only [fwd, Bool.cond_decide]
      split <;> rfl

theorem iEnd_loop (j : Int → Option Int) : ∀ (m r : Nat) (k : Int), 0 ≤ k → k + r = (t.length : Int) → r < m →
    fixF (M_i_ViWordEnd_L1 t big j) m k = j (fwd (fun i => clsB big (at' t i) = 0) r k) := by
  intro m
  induction m with
  | zero => intro r k _ _ h; omega
  | succ m ih =>
    intro r k hk hr hm
    simp only [fixF, M_i_ViWordEnd_L1, callO, Bool.cond_decide]
    cases r with
    | zero =>
      have : ¬ (k < (t.length : Int)) := by omega
      simp [this, fwd]
    | succ r =>
      have h1 : k < (t.length : Int) := by omega
      simp only [h1, decide_true, if_true]
      rw [bindO_of (iClassB_eq t k big hk h1), W_eq (by omega) (by omega), ih r (k + 1) (by omega) (by omega) (by omega)]
      simp only [fwd, Bool.cond_decide]
      split <;> rfl

theorem iOn_loop (j : Int → Option Int) : ∀ (m r : Nat) (k : Int), 0 ≤ k → k + r = (t.length : Int) → r < m →
    fixF (M_i_ViWordOn_L1 t big j) m k = j (fwd (fun i => clsB big (at' t i) = 0) r k) := by
  intro m
  induction m with
  | zero => intro r k _ _ h; omega
  | succ m ih =>
    intro r k hk hr hm
    simp only [fixF, M_i_ViWordOn_L1, callO, Bool.cond_decide]
    cases r with
    | zero =>
      have : ¬ (k < (t.length : Int)) := by omega
      simp [this, fwd]
    | succ r =>
      have h1 : k < (t.length : Int) := by omega
      simp only [h1, decide_true, if_true]
      rw [bindO_of (iClassB_eq t k big hk h1), W_eq (by omega) (by omega), ih r (k + 1) (by omega) (by omega) (by omega)]
      simp only [fwd, Bool.cond_decide]
      split <;> rfl

theorem iBlank_loop (j : Int → Option (Int × Bool × Bool)) : ∀ (m r : Nat) (k : Int), 0 ≤ k → k + r = (t.length : Int) → r < m →
    fixF (M_i_MotionTo_L1 t j) m k = j (fwd (fun i => cls0 (at' t i) = 0) r k) := by
  intro m
  induction m with
  | zero => intro r k _ _ h; omega
  | succ m ih =>
    intro r k hk hr hm
    simp only [fixF, M_i_MotionTo_L1, callO, Bool.cond_decide, guardO]
    cases r with
    | zero =>
      have : ¬ (k < (t.length : Int)) := by omega
      simp [this, fwd]
    | succ r =>
      have h1 : k < (t.length : Int) := by omega
      simp only [h1, decide_true, if_true, hk, and_self, imp_self, imp_true_iff]
      rw [bindO_of (iClass_eq _), W_eq (by omega) (by omega), ih r (k + 1) (by omega) (by omega) (by omega)]
      simp only [fwd, Bool.cond_decide]
      split <;> rfl

theorem iBack1_loop (j : Int → Option Int) : ∀ (m k : Nat), (k : Int) ≤ (t.length : Int) → k < m →
    fixF (M_i_ViWordBack_L1 t big j) m (k : Int) = j (bwd (fun i => clsB big (at' t i) = 0) k : Nat) := by
  intro m
  induction m with
  | zero => intro k _ h; omega
  | succ m ih =>
    intro k hk hm
    simp only [fixF, M_i_ViWordBack_L1, callO, Bool.cond_decide]
    cases k with
    | zero => simp [bwd]
    | succ k =>
      have h1 : (0 : Int) < ((k + 1 : Nat) : Int) := by omega
      have e : ((k + 1 : Nat) : Int) - 1 = (k : Int) := by omega
      simp only [h1, decide_true, if_true]
      rw [W_eq (by omega) (by omega), e, bindO_of (iClassB_eq t k big (by omega) (by omega)), ih k (by omega) (by omega)]
      simp only [bwd, Bool.cond_decide]
      split <;> rfl

theorem iBack2_loop (c : Int) (j : Int → Option Int) : ∀ (m k : Nat), (k : Int) ≤ (t.length : Int) → k < m →
    fixF (M_i_ViWordBack_L2 t big c j) m (k : Int) = j (bwd (fun i => clsB big (at' t i) = c) k : Nat) := by
  intro m
  induction m with
  | zero => intro k _ h; omega
  | succ m ih =>
    intro k hk hm
    simp only [fixF, M_i_ViWordBack_L2, callO, Bool.cond_decide]
    cases k with
    | zero => simp [bwd]
    | succ k =>
      have h1 : (0 : Int) < ((k + 1 : Nat) : Int) := by omega
      have e : ((k + 1 : Nat) : Int) - 1 = (k : Int) := by omega
      simp only [h1, decide_true, if_true]
      rw [W_eq (by omega) (by omega), e, bindO_of (iClassB_eq t k big (by omega) (by omega)), ih k (by omega) (by omega)]
      simp only [bwd, Bool.cond_decide]
      split <;> rfl

omit hl in
/-- The three motions. -/
def wOn (k : Int) : Int :=
  let n : Int := t.length
  let x := if k < n ∧ clsB big (at' t k) ≠ 0 then fwd (fun i => clsB big (at' t i) = clsB big (at' t k)) (n - k).toNat k else k
  fwd (fun i => clsB big (at' t i) = 0) (n - x).toNat x
omit hl in
def wBack (k : Nat) : Int :=
  let x := bwd (fun i => clsB big (at' t i) = 0) k
  if x = 0 then 0 else (bwd (fun i => clsB big (at' t i) = clsB big (at' t ((x : Int) - 1))) x : Nat)
omit hl in
def wEnd (k : Int) : Int :=
  let n : Int := t.length
  if n = 0 then 0 else if n ≤ k + 1 then n - 1 else
    let x := fwd (fun i => clsB big (at' t i) = 0) (n - (k + 1)).toNat (k + 1)
    if n ≤ x then n - 1 else fwd (fun i => clsB big (at' t i) = clsB big (at' t x)) (n - x).toNat x - 1

omit hl in
theorem wOn_bound (k : Int) (h0 : 0 ≤ k) (h1 : k ≤ (t.length : Int)) : k ≤ wOn t big k ∧ wOn t big k ≤ (t.length : Int) := by
  unfold wOn
  simp only
  split
  · have a := fwd_bound (fun i => clsB big (at' t i) = clsB big (at' t k)) ((t.length : Int) - k).toNat k
    have b := fwd_bound (fun i => clsB big (at' t i) = 0) ((t.length : Int) - fwd (fun i => clsB big (at' t i) = clsB big (at' t k)) ((t.length : Int) - k).toNat k).toNat (fwd (fun i => clsB big (at' t i) = clsB big (at' t k)) ((t.length : Int) - k).toNat k)
    omega
  · have b := fwd_bound (fun i => clsB big (at' t i) = 0) ((t.length : Int) - k).toNat k
    omega

omit hl in
theorem wBack_bound (k : Nat) (h1 : (k : Int) ≤ (t.length : Int)) : 0 ≤ wBack t big k ∧ wBack t big k ≤ k := by
  unfold wBack
  simp only
  have a := bwd_le (fun i => clsB big (at' t i) = 0) k
  split
  · omega
  · have b := bwd_le (fun i => clsB big (at' t i) = clsB big (at' t ((bwd (fun i => clsB big (at' t i) = 0) k : Nat) - 1 : Int))) (bwd (fun i => clsB big (at' t i) = 0) k)
    omega

theorem wEnd_bound (k : Int) (h0 : 0 ≤ k) (h1 : k ≤ (t.length : Int)) : 0 ≤ wEnd t big k ∧ wEnd t big k ≤ (t.length : Int) := by
  unfold wEnd
  simp only
  split
  · omega
  · split
    · omega
    · have a := fwd_bound (fun i => clsB big (at' t i) = 0) ((t.length : Int) - (k + 1)).toNat (k + 1)
      split
      · omega
      · have b := fwd_bound (fun i => clsB big (at' t i) = clsB big (at' t (fwd (fun i => clsB big (at' t i) = 0) ((t.length : Int) - (k + 1)).toNat (k + 1)))) ((t.length : Int) - fwd (fun i => clsB big (at' t i) = 0) ((t.length : Int) - (k + 1)).toNat (k + 1)).toNat (fwd (fun i => clsB big (at' t i) = 0) ((t.length : Int) - (k + 1)).toNat (k + 1))
        omega

theorem iOn_eq (k : Int) (h0 : 0 ≤ k) (h1 : k ≤ (t.length : Int)) : M_i_ViWordOn t k big = some (wOn t big k) := by
  unfold M_i_ViWordOn M_i_within wOn
  have e : max (0 : Int) (min k (t.length : Int)) = k := by omega
  simp only [bindO, joinO, callO, Bool.cond_decide, e]
  by_cases h2 : k < (t.length : Int)
  · simp only [h2, decide_true, if_true, true_and]
    rw [iClassB_eq t k big h0 h2]
    simp only
    by_cases h3 : clsB big (at' t k) = 0
    · simp only [h3, decide_true, Bool.not_true, cond_false, ne_eq, not_true_eq_false, if_false]
      rw [iOn_loop t hl big _ FUEL ((t.length : Int) - k).toNat k h0 (by omega) (by rw [fuel_eq]; omega)]
    · simp only [h3, decide_false, Bool.not_false, cond_true, ne_eq, not_false_eq_true, if_true]
      have hr : M_i_runEnd t k big = some (fwd (fun i => clsB big (at' t i) = clsB big (at' t k)) ((t.length : Int) - k).toNat k) := by
        unfold M_i_runEnd
        rw [bindO_of (iClassB_eq t k big h0 h2)]
        simp only [joinO]
        rw [runEnd_loop t hl big _ _ FUEL ((t.length : Int) - k).toNat k h0 (by omega) (by rw [fuel_eq]; omega)]
      rw [hr]
      simp only
      have b := fwd_bound (fun i => clsB big (at' t i) = clsB big (at' t k)) ((t.length : Int) - k).toNat k
      generalize fwd (fun i => clsB big (at' t i) = clsB big (at' t k)) ((t.length : Int) - k).toNat k = x at *
      rw [iOn_loop t hl big _ FUEL ((t.length : Int) - x).toNat x (by omega) (by omega) (by rw [fuel_eq]; omega)]
  · simp only [h2, decide_false, if_false, Bool.false_eq_true, false_and, cond_false]
    rw [iOn_loop t hl big _ FUEL ((t.length : Int) - k).toNat k h0 (by omega) (by rw [fuel_eq]; omega)]

theorem iBack_eq (k : Nat) (h1 : (k : Int) ≤ (t.length : Int)) : M_i_ViWordBack t (k : Int) big = some (wBack t big k) := by
  unfold M_i_ViWordBack M_i_within wBack
  have e : max (0 : Int) (min (k : Int) (t.length : Int)) = k := by omega
  simp only [bindO, joinO, Bool.cond_decide, e]
  rw [iBack1_loop t hl big _ FUEL k h1 (by rw [fuel_eq]; omega)]
  have a := bwd_le (fun i => clsB big (at' t i) = 0) k
  generalize bwd (fun i => clsB big (at' t i) = 0) k = x at *
  by_cases h2 : x = 0
  · simp [h2]
  · have h2' : ¬ ((x : Int) = 0) := by omega
    simp only [h2, h2', if_false]
    rw [W_eq (by omega) (by omega), iClassB_eq t ((x : Int) - 1) big (by omega) (by omega)]
    simp only
    rw [iBack2_loop t hl big _ _ FUEL x (by omega) (by rw [fuel_eq]; omega)]

theorem iEnd_eq (k : Int) (h0 : 0 ≤ k) (h1 : k ≤ (t.length : Int)) : M_i_ViWordEnd t k big = some (wEnd t big k) := by
  unfold M_i_ViWordEnd M_i_within wEnd
  have e : max (0 : Int) (min k (t.length : Int)) = k := by omega
  simp only [bindO, joinO, Bool.cond_decide, e]
  by_cases hz : (t.length : Int) = 0
  · simp [hz]
  · simp only [hz, if_false]
    rw [W_eq (x := k + 1) (by omega) (by omega)]
    by_cases h2 : (t.length : Int) ≤ k + 1
    · simp only [h2, if_true]
      obtain ⟨n, hn⟩ : ∃ n, FUEL = n + 1 := ⟨FUEL - 1, by have := fuel_eq; omega⟩
      rw [hn]
      have h3 : ¬ (k + 1 < (t.length : Int)) := by omega
      simp only [fixF, M_i_ViWordEnd_L1, callO, h3, decide_false, Bool.false_eq_true, if_false, cond_false, h2, if_true]
      rw [W_eq (by omega) (by omega)]
    · simp only [h2, if_false]
      rw [iEnd_loop t hl big _ FUEL ((t.length : Int) - (k + 1)).toNat (k + 1) (by omega) (by omega) (by rw [fuel_eq]; omega)]
      have b := fwd_bound (fun i => clsB big (at' t i) = 0) ((t.length : Int) - (k + 1)).toNat (k + 1)
      generalize fwd (fun i => clsB big (at' t i) = 0) ((t.length : Int) - (k + 1)).toNat (k + 1) = x at *
      by_cases h3 : (t.length : Int) ≤ x
      · simp only [h3, if_true]
        rw [W_eq (by omega) (by omega)]
      · simp only [h3, if_false]
        have hr : M_i_runEnd t x big = some (fwd (fun i => clsB big (at' t i) = clsB big (at' t x)) ((t.length : Int) - x).toNat x) := by
          unfold M_i_runEnd
          rw [bindO_of (iClassB_eq t x big (by omega) (by omega))]
          simp only [joinO]
          rw [runEnd_loop t hl big _ _ FUEL ((t.length : Int) - x).toNat x (by omega) (by omega) (by rw [fuel_eq]; omega)]
        rw [hr]
        simp only
        have b2 := fwd_bound (fun i => clsB big (at' t i) = clsB big (at' t x)) ((t.length : Int) - x).toNat x
        rw [W_eq (by omega) (by omega)]
end

/-- A step, again and again. -/
def again (g : Int → Int) : Nat → Int → Int
  | 0, k => k
  | n + 1, k => again g n (g k)

theorem rep_on (t : List Int) (hl : (t.length : Int) ≤ 1048576) (big : Bool) (x2 : List Int × Bool) (hx : x2.1 = t) (q : Int) (j : Int × Bool → Option (Int × List Int × Bool)) : ∀ (m r : Nat) (k i : Int), 0 ≤ k → k ≤ (t.length : Int) → 0 ≤ i → i ≤ 2000 → q ≤ 2000 → r = (q - i).toNat → r < m →
    fixF (M_i_repeated_f46_L1 q x2 j) m (k, i, big) = j (again (wOn t big) r k, big) := by
  intro m
  induction m with
  | zero => intro r k i _ _ _ _ _ _ h; omega
  | succ m ih =>
    intro r k i h0 h1 hi hi' hq hr hm
    simp only [fixF, M_i_repeated_f46_L1, M_i_MotionTo1, Bool.cond_decide, hx]
    cases r with
    | zero =>
      rw [if_neg (by omega)]; rfl
    | succ r =>
      have hb := wOn_bound t big k h0 h1
      rw [if_pos (by omega), iOn_eq t hl big k h0 h1]
      simp only [bindO]
      rw [W_eq (by omega) (by omega)]
      exact ih r _ (i + 1) (by omega) hb.2 (by omega) (by omega) hq (by omega) (by omega)

theorem rep_back (t : List Int) (hl : (t.length : Int) ≤ 1048576) (big : Bool) (x2 : List Int × Bool) (hx : x2.1 = t) (q : Int) (j : Int × Bool → Option (Int × List Int × Bool)) : ∀ (m r : Nat) (k i : Int), 0 ≤ k → k ≤ (t.length : Int) → 0 ≤ i → i ≤ 2000 → q ≤ 2000 → r = (q - i).toNat → r < m →
    fixF (M_i_repeated_f48_L1 q x2 j) m (k, i, big) = j (again (fun k => wBack t big k.toNat) r k, big) := by
  intro m
  induction m with
  | zero => intro r k i _ _ _ _ _ _ h; omega
  | succ m ih =>
    intro r k i h0 h1 hi hi' hq hr hm
    simp only [fixF, M_i_repeated_f48_L1, M_i_MotionTo2, Bool.cond_decide, hx]
    cases r with
    | zero =>
      rw [if_neg (by omega)]; rfl
    | succ r =>
      have hk : ((k.toNat : Nat) : Int) = k := by omega
      have hb := wBack_bound t big k.toNat (by omega)
      have he := iBack_eq t hl big k.toNat (by omega)
      rw [hk] at he
      rw [if_pos (by omega), he]
      simp only [bindO]
      rw [W_eq (by omega) (by omega)]
      exact ih r _ (i + 1) (by omega) (by omega) (by omega) (by omega) hq (by omega) (by omega)

theorem rep_end (t : List Int) (hl : (t.length : Int) ≤ 1048576) (big : Bool) (x2 : List Int × Bool) (hx : x2.1 = t) (q : Int) (j : Int × Bool → Option (Int × List Int × Bool)) : ∀ (m r : Nat) (k i : Int), 0 ≤ k → k ≤ (t.length : Int) → 0 ≤ i → i ≤ 2000 → q ≤ 2000 → r = (q - i).toNat → r < m →
    fixF (M_i_repeated_f50_L1 q x2 j) m (k, i, big) = j (again (wEnd t big) r k, big) := by
  intro m
  induction m with
  | zero => intro r k i _ _ _ _ _ _ h; omega
  | succ m ih =>
    intro r k i h0 h1 hi hi' hq hr hm
    simp only [fixF, M_i_repeated_f50_L1, M_i_MotionTo3, Bool.cond_decide, hx]
    cases r with
    | zero =>
      rw [if_neg (by omega)]; rfl
    | succ r =>
      have hb := wEnd_bound t hl big k h0 h1
      rw [if_pos (by omega), iEnd_eq t hl big k h0 h1]
      simp only [bindO]
      rw [W_eq (by omega) (by omega)]
      exact ih r _ (i + 1) hb.1 hb.2 (by omega) (by omega) hq (by omega) (by omega)

/-- What the motion gives. -/
def motion (t : List Int) (a r c : Int) : Int × Bool × Bool :=
  let n : Int := t.length
  let k := max 0 (min a n)
  let q := max 1 (min c 999)
  let big := decide (65 ≤ r ∧ r ≤ 90)
  if r = 104 then (max (k - q) 0, false, true)
  else if r = 108 ∨ r = 32 then (min (k + q) n, false, true)
  else if r = 119 ∨ r = 87 then (again (wOn t big) q.toNat k, false, true)
  else if r = 98 ∨ r = 66 then (again (fun k => wBack t big k.toNat) q.toNat k, false, true)
  else if r = 101 ∨ r = 69 then (again (wEnd t big) q.toNat k, decide (0 < n), true)
  else if r = 48 then (0, false, true)
  else if r = 94 then (fwd (fun i => cls0 (at' t i) = 0) t.length 0, false, true)
  else if r = 36 then (max (n - 1) 0, decide (0 < n), true)
  else if r = 124 then (min (q - 1) n, false, true)
  else (0, false, false)

theorem iMotion_eq (t : List Int) (hl : (t.length : Int) ≤ 1048576) (a r c : Int) : M_i_MotionTo t a r c = some (motion t a r c) := by
  unfold M_i_MotionTo M_i_within M_i_isUpper M_i_in motion
  simp only [bindO, joinO, Bool.cond_decide]
  have hq0 : 1 ≤ max (1 : Int) (min c 999) := by omega
  have hq1 : max (1 : Int) (min c 999) ≤ 999 := by omega
  have hk0 : 0 ≤ max (0 : Int) (min a (t.length : Int)) := by omega
  have hk1 : max (0 : Int) (min a (t.length : Int)) ≤ (t.length : Int) := by omega
  generalize max (1 : Int) (min c 999) = q at *
  generalize max (0 : Int) (min a (t.length : Int)) = k at *
  have hbig : (if 65 ≤ r then decide (r ≤ 90) else false) = decide (65 ≤ r ∧ r ≤ 90) := by
    by_cases h : 65 ≤ r <;> simp [h]
  rw [hbig]
  generalize decide (65 ≤ r ∧ r ≤ 90) = big
  have e1 : M_i_repeated_f46 k q (t, big) = some (again (wOn t big) q.toNat k, t, big) := by
    unfold M_i_repeated_f46
    simp only [joinO]
    rw [rep_on t hl big (t, big) rfl q _ FUEL q.toNat k 0 hk0 hk1 (by omega) (by omega) (by omega) (by omega) (by rw [fuel_eq]; omega)]
  have e2 : M_i_repeated_f48 k q (t, big) = some (again (fun k => wBack t big k.toNat) q.toNat k, t, big) := by
    unfold M_i_repeated_f48
    simp only [joinO]
    rw [rep_back t hl big (t, big) rfl q _ FUEL q.toNat k 0 hk0 hk1 (by omega) (by omega) (by omega) (by omega) (by rw [fuel_eq]; omega)]
  have e3 : M_i_repeated_f50 k q (t, big) = some (again (wEnd t big) q.toNat k, t, big) := by
    unfold M_i_repeated_f50
    simp only [joinO]
    rw [rep_end t hl big (t, big) rfl q _ FUEL q.toNat k 0 hk0 hk1 (by omega) (by omega) (by omega) (by omega) (by rw [fuel_eq]; omega)]
  simp only [e1, e2, e3]
  rw [W_eq (x := k - q) (by omega) (by omega), W_eq (x := k + q) (by omega) (by omega), W_eq (x := (t.length : Int) - 1) (by omega) (by omega), W_eq (x := q - 1) (by omega) (by omega),
    iBlank_loop t hl _ FUEL t.length 0 (by omega) (by omega) (by rw [fuel_eq]; omega)]
  by_cases c1 : r = 104
  · simp [c1]
  by_cases c2 : r = 108
  · simp [c2]
  by_cases c3 : r = 32
  · simp [c3]
  by_cases c4 : r = 119
  · simp [c4]
  by_cases c5 : r = 87
  · simp [c5]
  by_cases c6 : r = 98
  · simp [c6]
  by_cases c7 : r = 66
  · simp [c7]
  by_cases c8 : r = 101
  · simp [c8]
  by_cases c9 : r = 69
  · simp [c9]
  by_cases c10 : r = 48
  · simp [c10]
  by_cases c11 : r = 94
  · simp [c11]
  by_cases c12 : r = 36
  · simp [c12]
  by_cases c13 : r = 124
  · simp [c13]
  simp [c1, c2, c3, c4, c5, c6, c7, c8, c9, c10, c11, c12, c13]

/-! Draws -/
def CurOk (c : List UInt8 × Int × Int) : Prop := 0 ≤ c.2.1 ∧ c.2.1 ≤ (c.1.length : Int) ∧ (c.1.length : Int) ≤ 1048576

theorem and_bound (x : BitVec 64) (n : Nat) (hn : n < 2 ^ 64) : (x &&& BitVec.ofInt 64 (n : Int)).toNat ≤ n := by
  rw [BitVec.toNat_and]
  have : (BitVec.ofInt 64 (n : Int)).toNat = n := by
    rw [BitVec.toNat_ofInt]
    have h : ((n : Int) % ((2 ^ 64 : Nat) : Int)) = n := Int.emod_eq_of_lt (by omega) (by exact_mod_cast hn)
    rw [h]; rfl
  rw [this]
  exact Nat.and_le_right

theorem and255 (x : BitVec 64) : 0 ≤ W (((x &&& BitVec.ofInt 64 255).toNat : Nat) : Int) ∧ W (((x &&& BitVec.ofInt 64 255).toNat : Nat) : Int) ≤ 255 := by
  have h := and_bound x 255 (by decide)
  have h' : (x &&& BitVec.ofInt 64 255).toNat ≤ 255 := h
  rw [W_eq (by omega) (by omega)]
  omega

theorem byte_ok (c : List UInt8 × Int × Int) (hc : CurOk c) : ∃ y i h, M_s_l01Byte c = some (y, (c.1, i, h)) ∧ CurOk (c.1, i, h) ∧ 0 ≤ y ∧ y ≤ 255 := by
  obtain ⟨h1, h2, h3⟩ := hc
  unfold M_s_l01Byte
  simp only [joinO, Bool.cond_decide, guardO]
  split
  · rw [if_pos ⟨h1, by assumption⟩]
    exact ⟨_, _, _, rfl, ⟨by simp only; rw [W_eq (by omega) (by omega)]; omega, by simp only; rw [W_eq (by omega) (by omega)]; omega, h3⟩, and255 _⟩
  · exact ⟨_, _, _, rfl, ⟨h1, h2, h3⟩, and255 _⟩

theorem below_ok (c : List UInt8 × Int × Int) (hc : CurOk c) (n : Int) : ∃ y i h, M_s_l01Below c n = some (y, (c.1, i, h)) ∧ CurOk (c.1, i, h) ∧ 0 ≤ y ∧ (0 < n → y < n) ∧ (n ≤ 0 → y = 0) := by
  unfold M_s_l01Below
  simp only [Bool.cond_decide]
  split
  · exact ⟨0, c.2.1, c.2.2, rfl, hc, by omega, by omega, by omega⟩
  · split
    · obtain ⟨y, i, h, e, ho, y0, y1⟩ := byte_ok _ hc
      have e' : M_s_l01Byte (c.1, c.2.1, c.2.2) = _ := e
      rw [bindO_of e']
      simp only [guardO]
      rw [if_pos (by omega)]
      exact ⟨_, i, h, rfl, ho, Int.tmod_nonneg _ y0, fun hn => Int.tmod_lt_of_pos _ hn, by omega⟩
    · obtain ⟨ya, ia, ha, e1, o1, a0, a1⟩ := byte_ok _ hc
      obtain ⟨yb, ib, hb, e2, o2, b0, b1⟩ := byte_ok _ o1
      obtain ⟨yc, ic, hcc, e3, o3, c0, c1⟩ := byte_ok _ o2
      obtain ⟨yd, id, hd, e4, o4, d0, d1⟩ := byte_ok _ o3
      have e1' : M_s_l01Byte (c.1, c.2.1, c.2.2) = _ := e1
      rw [bindO_of e1', bindO_of e2, bindO_of e3, bindO_of e4]
      simp only [guardO]
      rw [if_pos (by omega)]
      rw [W_eq (x := ya * 16777216) (by omega) (by omega), W_eq (x := yb * 65536) (by omega) (by omega), W_eq (x := yc * 256) (by omega) (by omega), W_eq (x := ya * 16777216 + yb * 65536) (by omega) (by omega),
        W_eq (x := ya * 16777216 + yb * 65536 + yc * 256) (by omega) (by omega), W_eq (x := ya * 16777216 + yb * 65536 + yc * 256 + yd) (by omega) (by omega)]
      exact ⟨_, id, hd, rfl, o4, Int.tmod_nonneg _ (by omega), fun hn => Int.tmod_lt_of_pos _ hn, by omega⟩

theorem new_loop (l : List UInt8) (hl : (l.length : Int) ≤ 1048576) : ∀ (m : Nat) (h k : Int), 0 ≤ k → k ≤ 4000 → 4000 - k < m → ∃ v, fixF (M_s_l01New_L1 l fun x15 => some (l, 0, x15)) m (h, k) = some (l, 0, v) := by
  intro m
  induction m with
  | zero => intro h k _ _ h'; omega
  | succ m ih =>
    intro h k hk hk' hm
    simp only [fixF, M_s_l01New_L1, guardO, Bool.cond_decide]
    by_cases h1 : k < (l.length : Int)
    · by_cases h2 : k < 4000
      · simp only [h1, h2, hk, if_true, and_self, decide_true]
        rw [W_eq (x := k + 1) (by omega) (by omega)]
        exact ih _ _ (by omega) (by omega) (by omega)
      · simp only [h1, h2, if_true, decide_false, Bool.false_eq_true, if_false]
        exact ⟨h, rfl⟩
    · simp only [h1, if_false, cond_false]
      exact ⟨h, rfl⟩

theorem new_ok (l : List UInt8) (hl : (l.length : Int) ≤ 1048576) : ∃ h, M_s_l01New l = some (l, 0, h) ∧ CurOk (l, 0, h) := by
  unfold M_s_l01New
  simp only [joinO]
  obtain ⟨v, hv⟩ := new_loop l hl FUEL (W (600128 + (l.length : Int))) 0 (by omega) (by omega) (by rw [fuel_eq]; omega)
  exact ⟨v, hv, ⟨by simp, by simp, hl⟩⟩

theorem drop_at {α : Type} [Inhabited α] {l : List α} {k : Int} (h0 : 0 ≤ k) (h : k < (l.length : Int)) : l.drop k.toNat = at' l k :: l.drop (k + 1).toNat := by
  have hlt : k.toNat < l.length := by omega
  rw [List.drop_eq_getElem_cons hlt]
  have : (k + 1).toNat = k.toNat + 1 := by omega
  rw [this]
  congr 1
  simp [at', List.getD_eq_getElem?_getD, hlt]

theorem sub_all {α : Type} {l : List α} {k : Int} (h0 : 0 ≤ k) : sub' l k (l.length : Int) = l.drop k.toNat := by
  unfold sub'
  rw [List.take_of_length_le]
  simp

theorem byte_eq {b : UInt8} {n : Nat} (hn : n < 256) : ((b.toNat : Int) = n) ↔ b = UInt8.ofNat n := by
  constructor
  · intro h; apply UInt8.toNat_inj.1; simp; omega
  · intro h; rw [h]; simp; omega


/-- The runes that are drawn. -/
def Drawn (r : Int) : Prop := r ∈ ([97, 98, 99, 120, 49, 50, 32, 32, 46, 45, 95, 233, 4352, 20013, 128512, 47] : List Int) ∨ (33 ≤ r ∧ r ≤ 126) ∨ (160 ≤ r ∧ r ≤ 459) ∨ (19968 ≤ r ∧ r ≤ 21967)

theorem rune_ok (c : List UInt8 × Int × Int) (hc : CurOk c) : ∃ y i h, M_s_l02Rune c = some (y, (c.1, i, h)) ∧ CurOk (c.1, i, h) ∧ Drawn y := by
  unfold M_s_l02Rune
  obtain ⟨y, i, h, e, ho, y0, y1, _⟩ := below_ok _ hc 12
  have e' : M_s_l01Below (c.1, c.2.1, c.2.2) 12 = _ := e
  rw [bindO_of e']
  simp only [Bool.cond_decide]
  have two : ∀ n, 0 < n → ∃ y2 i2 h2, M_s_l01Below (c.1, i, h) n = some (y2, (c.1, i2, h2)) ∧ CurOk (c.1, i2, h2) ∧ 0 ≤ y2 ∧ y2 < n := by
    intro n hn
    obtain ⟨y2, i2, h2, e2, o2, p0, p1, _⟩ := below_ok _ ho n
    exact ⟨y2, i2, h2, e2, o2, p0, p1 hn⟩
  split
  · obtain ⟨y2, i2, h2, e2, o2, p0, p1⟩ := two 16 (by omega)
    rw [bindO_of e2]
    simp only [guardO]
    rw [if_pos ⟨p0, p1⟩]
    exact ⟨_, i2, h2, rfl, o2, .inl (List.mem_of_getElem? (at_some ⟨p0, p1⟩))⟩
  · split
    · obtain ⟨y2, i2, h2, e2, o2, p0, p1⟩ := two 94 (by omega)
      rw [bindO_of e2]
      simp only
      rw [W_eq (by omega) (by omega)]
      exact ⟨_, i2, h2, rfl, o2, .inr (.inl ⟨by omega, by omega⟩)⟩
    · split
      · obtain ⟨y2, i2, h2, e2, o2, p0, p1⟩ := two 300 (by omega)
        rw [bindO_of e2]
        simp only
        rw [W_eq (by omega) (by omega)]
        exact ⟨_, i2, h2, rfl, o2, .inr (.inr (.inl ⟨by omega, by omega⟩))⟩
      · obtain ⟨y2, i2, h2, e2, o2, p0, p1⟩ := two 2000 (by omega)
        rw [bindO_of e2]
        simp only
        rw [W_eq (by omega) (by omega)]
        exact ⟨_, i2, h2, rfl, o2, .inr (.inr (.inr ⟨by omega, by omega⟩))⟩

theorem runes_loop (c : List UInt8 × Int × Int) : ∀ (m : Nat) (o : List Int) (n i h : Int), CurOk (c.1, i, h) → 0 ≤ n → n ≤ 100000 → (o.length : Int) + n ≤ 100000 → n < m → (∀ r ∈ o, Drawn r) →
    ∃ l i' h', fixF (M_s_l02Runes_L1 c fun (x33, x36, x37) => some (x33, (c.1, x36, x37))) m (o, n, i, h) = some (l, (c.1, i', h')) ∧ CurOk (c.1, i', h') ∧ (l.length : Int) = o.length + n ∧ ∀ r ∈ l, Drawn r := by
  intro m
  induction m with
  | zero => intro o n i h _ _ _ _ hm; omega
  | succ m ih =>
    intro o n i h hc hn hn' ho hm hd
    simp only [fixF, M_s_l02Runes_L1, Bool.cond_decide]
    by_cases h1 : 0 < n
    · rw [if_pos h1]
      obtain ⟨y, i2, h2, e, o2, dy⟩ := rune_ok _ hc
      have e' : M_s_l02Rune (c.1, i, h) = some (y, (c.1, i2, h2)) := e
      rw [bindO_of e']
      simp only [guardO]
      rw [if_pos (by simp; omega), W_eq (by omega) (by omega)]
      obtain ⟨l, i', h', r1, r2, r3, r4⟩ := ih (o ++ [y]) (n - 1) i2 h2 o2 (by omega) (by omega) (by simp; omega) (by omega) (by
        intro r hr
        rcases List.mem_append.1 hr with hr | hr
        · exact hd r hr
        · simp only [List.mem_singleton] at hr; subst hr; exact dy)
      exact ⟨l, i', h', r1, r2, by simp at r3; omega, r4⟩
    · rw [if_neg h1]
      exact ⟨o, i, h, rfl, hc, by omega, hd⟩

theorem runes_ok (c : List UInt8 × Int × Int) (hc : CurOk c) (most : Int) (hm : 0 ≤ most) (hm' : most ≤ 1000) : ∃ l i h, M_s_l02Runes c most = some (l, (c.1, i, h)) ∧ CurOk (c.1, i, h) ∧ (l.length : Int) ≤ most ∧ ∀ r ∈ l, Drawn r := by
  unfold M_s_l02Runes
  rw [W_eq (by omega) (by omega)]
  obtain ⟨y, i, h, e, ho, y0, y1, _⟩ := below_ok _ hc (most + 1)
  have e' : M_s_l01Below (c.1, c.2.1, c.2.2) (most + 1) = _ := e
  rw [bindO_of e']
  simp only [joinO]
  have := y1 (by omega)
  obtain ⟨l, i', h', r1, r2, r3, r4⟩ := runes_loop c FUEL [] y i h ho y0 (by omega) (by simp; omega) (by rw [fuel_eq]; omega) (by simp)
  exact ⟨l, i', h', r1, r2, by simp at r3; omega, r4⟩

/-- The runes of a line that is drawn. -/
def LineR (r : Int) : Prop := Drawn r ∨ r = 9 ∨ r = 10 ∨ (65 ≤ r ∧ r ≤ 90)

theorem set_all {p : Int → Prop} {l : List Int} {i : Nat} {v : Int} (h : ∀ r ∈ l, p r) (hv : p v) : ∀ r ∈ List.set l i v, p r := by
  intro r hr
  rcases List.mem_or_eq_of_mem_set hr with h' | h'
  · exact h r h'
  · subst h'; exact hv

theorem l13_loop (c : List UInt8 × Int × Int) (t : List Int) (ht : (t.length : Int) ≤ 1000) : ∀ (m : Nat) (u : List Int) (k i h : Int), CurOk (c.1, i, h) → 0 ≤ k → k ≤ (t.length : Int) → u.length = t.length → (t.length : Int) - k < m → 0 < m → (∀ r ∈ u, LineR r) →
    ∃ l i' h', fixF (M_s_l13Runes_L1 c t fun (x101, x104, x105) => some (x101, (c.1, x104, x105))) m (u, k, i, h) = some (l, (c.1, i', h')) ∧ CurOk (c.1, i', h') ∧ l.length = t.length ∧ ∀ r ∈ l, LineR r := by
  intro m
  induction m with
  | zero => intro u k i h _ _ _ _ _ hm; omega
  | succ m ih =>
    intro u k i h hc hk hk' hu hm _ hd
    simp only [fixF, M_s_l13Runes_L1, Bool.cond_decide, joinO]
    by_cases h1 : k < (t.length : Int)
    · rw [if_pos h1]
      obtain ⟨y, i2, h2, e, o2, y0, y1, _⟩ := below_ok _ hc 14
      have e' : M_s_l01Below (c.1, i, h) 14 = some (y, (c.1, i2, h2)) := e
      rw [bindO_of e']
      simp only [guardO]
      rw [W_eq (x := k + 1) (by omega) (by omega)]
      have step : ∀ u' i3 h3, CurOk (c.1, i3, h3) → u'.length = t.length → (∀ r ∈ u', LineR r) →
          ∃ l i' h', fixF (M_s_l13Runes_L1 c t fun (x101, x104, x105) => some (x101, (c.1, x104, x105))) m (u', k + 1, i3, h3) = some (l, (c.1, i', h')) ∧ CurOk (c.1, i', h') ∧ l.length = t.length ∧ ∀ r ∈ l, LineR r :=
        fun u' i3 h3 q1 q2 q3 => ih u' (k + 1) i3 h3 q1 (by omega) (by omega) q2 (by omega) (by omega) q3
      by_cases c0 : y = 0
      · subst c0
        simp only [if_true]
        rw [if_pos ⟨hk, by omega⟩]
        simp only [show ¬ ((0 : Int) = 1) by decide, show ¬ ((0 : Int) = 2) by decide, if_false]
        exact step _ _ _ o2 (by simpa using hu) (set_all hd (.inr (.inl rfl)))
      · simp only [c0, if_false]
        by_cases c1 : y = 1
        · subst c1
          simp only [if_true]
          rw [if_pos ⟨hk, by omega⟩]
          simp only [show ¬ ((1 : Int) = 2) by decide, if_false]
          exact step _ _ _ o2 (by simpa using hu) (set_all hd (.inr (.inr (.inl rfl))))
        · simp only [c1, if_false]
          by_cases c2 : y = 2
          · subst c2
            simp only [if_true]
            obtain ⟨y3, i3, h3, e3, o3, p0, p1, _⟩ := below_ok _ o2 26
            have e3' : M_s_l01Below (c.1, i2, h2) 26 = some (y3, (c.1, i3, h3)) := e3
            rw [bindO_of e3']
            simp only
            have := p1 (by omega)
            rw [if_pos ⟨hk, by omega⟩, W_eq (by omega) (by omega)]
            exact step _ _ _ o3 (by simpa using hu) (set_all hd (.inr (.inr (.inr ⟨by omega, by omega⟩))))
          · simp only [c2, if_false]
            exact step _ _ _ o2 hu hd
    · rw [if_neg h1]
      exact ⟨u, i, h, rfl, hc, hu, hd⟩

theorem l13_ok (c : List UInt8 × Int × Int) (hc : CurOk c) (most : Int) (hm : 0 ≤ most) (hm' : most ≤ 1000) : ∃ l i h, M_s_l13Runes c most = some (l, (c.1, i, h)) ∧ CurOk (c.1, i, h) ∧ (l.length : Int) ≤ most ∧ ∀ r ∈ l, LineR r := by
  unfold M_s_l13Runes
  obtain ⟨t, i, h, e, ho, t1, t2⟩ := runes_ok _ hc most hm hm'
  have e' : M_s_l02Runes (c.1, c.2.1, c.2.2) most = _ := e
  rw [bindO_of e']
  simp only [joinO]
  obtain ⟨l, i', h', r1, r2, r3, r4⟩ := l13_loop c t (by omega) FUEL t 0 i h ho (by omega) (by omega) rfl (by rw [fuel_eq]; omega) (by rw [fuel_eq]; omega) (fun r hr => .inl (t2 r hr))
  exact ⟨l, i', h', r1, r2, by omega, r4⟩

theorem l13Draw_ok (c : List UInt8 × Int × Int) (hc : CurOk c) : ∃ t a i h, M_s_l13Draw c = some ((t, a), (c.1, i, h)) ∧ CurOk (c.1, i, h) ∧ (t.length : Int) ≤ 16 ∧ (∀ r ∈ t, LineR r) ∧ 0 ≤ a ∧ a ≤ (t.length : Int) := by
  unfold M_s_l13Draw
  obtain ⟨t, i, h, e, ho, t1, t2⟩ := l13_ok _ hc 16 (by omega) (by omega)
  have e' : M_s_l13Runes (c.1, c.2.1, c.2.2) 16 = _ := e
  rw [bindO_of e']
  simp only
  rw [W_eq (by omega) (by omega)]
  obtain ⟨y, i2, h2, e2, o2, y0, y1, _⟩ := below_ok _ ho ((t.length : Int) + 1)
  have e2' : M_s_l01Below (c.1, i, h) ((t.length : Int) + 1) = _ := e2
  rw [bindO_of e2']
  have := y1 (by omega)
  exact ⟨t, y, i2, h2, rfl, o2, t1, t2, y0, by omega⟩

theorem makeLine_ok (l : List UInt8) (hl : (l.length : Int) ≤ 1048576) : ∃ t p u a b, M_s_MakeLine l = some ((t, p), u, a, b) ∧ (t.length : Int) ≤ 16 ∧ (∀ r ∈ t, LineR r) ∧ 0 ≤ p ∧ p ≤ (t.length : Int) ∧ (u.length : Int) ≤ 5 ∧ (∀ r ∈ u, LineR r) ∧ 0 ≤ a ∧ a ≤ b ∧ b ≤ (t.length : Int) := by
  unfold M_s_MakeLine
  obtain ⟨h, e, ho⟩ := new_ok l hl
  rw [bindO_of e]
  simp only
  obtain ⟨t, p, i1, h1, e1, o1, t1, t2, p0, p1⟩ := l13Draw_ok _ ho
  have e1' : M_s_l13Draw (l, 0, h) = some ((t, p), (l, i1, h1)) := e1
  rw [bindO_of e1']
  simp only
  rw [W_eq (x := (t.length : Int) + 1) (by omega) (by omega)]
  obtain ⟨a, i2, h2, e2, o2, a0, a1, _⟩ := below_ok _ o1 ((t.length : Int) + 1)
  have e2' : M_s_l01Below (l, i1, h1) ((t.length : Int) + 1) = some (a, (l, i2, h2)) := e2
  rw [bindO_of e2']
  simp only
  have ha := a1 (by omega)
  rw [W_eq (x := (t.length : Int) - a) (by omega) (by omega), W_eq (x := (t.length : Int) - a + 1) (by omega) (by omega)]
  obtain ⟨b, i3, h3, e3, o3, b0, b1, _⟩ := below_ok _ o2 ((t.length : Int) - a + 1)
  have e3' : M_s_l01Below (l, i2, h2) ((t.length : Int) - a + 1) = some (b, (l, i3, h3)) := e3
  rw [bindO_of e3']
  simp only
  have hb := b1 (by omega)
  obtain ⟨u, i4, h4, e4, o4, u1, u2⟩ := l13_ok _ o3 5 (by omega) (by omega)
  have e4' : M_s_l13Runes (l, i3, h3) 5 = some (u, (l, i4, h4)) := e4
  rw [bindO_of e4']
  simp only
  rw [W_eq (x := a + b) (by omega) (by omega)]
  exact ⟨t, p, u, a, a + b, rfl, t1, t2, p0, p1, u1, u2, a0, by omega, by omega⟩

theorem again_bound (g : Int → Int) (n : Int) (hg : ∀ k, 0 ≤ k → k ≤ n → 0 ≤ g k ∧ g k ≤ n) : ∀ (r : Nat) (k : Int), 0 ≤ k → k ≤ n → 0 ≤ again g r k ∧ again g r k ≤ n
  | 0, k, h0, h1 => ⟨h0, h1⟩
  | r + 1, k, h0, h1 => again_bound g n hg r (g k) (hg k h0 h1).1 (hg k h0 h1).2

theorem motion_bound (t : List Int) (hl : (t.length : Int) ≤ 1048576) (a r c : Int) : 0 ≤ (motion t a r c).1 ∧ (motion t a r c).1 ≤ (t.length : Int) ∧ ((motion t a r c).2.1 = true → 0 < (t.length : Int)) := by
  unfold motion
  simp only
  have hq0 : 1 ≤ max (1 : Int) (min c 999) := by omega
  have hk0 : 0 ≤ max (0 : Int) (min a (t.length : Int)) := by omega
  have hk1 : max (0 : Int) (min a (t.length : Int)) ≤ (t.length : Int) := by omega
  generalize max (1 : Int) (min c 999) = q at *
  generalize max (0 : Int) (min a (t.length : Int)) = k at *
  generalize decide (65 ≤ r ∧ r ≤ 90) = big
  have b1 := again_bound (wOn t big) (t.length : Int) (fun k h0 h1 => by have := wOn_bound t big k h0 h1; omega) q.toNat k hk0 hk1
  have b2 := again_bound (fun k => wBack t big k.toNat) (t.length : Int) (fun k h0 h1 => by have := wBack_bound t big k.toNat (by omega); omega) q.toNat k hk0 hk1
  have b3 := again_bound (wEnd t big) (t.length : Int) (fun k h0 h1 => wEnd_bound t hl big k h0 h1) q.toNat k hk0 hk1
  have b4 := fwd_bound (fun i => cls0 (at' t i) = 0) t.length 0
  repeat' split
  all_goals simp only [decide_eq_true_eq, Bool.false_eq_true, false_implies, and_true, imp_self]
  all_goals omega

theorem motion_ok (t : List Int) (a r c : Int) (hr : r ∈ ([104, 108, 119, 87, 98, 66, 101, 69, 48, 94, 36, 124] : List Int)) : (motion t a r c).2.2 = true := by
  simp only [List.mem_cons, List.not_mem_nil, or_false] at hr
  rcases hr with rfl | rfl | rfl | rfl | rfl | rfl | rfl | rfl | rfl | rfl | rfl | rfl <;> rfl

theorem span_eq (t : List Int) (hl : (t.length : Int) ≤ 1048576) (a to : Int) (w : Bool) (a0 : 0 ≤ a) (a1 : a ≤ (t.length : Int)) (b0 : 0 ≤ to) (b1 : to ≤ (t.length : Int)) :
    ∃ y, M_i_Span t a to w = some (min a to, y) ∧ a ≤ y ∧ to ≤ y ∧ y ≤ (t.length : Int) := by
  unfold M_i_Span M_i_within
  have e1 : max (0 : Int) (min a (t.length : Int)) = a := by omega
  have e2 : max (0 : Int) (min to (t.length : Int)) = to := by omega
  simp only [bindO, joinO, Bool.cond_decide, e1, e2]
  cases w with
  | false => exact ⟨_, rfl, by omega, by omega, by omega⟩
  | true =>
    simp only [cond_true, Bool.cond_decide]
    split
    · rw [W_eq (by omega) (by omega)]
      exact ⟨_, rfl, by omega, by omega, by omega⟩
    · exact ⟨_, rfl, by omega, by omega, by omega⟩

theorem mot_loop (t : List Int) (p : Int) (hl : (t.length : Int) ≤ 16) (a : Int) (a0 : 0 ≤ a) (a1 : a ≤ (t.length : Int)) (j : Int → Option Bool) : ∀ (m : Nat) (n k : Int), 0 ≤ k → k ≤ 12 → 0 ≤ n → n ≤ k * 100 → 12 - k < m → 0 < m →
    ∃ n', 0 ≤ n' ∧ fixF (M_l_FnMotion_L1 (t, p) a j) m (n, k) = j n' := by
  intro m
  induction m with
  | zero => intro n k _ _ _ _ _ h; omega
  | succ m ih =>
    intro n k hk hk' hn hn' hm _
    simp only [fixF, M_l_FnMotion_L1, guardO, Bool.cond_decide]
    have hlen : (([104, 108, 119, 87, 98, 66, 101, 69, 48, 94, 36, 124] : List Int).length : Int) = 12 := rfl
    rw [hlen]
    by_cases h1 : k < 12
    · rw [if_pos h1, if_pos ⟨hk, h1⟩]
      have hr : at' ([104, 108, 119, 87, 98, 66, 101, 69, 48, 94, 36, 124] : List Int) k ∈ ([104, 108, 119, 87, 98, 66, 101, 69, 48, 94, 36, 124] : List Int) := List.mem_of_getElem? (at_some ⟨hk, by rw [hlen]; exact h1⟩)
      generalize at' ([104, 108, 119, 87, 98, 66, 101, 69, 48, 94, 36, 124] : List Int) k = r at *
      have mb := motion_bound t (by omega) a r 2
      have mo := motion_ok t a r 2 hr
      rw [bindO_of (iMotion_eq t (by omega) a r 2)]
      generalize motion t a r 2 = mt at mb mo ⊢
      obtain ⟨to, w, ok⟩ := mt
      simp only at mb mo ⊢
      obtain ⟨y, e, y0, y1, y2⟩ := span_eq t (by omega) a to w a0 a1 mb.1 mb.2.1
      rw [bindO_of e]
      have q1 : 0 ≤ min a to := by omega
      have q2 : min a to ≤ a := by omega
      generalize min a to = mn at *
      subst mo
      have c1 : ¬ (to < 0) := by omega
      have c2 : ¬ ((t.length : Int) < to) := by omega
      have c3 : ¬ (y < mn) := by omega
      have c4 : ¬ (a < mn) := by omega
      have c5 : ¬ (y < a) := by omega
      have c6 : ¬ ((t.length : Int) < y) := by omega
      have c7 : (bif w then decide ((t.length : Int) = 0) else false) = false := by
        cases w with
        | false => rfl
        | true =>
          have := mb.2.2 rfl
          simp only [cond_true]
          exact decide_eq_false (by omega)
      simp only [c1, c2, c3, c4, c5, c6, c7, decide_false, Bool.not_true, cond_false, Bool.false_eq_true, if_false]
      rw [W_eq (x := n + y) (by omega) (by omega), W_eq (x := n + y - mn) (by omega) (by omega), W_eq (x := k + 1) (by omega) (by omega)]
      have z2 : n + y - mn ≤ (k + 1) * 100 := by omega
      exact ih (n + y - mn) (k + 1) (by omega) (by omega) (by omega) z2 (by omega) (by omega)
    · rw [if_neg h1]
      exact ⟨n, hn, rfl⟩

theorem law_FnMotion (l : List UInt8) : M_l_FnMotion l = some true := by
  simp only [M_l_FnMotion, Bool.cond_decide]
  split
  · rfl
  · rename_i h
    obtain ⟨t, p, u, a, b, e, t1, t2, p0, p1, u1, u2, a0, ab, b1⟩ := makeLine_ok l (by omega)
    rw [bindO_of e]
    simp only [joinO]
    obtain ⟨n, hn, e2⟩ := mot_loop t p t1 a a0 (by omega) (fun x43 => bindO (M_i_MotionTo t a 113 1) fun (y48, y49, y50) => bindO (M_i_MotionTo t a 119 1) fun (y52, y53, y54) => bindO (M_i_MotionTo t y52 119 1) fun (y56, y57, y58) => bindO (M_i_MotionTo t a 119 2) fun (y60, y61, y62) => some (bif (bif (!y50) then (decide (y56 = y60)) else false) then (decide (0 ≤ x43)) else false)) FUEL 0 0 (by omega) (by omega) (by omega) (by omega) (by rw [fuel_eq]; omega) (by rw [fuel_eq]; omega)
    refine Eq.trans e2 ?_
    have hl : (t.length : Int) ≤ 1048576 := by omega
    have ek : max (0 : Int) (min a (t.length : Int)) = a := by omega
    have m0 : (motion t a 113 1).2.2 = false := rfl
    have m1 : (motion t a 119 1).1 = wOn t false a := by
      show again (wOn t (decide ((65 : Int) ≤ 119 ∧ (119 : Int) ≤ 90))) 1 (max 0 (min a (t.length : Int))) = _
      rw [ek]; rfl
    have hb := wOn_bound t false a a0 (by omega)
    have ek2 : max (0 : Int) (min (wOn t false a) (t.length : Int)) = wOn t false a := by omega
    have m2 : (motion t (wOn t false a) 119 1).1 = wOn t false (wOn t false a) := by
      show again (wOn t (decide ((65 : Int) ≤ 119 ∧ (119 : Int) ≤ 90))) 1 (max 0 (min (wOn t false a) (t.length : Int))) = _
      rw [ek2]; rfl
    have m3 : (motion t a 119 2).1 = wOn t false (wOn t false a) := by
      show again (wOn t (decide ((65 : Int) ≤ 119 ∧ (119 : Int) ≤ 90))) 2 (max 0 (min a (t.length : Int))) = _
      rw [ek]; rfl
    have i1 := iMotion_eq t hl a 113 1
    have i2 := iMotion_eq t hl a 119 1
    have i3 := iMotion_eq t hl (wOn t false a) 119 1
    have i4 := iMotion_eq t hl a 119 2
    generalize motion t a 113 1 = z1 at *
    generalize motion t a 119 1 = z2 at *
    generalize motion t (wOn t false a) 119 1 = z3 at *
    generalize motion t a 119 2 = z4 at *
    obtain ⟨x1, x2, x3⟩ := z1
    obtain ⟨y1, y2, y3⟩ := z2
    obtain ⟨v1, v2, v3⟩ := z3
    obtain ⟨s1, s2, s3⟩ := z4
    simp only at m0 m1 m2 m3
    subst m0 m1 m2 m3
    rw [bindO_of i1]
    simp only
    rw [bindO_of i2]
    simp only
    rw [bindO_of i3]
    simp only
    rw [bindO_of i4]
    simp only [Bool.not_false, cond_true, decide_true, hn]

end Go.Eng

namespace Go.Proofs.Ytamjkgjmefknkaa.fnMotion
open Go.ChangeShapes Go.WideShapes Go.ChangeAt Go.RowKit Go.Eng
open Go.ChangeMaps (open_string shut_string)

theorem own : ownKnob Try.prog.godebug = none := by kernel_rfl
theorem laidOut : laidOutB Try.prog = true := by kernel_rfl

theorem walk (a0 : Option Addr) (len0 cap0 : Nat) (z0 : List Int) (w : World) (w0 : IsRow .u8 w a0 len0 cap0 z0) :
    Calls Try.prog 4 #[.slice a0 len0 cap0] w fun e w' => e = .returned (.bool true) ∧ Below w.heap.size w w' := by
  obtain ⟨l0, f0⟩ := w0.byteFact
  have h := ok_l_FnMotion (bytesOf (z0.take len0)) a0 cap0 len0 l0 true (law_FnMotion (bytesOf (z0.take len0)) )
  refine Calls.mono (h.calls w ?_) ?_
  · intro x hx
    rcases List.mem_cons.1 hx with rfl | hx
    · exact ⟨_, f0.choose_spec⟩
    cases hx
  · rintro e w' ⟨r, -, he, hk, -⟩
    exact ⟨he, hk.below⟩

set_option maxRecDepth 100000 in
theorem lifted (os : Os) (started : os.Started) (H : Type) (enc : TypeId × Value → H) :
    ReturnsInHanded {} Try.checked os 4 .any (Rows.fnMotionSpec.pre6 enc Try.prog Try.f4 Rows.fnMotionRow.domain false) (Rows.fnMotionSpec.post enc Try.prog Try.f4 false true false false) := by
  refine returnsInHanded_of_change (C := Try.checked) own started (by kernel_rfl) Try.func4
    (ChangeSpec.witness6 (enc := enc) (C := Try.checked) false ⟨#[], #[.slice none 0 0], []⟩ 8 (by kernel_rfl) (by kernel_rfl) (by kernel_rfl) (by kernel_rfl)) ?_
  intro W base args ds gs before hval0 hW hcnd _
  have hval : ∀ (j : Nat) t v, Try.f4.params[j]? = some t → args[j]? = some v → Value.okWide Try.prog W .any base t v := hval0
  have hW' := hW
  obtain ⟨p, q, hA0, hV, rfl, hfz, hnd⟩ := hW
  have hA : DataW.TrodAll enc Try.prog W 0 (fun _ => true) true Try.f4.params.toList args.toList ds p := hA0
  rw [Try.params4] at hA hval
  obtain ⟨v0, vs0, d0, ds0, p0, q0, hargs, rfl, rfl, h0, r0⟩ := trodAll_cons hA
  obtain ⟨rfl, rfl, rfl⟩ := trodAll_nil r0
  obtain rfl : args = #[v0] := by cases args; simp_all
  obtain ⟨rfl, rfl⟩ := trodVars_none hV
  obtain ⟨a0, len0, cap0, rfl⟩ := okWide_slice Try.underlying22 (hval 0 22 v0 rfl rfl)
  have k0 := h0
  have lt0 : ∀ x ∈ p0, x.block < W.heap.size := by obtain ⟨m, hm⟩ := k0; exact DataW.trod_lt m _ _ _ hm
  obtain ⟨z0, w0⟩ : ∃ zs, IsRow .u8 W a0 len0 cap0 zs := by
    obtain ⟨fuel, hf⟩ := h0
    rcases open_ints Try.underlying22 Try.underlying5 (by kernel_rfl) hf with ⟨hcs, _⟩ | ⟨x, l, c, zs, hcs, _, hl, hm, hz, _, hcell, hwz⟩
    · simp [Value.cells] at hcs
      obtain ⟨rfl, rfl, rfl⟩ := hcs
      exact ⟨[], .inl ⟨rfl, rfl, rfl, rfl⟩⟩
    · simp [Value.cells] at hcs
      obtain ⟨rfl, rfl, rfl⟩ := hcs
      exact ⟨zs, .inr ⟨_, rfl, hl, hm, by simpa using hz, hcell, hwz⟩⟩
  clear hA0 hval0
  simp only [List.append_nil] at hW'
  refine (walk a0 len0 cap0 z0 W w0).mono fun e W' ⟨he, bel⟩ => ?_
  subst he
  exact ⟨_, rfl, _, _, _, [], _, [], hW', trodAll_mk1 (shut_bool Try.underlying4 _), (trodAll_cons_mk (Below.trod laidOut (by kernel_rfl) (of_decide_eq_true (by kernel_rfl)) k0 bel lt0) trodAll_mk0), rfl, bel.frame _, fun h => by cases h⟩

theorem over : Rows.fnMotionRow.holds Try.pinned (OpenSpec.ofChange Rows.fnMotionSpec) :=
  OpenClaim.holds_of_wide 4 Try.f4 rfl rfl rfl rfl rfl rfl rfl ⟨rfl, rfl, rfl, rfl, rfl⟩ rfl rfl rfl rfl rfl (by kernel_rfl) Try.func4 (by kernel_rfl)
    (of_decide_eq_true (by kernel_rfl)) (by unfold Func.isWrapper; first | (rw [if_pos (by decide +kernel)]; kernel_rfl) | (rw [if_neg (by decide +kernel)]; exact ⟨rfl, rfl⟩))
    (fun os started H enc _ => lifted os started H enc)

theorem proved : Rows.FnMotionSaid := over
#print axioms proved
end Go.Proofs.Ytamjkgjmefknkaa.fnMotion
