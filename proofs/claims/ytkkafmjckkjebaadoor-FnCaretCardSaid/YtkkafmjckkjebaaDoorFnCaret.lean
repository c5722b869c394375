/- FnCaret: for every input the given law returns true and leaves its arguments as they were. No condition. -/
import Derived.Test.YtkkafmjckkjebaaDoorFnCaretWalkA
import Derived.Test.YtkkafmjckkjebaaDoorRows
import Derived.WalkKit
import Derived.ProofKit
import Derived.OpenShut
import Derived.ShutString
import Derived.Test.YtkkafmjckkjebaaDoorTie
import Derived.Test.YtkkafmjckkjebaaDoorCards
import Derived.Handy
import Derived.Lay
import Derived.SevenTiedAt
set_option linter.unusedVariables false
set_option linter.unusedSimpArgs false
namespace Go.Eng
open Go Go.Proofs

theorem bindO_of {α β : Type} {m : Option α} {k : α → Option β} {y : α} (h : m = some y) : bindO m k = k y := by rw [h]; rfl

theorem drop_at {α : Type} [Inhabited α] {l : List α} {k : Int} (h0 : 0 ≤ k) (h : k < (l.length : Int)) : l.drop k.toNat = at' l k :: l.drop (k + 1).toNat := by
  have hlt : k.toNat < l.length := by omega
  rw [List.drop_eq_getElem_cons hlt]
  have : (k + 1).toNat = k.toNat + 1 := by omega
  rw [this]
  congr 1
  simp [at', List.getD_eq_getElem?_getD, hlt]

theorem sub_all {α : Type} {l : List α} {k : Int} (h0 : 0 ≤ k) : sub' l k (l.length : Int) = l.drop k.toNat := by
  unfold sub'
  rw [List.take_of_length_le]
  simp

/-- A history that is valid. -/
def hOk (h : Int × List (List UInt8)) : Bool := decide (1 ≤ h.1 ∧ h.1 ≤ 1000000000 ∧ (h.2.length : Int) ≤ 60) && h.2.all fun s => decide (1 ≤ (s.length : Int) ∧ (s.length : Int) ≤ 1000)

theorem sHistOk_loop (h : Int × List (List UInt8)) (hl : (h.2.length : Int) ≤ 1048576) (b : Bool) : ∀ (m : Nat) (k : Int), 0 ≤ k → k ≤ (h.2.length : Int) → (h.2.length : Int) - k < m → 0 < m →
    fixF (M_s_HistOk_L1 h fun _ => some b) m k = some (b && (h.2.drop k.toNat).all fun s => decide (1 ≤ (s.length : Int) ∧ (s.length : Int) ≤ 1000)) := by
  intro m
  induction m with
  | zero => intro k _ _ _ h'; omega
  | succ m ih =>
    intro k hk hk' hm _
    simp only [fixF, M_s_HistOk_L1, guardO, Bool.cond_decide]
    by_cases h1 : k < (h.2.length : Int)
    · rw [if_pos h1, if_pos ⟨hk, h1⟩, W_eq (by omega) (by omega), drop_at hk h1, ih _ (by omega) (by omega) (by omega) (by omega), List.all_cons]
      by_cases c1 : ((at' h.2 k).length : Int) < 1
      · have : ¬ (1 ≤ ((at' h.2 k).length : Int) ∧ ((at' h.2 k).length : Int) ≤ 1000) := by omega
        rw [decide_eq_false this]
        simp [c1]
      · by_cases c2 : 1000 < ((at' h.2 k).length : Int)
        · have : ¬ (1 ≤ ((at' h.2 k).length : Int) ∧ ((at' h.2 k).length : Int) ≤ 1000) := by omega
          rw [decide_eq_false this]
          simp [c1, c2]
        · have : (1 ≤ ((at' h.2 k).length : Int) ∧ ((at' h.2 k).length : Int) ≤ 1000) := by omega
          rw [decide_eq_true this]
          simp [c1, c2]
    · rw [if_neg h1, List.drop_eq_nil_of_le (by omega)]
      simp

theorem sHistOk_eq (h : Int × List (List UInt8)) (hl : (h.2.length : Int) ≤ 1048576) : M_s_HistOk h = some (hOk h) := by
  unfold M_s_HistOk
  simp only [joinO]
  rw [sHistOk_loop h hl _ FUEL 0 (by omega) (by omega) (by rw [fuel_eq]; omega) (by rw [fuel_eq]; omega)]
  unfold hOk
  simp only [Int.toNat_zero, List.drop_zero]
  congr 2
  by_cases c1 : 1 ≤ h.1 <;> by_cases c2 : h.1 ≤ 1000000000 <;> by_cases c3 : (h.2.length : Int) ≤ 60 <;> simp [c1, c2, c3]

theorem iHistOk_loop (h : Int × List (List UInt8)) (hl : (h.2.length : Int) ≤ 1048576) : ∀ (m : Nat) (k : Int), 0 ≤ k → k ≤ (h.2.length : Int) → (h.2.length : Int) - k < m → 0 < m →
    fixF (M_i_HistOk_L1 h fun _ => some true) m k = some ((h.2.drop k.toNat).all fun s => decide (1 ≤ (s.length : Int) ∧ (s.length : Int) ≤ 1000)) := by
  intro m
  induction m with
  | zero => intro k _ _ _ h'; omega
  | succ m ih =>
    intro k hk hk' hm _
    simp only [fixF, M_i_HistOk_L1, guardO, Bool.cond_decide, M_i_in, bindO]
    by_cases h1 : k < (h.2.length : Int)
    · rw [if_pos h1, if_pos ⟨hk, h1⟩, W_eq (by omega) (by omega), drop_at hk h1, ih _ (by omega) (by omega) (by omega) (by omega), List.all_cons]
      by_cases c1 : 1 ≤ ((at' h.2 k).length : Int) <;> by_cases c2 : ((at' h.2 k).length : Int) ≤ 1000 <;> simp only [c1, c2, and_self, and_true, and_false, false_and, true_and, decide_true, decide_false, if_true, if_false, Bool.not_true, Bool.not_false, cond_true, cond_false, Bool.true_and, Bool.false_and]
    · rw [if_neg h1, List.drop_eq_nil_of_le (by omega)]
      simp

theorem iHistOk_eq (h : Int × List (List UInt8)) (hl : (h.2.length : Int) ≤ 1048576) : M_i_HistOk h = some (hOk h) := by
  unfold M_i_HistOk M_i_in
  simp only [joinO, bindO, Bool.cond_decide]
  rw [iHistOk_loop h hl FUEL 0 (by omega) (by omega) (by rw [fuel_eq]; omega) (by rw [fuel_eq]; omega)]
  unfold hOk
  simp only [Int.toNat_zero, List.drop_zero]
  by_cases c1 : 1 ≤ h.1 <;> by_cases c2 : h.1 ≤ 1000000000 <;> by_cases c3 : (h.2.length : Int) ≤ 60
  all_goals first
    | (have c4 : ¬ (60 < (h.2.length : Int)) := by omega); simp [c1, c2, c3, c4]
    | (have c4 : 60 < (h.2.length : Int) := by omega); simp [c1, c2, c3, c4]

theorem hOk_spec {h : Int × List (List UInt8)} (hh : hOk h = true) : 1 ≤ h.1 ∧ h.1 ≤ 1000000000 ∧ (h.2.length : Int) ≤ 60 ∧ ∀ s ∈ h.2, 1 ≤ (s.length : Int) ∧ (s.length : Int) ≤ 1000 := by
  unfold hOk at hh
  simp only [Bool.and_eq_true, decide_eq_true_eq, List.all_eq_true] at hh
  exact ⟨hh.1.1, hh.1.2.1, hh.1.2.2, hh.2⟩

/-- The number of the last line. -/
def hLast (h : Int × List (List UInt8)) : Int := if hOk h = true ∧ 0 < h.2.length then h.1 + h.2.length - 1 else 0

def hGet (h : Int × List (List UInt8)) (n : Int) : List UInt8 × Bool := if hOk h = true ∧ h.1 ≤ n ∧ n < h.1 + h.2.length then (at' h.2 (n - h.1), true) else ([], false)

theorem histLast_i (h : Int × List (List UInt8)) (hl : (h.2.length : Int) ≤ 1048576) : M_i_HistLast h = some (hLast h) := by
  unfold M_i_HistLast
  rw [bindO_of (iHistOk_eq h hl)]
  unfold hLast
  cases hh : hOk h with
  | false => simp
  | true =>
    obtain ⟨h1, h2, h3, _⟩ := hOk_spec hh
    simp only [Bool.cond_decide, Bool.not_true, cond_false]
    rw [W_eq (x := h.1 + (h.2.length : Int)) (by omega) (by omega), W_eq (by omega) (by omega)]
    by_cases h0 : (h.2.length : Int) = 0
    · have : ¬ (0 < h.2.length) := by omega
      simp [h0, this]
    · have : 0 < h.2.length := by omega
      simp only [h0, this, if_false, and_self, if_true]

theorem histGet_i (h : Int × List (List UInt8)) (hl : (h.2.length : Int) ≤ 1048576) (n : Int) (hn : -9223372036854775808 ≤ n ∧ n ≤ 9223372036854775807) : M_i_HistGet h n = some (hGet h n) := by
  unfold M_i_HistGet
  rw [bindO_of (iHistOk_eq h hl)]
  unfold hGet
  cases hh : hOk h with
  | false => simp [callO, bindO]
  | true =>
    obtain ⟨h1, h2, h3, _⟩ := hOk_spec hh
    simp only [Bool.cond_decide, Bool.not_true, cond_false, callO, if_true, M_i_in, bindO, guardO, true_and]
    rw [W_eq (x := h.1 + (h.2.length : Int)) (by omega) (by omega), W_eq (x := h.1 + (h.2.length : Int) - 1) (by omega) (by omega)]
    by_cases c1 : h.1 ≤ n
    · rw [W_eq (x := n - h.1) (by omega) (by omega)]
      by_cases c2 : n < h.1 + h.2.length
      · have d3 : n ≤ h.1 + (h.2.length : Int) - 1 := by omega
        have d4 : 0 ≤ n - h.1 ∧ n - h.1 < (h.2.length : Int) := by omega
        simp [c1, c2, d3, d4]
      · have d3 : ¬ (n ≤ h.1 + (h.2.length : Int) - 1) := by omega
        simp [c1, c2, d3]
    · simp [c1]

def upto (t : List UInt8) : List UInt8 := t.takeWhile fun b => !decide (b = 94)

theorem upto_cons (b : UInt8) (t : List UInt8) : upto (b :: t) = if b = 94 then [] else b :: upto t := by
  unfold upto
  rw [List.takeWhile_cons]
  by_cases h : b = 94 <;> simp [h]
theorem upto_le : ∀ t : List UInt8, (upto t).length ≤ t.length
  | [] => Nat.le_refl _
  | b :: t => by
    have := upto_le t
    rw [upto_cons]
    split <;> simp only [List.length_cons, List.length_nil] <;> omega

theorem idx94 (t : List UInt8) : Lib.index t [94] = Lib.indexByte t 94 := index1 t 94

theorem upto_idx : ∀ t : List UInt8, (Lib.index t [94] = -1 ∧ upto t = t) ∨ (∃ i : Nat, Lib.index t [94] = i ∧ i < t.length ∧ upto t = t.take i)
  | [] => .inl ⟨rfl, rfl⟩
  | b :: t => by
    rw [idx94]
    unfold Lib.indexByte
    rw [upto_cons]
    by_cases h : b = 94
    · subst h
      exact .inr ⟨0, by simp, by simp, by simp⟩
    · have hb : (b == 94) = false := by simpa using h
      rw [hb, if_neg (by simp), if_neg h]
      have ih := upto_idx t
      rw [idx94] at ih
      rcases ih with ⟨h1, h2⟩ | ⟨i, h1, h2, h3⟩
      · exact .inl ⟨by rw [h1]; rfl, by rw [h2]⟩
      · refine .inr ⟨i + 1, ?_, by simp; omega, by rw [h3]; simp⟩
        rw [h1, if_neg (by simp)]
        rfl

/-- The parts at the first k carets. -/
def splitL : Nat → List UInt8 → List (List UInt8)
  | 0, s => [s]
  | k + 1, s => if Lib.index s [94] < 0 then [s] else s.take (Lib.index s [94]).toNat :: splitL k (s.drop ((Lib.index s [94]).toNat + 1))

theorem splitL_fuel : ∀ (k k' : Nat) (s : List UInt8), s.length ≤ k → s.length ≤ k' → splitL k s = splitL k' s
  | 0, 0, _, _, _ => rfl
  | 0, k' + 1, s, h, _ => by
    have hs : s = [] := List.length_eq_zero_iff.1 (by omega)
    subst hs
    simp only [splitL]
    rw [if_pos (by decide)]
  | k + 1, 0, s, _, h => by
    have hs : s = [] := List.length_eq_zero_iff.1 (by omega)
    subst hs
    simp only [splitL]
    rw [if_pos (by decide)]
  | k + 1, k' + 1, s, h, h' => by
    simp only [splitL]
    by_cases c : Lib.index s [94] < 0
    · rw [if_pos c, if_pos c]
    · rw [if_neg c, if_neg c]
      rcases upto_idx s with ⟨h1, _⟩ | ⟨i, h1, h2, _⟩
      · omega
      · rw [splitL_fuel k k' _ (by rw [List.length_drop]; omega) (by rw [List.length_drop]; omega)]

theorem idx_call (s p : List UInt8) (h : (s.length : Int) ≤ 1048576) : M_strings_Index s p = some (Lib.index s p) := by
  unfold M_strings_Index guardO
  exact if_pos (by omega)

theorem set_take {α : Type} (l : List α) (i : Nat) (x : α) (h : i < l.length) : (l.set i x).take (i + 1) = l.take i ++ [x] := by
  apply List.ext_getElem?
  intro j
  by_cases hj : j < i
  · rw [List.getElem?_take_of_lt (by omega), List.getElem?_set_ne (by omega), List.getElem?_append_left (by rw [List.length_take]; omega), List.getElem?_take_of_lt hj]
  · by_cases hj' : j = i
    · subst hj'
      rw [List.getElem?_take_of_lt (by omega), List.getElem?_set_self h, List.getElem?_append_right (by rw [List.length_take]; omega), List.length_take]
      have : j - min j l.length = 0 := by omega
      rw [this]; rfl
    · rw [List.getElem?_eq_none (by rw [List.length_take]; omega), List.getElem?_eq_none (by rw [List.length_append, List.length_take]; simp; omega)]

theorem genLoop (x0 : List UInt8) (hx : (x0.length : Int) ≤ 1048576) (N : Nat) (hN : (N : Int) = min 4 ((x0.length : Int) + 1)) (j : List UInt8 × List (List UInt8) × Int → Option (List (List UInt8)))
    (hj : ∀ (r : List UInt8) (l : List (List UInt8)) (i : Nat), l.length = N → i < N → j (r, l, (i : Int)) = some (l.take i ++ [r])) :
    ∀ (m k i : Nat) (r : List UInt8) (l : List (List UInt8)), l.length = N → i + k + 1 = N → k < m → r.length ≤ x0.length →
    fixF (M_strings_genSplit_L1 x0 [94] 0 4 j) m (r, l, (i : Int)) = some (l.take i ++ splitL k r) := by
  intro m
  induction m with
  | zero => intro k i r l _ _ h _; omega
  | succ m ih =>
    intro k i r l hl hk hm hr
    simp only [fixF, M_strings_genSplit_L1, guardO, Bool.cond_decide]
    rw [W_eq (x := (x0.length : Int) + 1) (by omega) (by omega), ← hN, W_eq (x := (N : Int) - 1) (by omega) (by omega)]
    cases k with
    | zero =>
      rw [if_neg (by omega), hj r l i hl (by omega)]
      rfl
    | succ k =>
      rw [if_pos (by omega), bindO_of (idx_call r [94] (by omega))]
      simp only [splitL]
      rcases upto_idx r with ⟨h1, _⟩ | ⟨q, h1, h2, _⟩
      · rw [h1, if_pos (by omega), hj r l i hl (by omega), if_pos (by omega)]
      · have hq : ¬ ((q : Int) < 0) := by omega
        simp only [h1, hq, if_false]
        have e1 : ([94] : List UInt8).length = 1 := rfl
        rw [W_eq (x := (q : Int) + 0) (by omega) (by omega), e1, W_eq (x := (q : Int) + ((1 : Nat) : Int)) (by omega) (by omega), W_eq (x := (i : Int) + 1) (by omega) (by omega)]
        rw [if_pos (by omega), if_pos (by omega), if_pos (by omega)]
        have s1 : sub' r ((q : Int) + ((1 : Nat) : Int)) (r.length : Int) = r.drop (q + 1) := by
          unfold sub'
          have a1 : ((q : Int) + ((1 : Nat) : Int)).toNat = q + 1 := by omega
          have a2 : ((r.length : Int)).toNat = r.length := by omega
          rw [a1, a2, List.take_of_length_le (by rw [List.length_drop]; omega)]
        have s2 : sub' r 0 ((q : Int) + 0) = r.take q := by
          unfold sub'
          have a1 : ((q : Int) + 0).toNat = q := by omega
          rw [a1]; simp
        have ei : ((i : Int)).toNat = i := by omega
        have ei1 : (i : Int) + 1 = ((i + 1 : Nat) : Int) := by omega
        rw [s1, s2, ei, ei1, ih k (i + 1) (r.drop (q + 1)) (l.set i (r.take q)) (by simp [hl]) (by omega) (by omega) (by rw [List.length_drop]; omega), set_take l i _ (by omega)]
        have eq : ((q : Int)).toNat = q := by omega
        rw [eq, List.append_assoc]
        rfl

theorem split_eq (s : List UInt8) (hs : (s.length : Int) ≤ 1048576) : M_strings_SplitN s [94] 4 = some (splitL 3 s) := by
  unfold M_strings_SplitN M_strings_genSplit
  have a1 : decide ((4 : Int) = 0) = false := by decide
  have a2 : decide (([94] : List UInt8) = []) = false := by decide
  have a3 : decide ((4 : Int) < 0) = false := by decide
  simp only [a1, a2, a3, cond_false, joinO, guardO]
  rw [W_eq (x := (s.length : Int) + 1) (by omega) (by omega), if_pos (by omega)]
  obtain ⟨N, hN⟩ : ∃ N : Nat, (N : Int) = min 4 ((s.length : Int) + 1) := ⟨(min 4 ((s.length : Int) + 1)).toNat, by omega⟩
  have eN : (min 4 ((s.length : Int) + 1)).toNat = N := by omega
  rw [eN]
  have hg := genLoop s hs N hN (fun (x35, x36, x39) => if 0 ≤ x39 ∧ x39 < (x36.length : Int) then (if 0 ≤ (0 : Int) ∧ (0 : Int) ≤ (W (x39 + 1)) ∧ (W (x39 + 1)) ≤ ((List.set x36 (Int.toNat x39) x35).length : Int) then some (sub' (List.set x36 (Int.toNat x39) x35) 0 (W (x39 + 1))) else none) else none)
    (by
      intro r l i hl hi
      simp only
      rw [W_eq (x := (i : Int) + 1) (by omega) (by omega), if_pos (by omega), if_pos (by simp; omega)]
      have ei : ((i : Int)).toNat = i := by omega
      have ei1 : ((i : Int) + 1).toNat = i + 1 := by omega
      unfold sub'
      rw [ei, ei1]
      simp only [Int.toNat_zero, List.drop_zero, Nat.sub_zero]
      rw [set_take l i r (by omega)])
    FUEL (N - 1) 0 s (List.replicate N []) (by simp) (by omega) (by rw [fuel_eq]; omega) (Nat.le_refl _)
  refine (bindO_of (y := splitL 3 s) ?_).trans rfl
  refine hg.trans ?_
  simp only [List.take_zero, List.nil_append]
  by_cases h3 : 3 ≤ s.length
  · have : N - 1 = 3 := by omega
    rw [this]
  · rw [splitL_fuel (N - 1) 3 s (by omega) (by omega)]

theorem contains_eq (s p : List UInt8) (hs : (s.length : Int) ≤ 1048576) : M_strings_Contains s p = some (decide (0 ≤ Lib.index s p)) := by
  have : M_strings_Index s p = some (Lib.index s p) := by
    unfold M_strings_Index
    unfold guardO
    exact if_pos (by omega)
  unfold M_strings_Contains
  rw [bindO_of this]

/-- What the parts a, b, z of a text make of a line. -/
def caretP (line a b z : List UInt8) : List UInt8 × Int :=
  if Lib.index line a < 0 then ([], 3)
  else if 1000 < (line.take (Lib.index line a).toNat ++ b ++ line.drop ((Lib.index line a).toNat + a.length) ++ z).length then ([], 4)
  else (line.take (Lib.index line a).toNat ++ b ++ line.drop ((Lib.index line a).toNat + a.length) ++ z, 0)

def caretT (line t : List UInt8) : List UInt8 × Int :=
  if upto t = [] ∨ t.length ≤ (upto t).length then ([], 2)
  else caretP line (upto t) (upto (t.drop ((upto t).length + 1))) ((t.drop ((upto t).length + 1)).drop ((upto (t.drop ((upto t).length + 1))).length + 1))

def caretL (line : List UInt8) : List UInt8 → List UInt8 × Int
  | [] => ([], 2)
  | c :: t => if c = 94 then caretT line t else ([], 2)

def caretR (h : Int × List (List UInt8)) (s : List UInt8) : List UInt8 × Int :=
  if (hGet h (hLast h)).2 = false then ([], 1) else caretL (hGet h (hLast h)).1 s

theorem hGet_len2 (h : Int × List (List UInt8)) (n : Int) : ((hGet h n).1.length : Int) ≤ 1000 := by
  unfold hGet
  by_cases c : hOk h = true ∧ h.1 ≤ n ∧ n < h.1 + h.2.length
  · rw [if_pos c]
    obtain ⟨h1, h2, h3, h4⟩ := hOk_spec c.1
    have := h4 (at' h.2 (n - h.1)) (List.mem_of_getElem? (at_some ⟨by omega, by omega⟩))
    simp only; omega
  · rw [if_neg c]; simp

theorem hLast_b2 (h : Int × List (List UInt8)) : 0 ≤ hLast h ∧ hLast h ≤ 2000000000 := by
  unfold hLast
  split
  · rename_i c
    obtain ⟨h1, h2, h3, _⟩ := hOk_spec c.1
    omega
  · omega

theorem rep_one (line a b : List UInt8) (ha : ¬ a = []) (i : Nat) (hi : Lib.index line a = i) : Lib.replace line a b 1 = line.take i ++ b ++ line.drop (i + a.length) := by
  unfold Lib.replace
  have hc := Lib.count_hit ha hi
  have hk : Lib.replaceNum line a 1 = 1 := by
    unfold Lib.replaceNum
    rw [if_neg (by omega)]
    rfl
  have hocc : line.take i ++ a ++ line.drop (i + a.length) = line := by
    rcases Lib.index_spec line a with ⟨h1, _⟩ | ⟨j, h1, h2, h3, _⟩
    · omega
    · have : j = i := by omega
      subst this
      unfold Lib.occAt at h3
      obtain ⟨r, hr⟩ := List.isPrefixOf_iff_prefix.1 h3
      have hd : line.drop (j + a.length) = r := by
        rw [← List.drop_drop, ← hr, List.drop_left' rfl]
      rw [hd, List.append_assoc, hr, List.take_append_drop]
  by_cases hab : a = b
  · subst hab
    rw [if_pos (by simp), hocc]
  · rw [if_neg (by simpa using hab), hk, Lib.replaceK_hit a b 0 line i hi]
    rfl

section
variable (h : Int × List (List UInt8)) (hh : (h.2.length : Int) ≤ 1048576) (s : List UInt8) (hs : (s.length : Int) ≤ 1048576)
include hh hs

theorem caret_i : M_i_Caret h s = some (caretR h s) := by
  unfold M_i_Caret caretR
  have hb := hLast_b2 h
  have hgl := hGet_len2 h (hLast h)
  rw [bindO_of (histLast_i h hh), bindO_of (histGet_i h hh (hLast h) (by omega))]
  generalize hGet h (hLast h) = g at hgl ⊢
  obtain ⟨line, ok⟩ := g
  cases ok with
  | false => rfl
  | true =>
    simp only at hgl ⊢
    simp only [Bool.not_true, cond_false, Bool.true_eq_false, if_false]
    have sp : ∀ p, splitL 3 s = p → M_strings_SplitN s [94] 4 = some p := fun p hp => (split_eq s hs).trans (congrArg some hp)
    cases s with
    | nil => rw [bindO_of (sp [[]] rfl)]; rfl
    | cons c t =>
      have hlen : ((c :: t).length : Int) = (t.length : Int) + 1 := by simp
      unfold caretL
      by_cases hc : c = 94
      · subst hc
        have e0 : Lib.index (94 :: t) [94] = 0 := by rw [idx94]; unfold Lib.indexByte; simp
        have sp1 : splitL 3 (94 :: t) = [] :: splitL 2 t := by
          simp only [splitL]
          rw [e0, if_neg (by omega)]
          simp
        have ht : (t.length : Int) ≤ 1048576 := by omega
        simp only [if_true]
        unfold caretT
        rcases upto_idx t with ⟨h1, h2⟩ | ⟨i, h1, h2, h3⟩
        · have sp2 : splitL 2 t = [t] := by
            simp only [splitL]
            rw [h1, if_pos (by omega)]
          rw [bindO_of (sp [[], t] (by rw [sp1, sp2])), h2, if_pos (Or.inr (Nat.le_refl _))]
          simp [guardO]
        · have hi : ¬ ((i : Int) < 0) := by omega
          have ei : ((i : Int)).toNat = i := by omega
          have hlen : (upto t).length = i := by rw [h3, List.length_take]; omega
          have sp2 : splitL 2 t = upto t :: splitL 1 (t.drop (i + 1)) := by
            simp only [splitL]
            rw [h1, if_neg hi, ei, ← h3]
          -- what the last parts are
          obtain ⟨b, r, sp3, hbe, hre⟩ : ∃ b r, splitL 1 (t.drop (i + 1)) = b :: r ∧ b = upto (t.drop (i + 1)) ∧ ((r = [] ∧ (t.drop (i + 1)).drop (b.length + 1) = []) ∨ (∃ z, r = [z] ∧ (t.drop (i + 1)).drop (b.length + 1) = z)) := by
            rcases upto_idx (t.drop (i + 1)) with ⟨k1, k2⟩ | ⟨q, k1, k2, k3⟩
            · refine ⟨t.drop (i + 1), [], ?_, k2.symm, .inl ⟨rfl, List.drop_eq_nil_of_le (by omega)⟩⟩
              simp only [splitL]
              rw [k1, if_pos (by omega)]
            · have hq : ¬ ((q : Int) < 0) := by omega
              have eq : ((q : Int)).toNat = q := by omega
              refine ⟨upto (t.drop (i + 1)), [(t.drop (i + 1)).drop (q + 1)], ?_, rfl, .inr ⟨_, rfl, ?_⟩⟩
              · simp only [splitL]
                rw [k1, if_neg hq, eq, ← k3]
              · have : (upto (t.drop (i + 1))).length = q := by rw [k3, List.length_take]; omega
                rw [this]
          rw [bindO_of (sp ([] :: upto t :: b :: r) (by rw [sp1, sp2, sp3])), hlen, ← hbe]
          have hb1 : b.length ≤ 1048576 := by
            have := upto_le (t.drop (i + 1))
            rw [← hbe, List.length_drop] at this
            omega
          have hdl : ((t.drop (i + 1)).drop (b.length + 1)).length ≤ 1048576 := by simp only [List.length_drop]; omega
          generalize hu : upto t = a at hlen ⊢
          generalize hz : (t.drop (i + 1)).drop (b.length + 1) = z at hre hdl ⊢
          have hl3 : ¬ (([] :: a :: b :: r : List (List UInt8)).length : Int) < 3 := by simp; omega
          have a0 : at' ([] :: a :: b :: r : List (List UInt8)) 0 = [] := rfl
          have a1 : at' ([] :: a :: b :: r : List (List UInt8)) 1 = a := rfl
          have a2 : at' ([] :: a :: b :: r : List (List UInt8)) 2 = b := rfl
          have g0 : (0 : Int) ≤ 0 ∧ (0 : Int) < (([] :: a :: b :: r : List (List UInt8)).length : Int) := by simp; omega
          have g1 : (0 : Int) ≤ 1 ∧ (1 : Int) < (([] :: a :: b :: r : List (List UInt8)).length : Int) := by simp; omega
          have g2 : (0 : Int) ≤ 2 ∧ (2 : Int) < (([] :: a :: b :: r : List (List UInt8)).length : Int) := by simp; omega
          unfold guardO
          rw [if_pos (fun _ => g0), if_pos (fun _ => g1), decide_eq_false hl3, a0, a1, a2]
          by_cases hae : a = []
          · rw [show (if a = [] ∨ t.length ≤ i then (([] : List UInt8), (2 : Int)) else caretP line a b z) = ([], 2) from if_pos (Or.inl hae), decide_eq_true hae]
            rfl
          · rw [show (if a = [] ∨ t.length ≤ i then (([] : List UInt8), (2 : Int)) else caretP line a b z) = caretP line a b z from if_neg (fun x => x.elim hae (fun y => by omega)), decide_eq_false hae]
            simp only [decide_true, Bool.not_true, cond_false]
            rw [if_pos g1, bindO_of (contains_eq line a (by omega))]
            unfold caretP
            by_cases hx : 0 ≤ Lib.index line a
            · have hcn : M_strings_Replace line a b 1 = some (line.take (Lib.index line a).toNat ++ b ++ line.drop ((Lib.index line a).toNat + a.length)) := by
                unfold M_strings_Replace guardO
                have hcl := Lib.count_le line a
                have hal : 1 ≤ a.length := by
                  cases a with
                  | nil => exact absurd rfl hae
                  | cons _ _ => simp
                have hmul : Lib.count line a * b.length ≤ 1001 * 1048576 := Nat.mul_le_mul (by omega) hb1
                rw [if_pos ⟨by omega, hal, by omega⟩, rep_one line a b hae (Lib.index line a).toNat (by omega)]
              rw [decide_eq_true hx, show (if Lib.index line a < 0 then (([] : List UInt8), (3 : Int)) else if 1000 < (line.take (Lib.index line a).toNat ++ b ++ line.drop ((Lib.index line a).toNat + a.length) ++ z).length then ([], 4) else (line.take (Lib.index line a).toNat ++ b ++ line.drop ((Lib.index line a).toNat + a.length) ++ z, 0)) = if 1000 < (line.take (Lib.index line a).toNat ++ b ++ line.drop ((Lib.index line a).toNat + a.length) ++ z).length then ([], 4) else (line.take (Lib.index line a).toNat ++ b ++ line.drop ((Lib.index line a).toNat + a.length) ++ z, 0) from if_neg (by omega)]
              simp only [Bool.not_true, cond_false]
              rw [if_pos g1, if_pos g2, bindO_of hcn]
              have hol : (line.take (Lib.index line a).toNat ++ b ++ line.drop ((Lib.index line a).toNat + a.length)).length ≤ 3000000 := by
                simp only [List.length_append, List.length_take, List.length_drop]; omega
              generalize line.take (Lib.index line a).toNat ++ b ++ line.drop ((Lib.index line a).toNat + a.length) = o at hol ⊢
              simp only [joinO]
              have fin : ∀ x : List UInt8, (bif decide ((1000 : Int) < (x.length : Int)) then some (([] : List UInt8), (4 : Int)) else some (x, 0)) = some (if 1000 < x.length then (([] : List UInt8), (4 : Int)) else (x, 0)) := by
                intro x
                by_cases c : 1000 < x.length
                · rw [decide_eq_true (by omega), if_pos c]; rfl
                · rw [decide_eq_false (by omega), if_neg c]; rfl
              rcases hre with ⟨r1, r2⟩ | ⟨z', r1, r2⟩
              · subst r1
                have : z = [] := by first | exact r2 | (subst r2; rfl)
                subst this
                rw [show decide ((([[], a, b] : List (List UInt8)).length : Int) = 4) = false by simp, cond_false, fin, List.append_nil]
              · subst r1
                have : z = z' := by first | exact r2 | (subst r2; rfl)
                subst this
                have a3 : at' ([[], a, b, z] : List (List UInt8)) 3 = z := rfl
                rw [show decide ((([[], a, b, z] : List (List UInt8)).length : Int) = 4) = true by simp, cond_true, a3, if_pos (by simp), if_pos (by omega), fin]
            · rw [decide_eq_false hx, show (if Lib.index line a < 0 then (([] : List UInt8), (3 : Int)) else if 1000 < (line.take (Lib.index line a).toNat ++ b ++ line.drop ((Lib.index line a).toNat + a.length) ++ z).length then ([], 4) else (line.take (Lib.index line a).toNat ++ b ++ line.drop ((Lib.index line a).toNat + a.length) ++ z, 0)) = ([], 3) from if_pos (by omega)]
              rfl
      · simp only [hc, if_false]
        have hu : upto (c :: t) = c :: upto t := by rw [upto_cons, if_neg hc]
        rcases upto_idx (c :: t) with ⟨h1, h2⟩ | ⟨i, h1, h2, h3⟩
        · have sp1 : splitL 3 (c :: t) = [c :: t] := by
            simp only [splitL]
            rw [h1, if_pos (by omega)]
          rw [bindO_of (sp _ sp1)]
          simp [guardO]
        · have hi : ¬ ((i : Int) < 0) := by omega
          have sp1 : splitL 3 (c :: t) = (c :: upto t) :: splitL 2 ((c :: t).drop (((i : Int)).toNat + 1)) := by
            simp only [splitL]
            rw [h1, if_neg hi, ← hu, h3]
            rfl
          rw [bindO_of (sp _ sp1)]
          generalize splitL 2 ((c :: t).drop (((i : Int)).toNat + 1)) = r
          have a0 : at' ((c :: upto t) :: r) 0 = c :: upto t := rfl
          have hne : decide ((c :: upto t) = ([] : List UInt8)) = false := by simp
          unfold guardO
          rw [a0, hne, if_pos (fun _ => ⟨by omega, by simp⟩), if_pos (fun x => by
            cases hd : decide ((((c :: upto t) :: r).length : Int) < 3) <;> rw [hd] at x <;> cases x)]
          cases decide ((((c :: upto t) :: r).length : Int) < 3) <;> rfl

end

def CurOk (c : List UInt8 × Int × Int) : Prop := 0 ≤ c.2.1 ∧ c.2.1 ≤ (c.1.length : Int) ∧ (c.1.length : Int) ≤ 1048576

theorem and_bound (x : BitVec 64) (n : Nat) (hn : n < 2 ^ 64) : (x &&& BitVec.ofInt 64 (n : Int)).toNat ≤ n := by
  rw [BitVec.toNat_and]
  have : (BitVec.ofInt 64 (n : Int)).toNat = n := by
    rw [BitVec.toNat_ofInt]
    have h : ((n : Int) % ((2 ^ 64 : Nat) : Int)) = n := Int.emod_eq_of_lt (by omega) (by exact_mod_cast hn)
    rw [h]; rfl
  rw [this]
  exact Nat.and_le_right

theorem and255 (x : BitVec 64) : 0 ≤ W (((x &&& BitVec.ofInt 64 255).toNat : Nat) : Int) ∧ W (((x &&& BitVec.ofInt 64 255).toNat : Nat) : Int) ≤ 255 := by
  have h := and_bound x 255 (by decide)
  have h' : (x &&& BitVec.ofInt 64 255).toNat ≤ 255 := h
  rw [W_eq (by omega) (by omega)]
  omega

theorem byte_ok (c : List UInt8 × Int × Int) (hc : CurOk c) : ∃ y i h, M_s_l01Byte c = some (y, (c.1, i, h)) ∧ CurOk (c.1, i, h) ∧ 0 ≤ y ∧ y ≤ 255 := by
  obtain ⟨h1, h2, h3⟩ := hc
  unfold M_s_l01Byte
  simp only [joinO, Bool.cond_decide, guardO]
  split
  · rw [if_pos ⟨h1, by assumption⟩]
    exact ⟨_, _, _, rfl, ⟨by simp only; rw [W_eq (by omega) (by omega)]; omega, by simp only; rw [W_eq (by omega) (by omega)]; omega, h3⟩, and255 _⟩
  · exact ⟨_, _, _, rfl, ⟨h1, h2, h3⟩, and255 _⟩

theorem below_ok (c : List UInt8 × Int × Int) (hc : CurOk c) (n : Int) : ∃ y i h, M_s_l01Below c n = some (y, (c.1, i, h)) ∧ CurOk (c.1, i, h) ∧ 0 ≤ y ∧ (0 < n → y < n) ∧ (n ≤ 0 → y = 0) := by
  unfold M_s_l01Below
  simp only [Bool.cond_decide]
  split
  · exact ⟨0, c.2.1, c.2.2, rfl, hc, by omega, by omega, by omega⟩
  · split
    · obtain ⟨y, i, h, e, ho, y0, y1⟩ := byte_ok _ hc
      have e' : M_s_l01Byte (c.1, c.2.1, c.2.2) = _ := e
      rw [bindO_of e']
      simp only [guardO]
      rw [if_pos (by omega)]
      exact ⟨_, i, h, rfl, ho, Int.tmod_nonneg _ y0, fun hn => Int.tmod_lt_of_pos _ hn, by omega⟩
    · obtain ⟨ya, ia, ha, e1, o1, a0, a1⟩ := byte_ok _ hc
      obtain ⟨yb, ib, hb, e2, o2, b0, b1⟩ := byte_ok _ o1
      obtain ⟨yc, ic, hcc, e3, o3, c0, c1⟩ := byte_ok _ o2
      obtain ⟨yd, id, hd, e4, o4, d0, d1⟩ := byte_ok _ o3
      have e1' : M_s_l01Byte (c.1, c.2.1, c.2.2) = _ := e1
      rw [bindO_of e1', bindO_of e2, bindO_of e3, bindO_of e4]
      simp only [guardO]
      rw [if_pos (by omega)]
      rw [W_eq (x := ya * 16777216) (by omega) (by omega), W_eq (x := yb * 65536) (by omega) (by omega), W_eq (x := yc * 256) (by omega) (by omega), W_eq (x := ya * 16777216 + yb * 65536) (by omega) (by omega),
        W_eq (x := ya * 16777216 + yb * 65536 + yc * 256) (by omega) (by omega), W_eq (x := ya * 16777216 + yb * 65536 + yc * 256 + yd) (by omega) (by omega)]
      exact ⟨_, id, hd, rfl, o4, Int.tmod_nonneg _ (by omega), fun hn => Int.tmod_lt_of_pos _ hn, by omega⟩

theorem new_loop (l : List UInt8) (hl : (l.length : Int) ≤ 1048576) : ∀ (m : Nat) (h k : Int), 0 ≤ k → k ≤ 4000 → 4000 - k < m → ∃ v, fixF (M_s_l01New_L1 l fun x15 => some (l, 0, x15)) m (h, k) = some (l, 0, v) := by
  intro m
  induction m with
  | zero => intro h k _ _ h'; omega
  | succ m ih =>
    intro h k hk hk' hm
    simp only [fixF, M_s_l01New_L1, guardO, Bool.cond_decide]
    by_cases h1 : k < (l.length : Int)
    · by_cases h2 : k < 4000
      · simp only [h1, h2, hk, if_true, and_self, decide_true]
        rw [W_eq (x := k + 1) (by omega) (by omega)]
        exact ih _ _ (by omega) (by omega) (by omega)
      · simp only [h1, h2, if_true, decide_false, Bool.false_eq_true, if_false]
        exact ⟨h, rfl⟩
    · simp only [h1, if_false, cond_false]
      exact ⟨h, rfl⟩

theorem new_ok (l : List UInt8) (hl : (l.length : Int) ≤ 1048576) : ∃ h, M_s_l01New l = some (l, 0, h) ∧ CurOk (l, 0, h) := by
  unfold M_s_l01New
  simp only [joinO]
  obtain ⟨v, hv⟩ := new_loop l hl FUEL (W (600128 + (l.length : Int))) 0 (by omega) (by omega) (by rw [fuel_eq]; omega)
  exact ⟨v, hv, ⟨by simp, by simp, hl⟩⟩

theorem text_ok (c : List UInt8 × Int × Int) (hc : CurOk c) : ∃ y i h, M_s_l05Text c = some (y, (c.1, i, h)) ∧ CurOk (c.1, i, h) ∧ 1 ≤ y.length ∧ y.length ≤ 16 := by
  unfold M_s_l05Text
  obtain ⟨y, i, h, e, ho, y0, y1, _⟩ := below_ok _ hc 12
  have e' : M_s_l01Below c 12 = _ := e
  rw [bindO_of e']
  have y1 := y1 (by omega)
  simp only [guardO]
  rw [if_pos ⟨y0, y1⟩]
  refine ⟨_, i, h, rfl, ho, ?_⟩
  have key : ∀ t ∈ (([([108, 115] : List UInt8), ([101, 99, 104, 111, 32, 97] : List UInt8), ([99, 97, 116, 32, 98] : List UInt8), ([97, 32, 124, 32, 98] : List UInt8), ([120, 61, 49] : List UInt8), ([105, 102, 32, 97, 59, 32, 116, 104, 101, 110, 32, 98, 59, 32, 102, 105] : List UInt8), ([101, 99, 104, 111, 32, 39, 97, 10, 98, 39] : List UInt8), ([109, 97, 107, 101] : List UInt8), ([108, 115, 32, 45, 108] : List UInt8), ([101, 99, 104, 111, 32, 195, 169] : List UInt8), ([103, 105, 116, 32, 108, 111, 103] : List UInt8), ([119] : List UInt8)] : List (List UInt8))), 1 ≤ t.length ∧ t.length ≤ 16 := by decide
  exact key _ (List.mem_of_getElem? (at_some ⟨y0, y1⟩))

theorem hOk_mk {h : Int × List (List UInt8)} (h1 : 1 ≤ h.1 ∧ h.1 ≤ 1000000000 ∧ (h.2.length : Int) ≤ 60) (h2 : ∀ s ∈ h.2, 1 ≤ s.length ∧ s.length ≤ 16) : hOk h = true := by
  unfold hOk
  simp only [Bool.and_eq_true, decide_eq_true_eq, List.all_eq_true]
  exact ⟨h1, fun s hs => by have := h2 s hs; omega⟩

/-- A drawn history. -/
def HistD (h : Int × List (List UInt8)) : Prop := (1 ≤ h.1 ∧ h.1 ≤ 1000 ∧ (h.2.length : Int) ≤ 60) ∧ ∀ s ∈ h.2, 1 ≤ s.length ∧ s.length ≤ 16

theorem HistD.ok {h : Int × List (List UInt8)} (hd : HistD h) : hOk h = true := hOk_mk ⟨hd.1.1, by have := hd.1.2.1; omega, hd.1.2.2⟩ hd.2

theorem histAdd_ok (h : Int × List (List UInt8)) (hd : HistD h) (h9 : h.1 < 1000) (t : List UInt8) (ht : 1 ≤ t.length ∧ t.length ≤ 16) : ∃ h', M_s_HistAdd h t = some (h', true) ∧ HistD h' ∧ h'.1 ≤ h.1 + 1 := by
  have hok := hd.ok
  obtain ⟨⟨d1, d2, d3⟩, d4⟩ := hd
  unfold M_s_HistAdd
  have g1 : ([] : List (List UInt8)).length + h.2.length ≤ 536870912 := by simp; omega
  have g2 : (([] : List (List UInt8)) ++ h.2).length + ([t] : List (List UInt8)).length ≤ 536870912 := by simp; omega
  have g3 : h.2.length + ([t] : List (List UInt8)).length ≤ 536870912 := by simp; omega
  simp only [joinO, guardO, g1, g2, g3, if_true, List.nil_append, Bool.cond_decide]
  have hall : ∀ s ∈ h.2 ++ [t], 1 ≤ s.length ∧ s.length ≤ 16 := by
    intro s hs
    rcases List.mem_append.1 hs with hs | hs
    · exact d4 s hs
    · simp only [List.mem_singleton] at hs; subst hs; exact ht
  have fin : ∀ h' : Int × List (List UInt8), HistD h' → (bindO (M_s_HistOk h) fun (y30 : Bool) =>
      (callO ((!y30) = false) (M_s_HistOk (h'.1, h'.2)) false fun (y32 : Bool) =>
      (bif (bif (!y30) then true else (!y32)) then some ((0, []), false) else some ((h'.1, h'.2), true)))) = some (h', true) := by
    intro h' hd'
    rw [bindO_of (sHistOk_eq h (by omega)), hok]
    have := sHistOk_eq h' (by have := hd'.1.2.2; omega)
    rw [hd'.ok] at this
    have this' : M_s_HistOk (h'.1, h'.2) = some true := this
    rw [this']
    simp [callO, bindO]
  by_cases hc : 60 < ((h.2 ++ [t]).length : Int)
  · rw [if_pos hc, if_pos ⟨by omega, by omega, by omega⟩, W_eq (by omega) (by omega), sub_all (by omega)]
    refine ⟨(h.1 + 1, (h.2 ++ [t]).drop 1), fin (h.1 + 1, (h.2 ++ [t]).drop 1) ?_, ?_, by simp⟩
    all_goals exact ⟨⟨by simp only; omega, by simp only; omega, by simp only [List.length_drop, List.length_append, List.length_cons, List.length_nil]; omega⟩, fun s hs => hall s (List.mem_of_mem_drop hs)⟩
  · rw [if_neg hc]
    have hD : HistD (h.1, h.2 ++ [t]) := ⟨⟨d1, d2, by simp only; omega⟩, hall⟩
    exact ⟨(h.1, h.2 ++ [t]), fin (h.1, h.2 ++ [t]) hD, hD, by simp only; omega⟩

theorem histDraw_loop (c : List UInt8 × Int × Int) : ∀ (m : Nat) (n f : Int) (ls : List (List UInt8)) (i h : Int), CurOk (c.1, i, h) → 0 ≤ n → n ≤ 100 → HistD (f, ls) → f + n ≤ 900 → n < m →
    ∃ r i' h', fixF (M_s_l16Draw_L1 c fun (x53, x54, x57, x58) => some ((x53, x54), (c.1, x57, x58))) m (n, f, ls, i, h) = some (r, (c.1, i', h')) ∧ CurOk (c.1, i', h') ∧ HistD r ∧ r.1 ≤ f + n := by
  intro m
  induction m with
  | zero => intro n f ls i h _ _ _ _ _ hm; omega
  | succ m ih =>
    intro n f ls i h hc hn hn' hd hf hm
    simp only [fixF, M_s_l16Draw_L1, Bool.cond_decide]
    by_cases h1 : 0 < n
    · rw [if_pos h1]
      obtain ⟨t, i2, h2, e, o2, t1, t2⟩ := text_ok _ hc
      have e' : M_s_l05Text (c.1, i, h) = some (t, (c.1, i2, h2)) := e
      rw [bindO_of e']
      obtain ⟨h', e3, d3, l3⟩ := histAdd_ok (f, ls) hd (by simp only; omega) t ⟨t1, t2⟩
      have l3' : h'.1 ≤ f + 1 := l3
      rw [bindO_of e3, W_eq (by omega) (by omega)]
      obtain ⟨r, i', h'', r1, r2, r3, r4⟩ := ih (n - 1) h'.1 h'.2 i2 h2 o2 (by omega) (by omega) d3 (by omega) (by omega)
      exact ⟨r, i', h'', r1, r2, r3, by omega⟩
    · rw [if_neg h1]
      exact ⟨(f, ls), i, h, rfl, hc, hd, by simp only; omega⟩

theorem histDraw_ok (c : List UInt8 × Int × Int) (hc : CurOk c) : ∃ r i h, M_s_l16Draw c = some (r, (c.1, i, h)) ∧ CurOk (c.1, i, h) ∧ HistD r ∧ r.1 < 1000 := by
  unfold M_s_l16Draw
  obtain ⟨y, i, h, e, ho, y0, y1, _⟩ := below_ok _ hc 5
  have e' : M_s_l01Below c 5 = _ := e
  rw [bindO_of e']
  have y1 := y1 (by omega)
  obtain ⟨z, i2, h2, e2, o2, z0, z1, _⟩ := below_ok _ ho 8
  simp only
  rw [bindO_of e2]
  have z1 := z1 (by omega)
  obtain ⟨v, i3, h3, e3, o3, v0, v1, _⟩ := below_ok _ o2 12
  simp only [joinO, Bool.cond_decide]
  rw [bindO_of e3]
  have fin : ∀ n i h, 0 ≤ n → n ≤ 62 → CurOk (c.1, i, h) → ∃ r i' h', fixF (M_s_l16Draw_L1 c fun (x53, x54, x57, x58) => some ((x53, x54), (c.1, x57, x58))) FUEL (n, (W (1 + y)), ([] : List (List UInt8)), i, h) = some (r, (c.1, i', h')) ∧ CurOk (c.1, i', h') ∧ HistD r ∧ r.1 < 1000 := by
    intro n i h hn hn' hcu
    rw [W_eq (by omega) (by omega)]
    obtain ⟨r, i', h', r1, r2, r3, r4⟩ := histDraw_loop c FUEL n (1 + y) [] i h hcu hn (by omega) ⟨⟨by simp only; omega, by simp only; omega, by simp⟩, by simp⟩ (by omega) (by rw [fuel_eq]; omega)
    exact ⟨r, i', h', r1, r2, r3, by omega⟩
  simp only
  split
  · obtain ⟨u, i4, h4, e4, o4, u0, u1, _⟩ := below_ok _ o3 4
    have u1 := u1 (by omega)
    rw [bindO_of e4]
    rw [W_eq (x := 59 + u) (by omega) (by omega)]
    exact fin (59 + u) i4 h4 (by omega) (by omega) o4
  · exact fin z i3 h3 z0 (by omega) o3

def TEXTS : List (List UInt8) := [([108, 115] : List UInt8), ([101, 99, 104, 111, 32, 97] : List UInt8), ([99, 97, 116, 32, 98] : List UInt8), ([97, 32, 124, 32, 98] : List UInt8), ([120, 61, 49] : List UInt8), ([105, 102, 32, 97, 59, 32, 116, 104, 101, 110, 32, 98, 59, 32, 102, 105] : List UInt8), ([101, 99, 104, 111, 32, 39, 97, 10, 98, 39] : List UInt8), ([109, 97, 107, 101] : List UInt8), ([108, 115, 32, 45, 108] : List UInt8), ([101, 99, 104, 111, 32, 195, 169] : List UInt8), ([103, 105, 116, 32, 108, 111, 103] : List UInt8), ([119] : List UInt8)]

theorem text_in (c : List UInt8 × Int × Int) (hc : CurOk c) : ∃ y i h, M_s_l05Text c = some (y, (c.1, i, h)) ∧ CurOk (c.1, i, h) ∧ y ∈ TEXTS := by
  unfold M_s_l05Text
  obtain ⟨y, i, h, e, ho, y0, y1, _⟩ := below_ok _ hc 12
  have e' : M_s_l01Below c 12 = _ := e
  rw [bindO_of e']
  have y1 := y1 (by omega)
  simp only [guardO]
  rw [if_pos ⟨y0, y1⟩]
  exact ⟨_, i, h, rfl, ho, List.mem_of_getElem? (at_some ⟨y0, y1⟩)⟩

theorem makeHist_in (l : List UInt8) (hl : (l.length : Int) ≤ 1048576) : ∃ h t, M_s_MakeHist l = some (h, t) ∧ HistD h ∧ h.1 < 1000 ∧ t ∈ TEXTS := by
  unfold M_s_MakeHist
  obtain ⟨h, e, hc⟩ := new_ok l hl
  rw [bindO_of e]
  obtain ⟨r, i, h2, e2, o2, d, dl⟩ := histDraw_ok _ hc
  have e2' : M_s_l16Draw (l, 0, h) = _ := e2
  rw [bindO_of e2']
  obtain ⟨t, i3, h3, e3, o3, t1⟩ := text_in _ o2
  have e3' : M_s_l05Text (l, i, h2) = _ := e3
  simp only
  rw [bindO_of e3']
  exact ⟨r, t, rfl, d, dl, t1⟩

theorem hGet_last (F : Int) (M : List (List UInt8)) (t : List UInt8) (hk : hOk (F, M ++ [t]) = true) : hGet (F, M ++ [t]) (hLast (F, M ++ [t])) = (t, true) := by
  obtain ⟨h1, h2, h3, _⟩ := hOk_spec hk
  have hl : ((M ++ [t]).length : Int) = (M.length : Int) + 1 := by simp
  have eL : hLast (F, M ++ [t]) = F + (M.length : Int) := by
    unfold hLast
    rw [if_pos ⟨hk, by simp⟩]
    simp only at hl ⊢
    omega
  rw [eL]
  unfold hGet
  simp only at h1 ⊢
  rw [if_pos ⟨hk, by omega, by omega⟩]
  have e : F + (M.length : Int) - F = (M.length : Int) := by omega
  rw [e]
  unfold at'
  simp

theorem histAdd_i (h : Int × List (List UInt8)) (hd : HistD h) (h9 : h.1 < 1000) (t : List UInt8) (ht : 1 ≤ t.length ∧ t.length ≤ 16) : ∃ F M, M_i_HistAdd h t = some ((F, M ++ [t]), true) ∧ hOk (F, M ++ [t]) = true := by
  have hok := hd.ok
  obtain ⟨⟨d1, d2, d3⟩, d4⟩ := hd
  unfold M_i_HistAdd
  have g1 : ([] : List (List UInt8)).length + h.2.length ≤ 536870912 := by simp; omega
  have g3 : h.2.length + ([t] : List (List UInt8)).length ≤ 536870912 := by simp; omega
  have cp : M_i_copyHist h = some h := by
    unfold M_i_copyHist guardO
    rw [if_pos g1]; simp
  rw [bindO_of (iHistOk_eq h (by omega)), hok]
  simp only [Bool.not_true, cond_false, joinO]
  rw [bindO_of cp]
  unfold guardO
  rw [if_pos g3]
  have hall : ∀ s ∈ h.2 ++ [t], 1 ≤ s.length ∧ s.length ≤ 16 := by
    intro s hs
    rcases List.mem_append.1 hs with hs | hs
    · exact d4 s hs
    · simp only [List.mem_singleton] at hs; subst hs; exact ht
  have fin : ∀ F M, HistD (F, M ++ [t]) → (bindO (M_i_HistOk (F, M ++ [t])) fun (y27 : Bool) => (bif (!y27) then some ((0, []), false) else some ((F, M ++ [t]), true))) = some ((F, M ++ [t]), true) := by
    intro F M hd'
    rw [bindO_of (iHistOk_eq (F, M ++ [t]) (by have := hd'.1.2.2; omega)), hd'.ok]
    rfl
  have hl : ((h.2 ++ [t]).length : Int) = (h.2.length : Int) + 1 := by simp
  by_cases hc : 60 < ((h.2 ++ [t]).length : Int)
  · rw [decide_eq_true hc, cond_true, if_pos ⟨by omega, by omega, by omega⟩, W_eq (by omega) (by omega)]
    have es : sub' (h.2 ++ [t]) 1 ((h.2 ++ [t]).length : Int) = h.2.drop 1 ++ [t] := by
      unfold sub'
      have a1 : ((1 : Int)).toNat = 1 := rfl
      have a2 : (((h.2 ++ [t]).length : Int)).toNat = (h.2 ++ [t]).length := by omega
      rw [a1, a2, List.take_of_length_le (by rw [List.length_drop]; omega), List.drop_append_of_le_length (by omega)]
    rw [es]
    have hD : HistD (h.1 + 1, h.2.drop 1 ++ [t]) := ⟨⟨by simp only; omega, by simp only; omega, by simp only [List.length_append, List.length_drop, List.length_cons, List.length_nil]; omega⟩, fun s hs => by
      rcases List.mem_append.1 hs with hs | hs
      · exact hall s (List.mem_append.2 (.inl (List.mem_of_mem_drop hs)))
      · exact hall s (List.mem_append.2 (.inr hs))⟩
    exact ⟨_, _, fin _ _ hD, hD.ok⟩
  · rw [decide_eq_false hc, cond_false]
    have hD : HistD (h.1, h.2 ++ [t]) := ⟨⟨d1, d2, by simp only; omega⟩, hall⟩
    exact ⟨_, _, fin _ _ hD, hD.ok⟩

set_option maxRecDepth 100000 in
theorem texts_ok : ∀ t ∈ TEXTS, (1 ≤ t.length ∧ t.length ≤ 16) ∧ caretL t ((([94] : List UInt8) ++ sub' t 0 1) ++ [94, 81, 94, 32, 101, 110, 100]) = ((([81] : List UInt8) ++ sub' t 1 (t.length : Int)) ++ [32, 101, 110, 100], 0) ∧ caretL t [94, 122, 122, 94, 121] = ([], 3) ∧ Lib.hasPrefix ((([94] : List UInt8) ++ sub' t 0 1) ++ [94, 81, 94, 32, 101, 110, 100]) [94] = true := by decide +kernel

theorem law_FnCaret (l : List UInt8) : M_l_FnCaret l = some true := by
  unfold M_l_FnCaret
  by_cases hb : 1048576 < (l.length : Int)
  · simp [hb]
  rw [decide_eq_false hb, cond_false]
  obtain ⟨h, t, eh, hd, h9, tt⟩ := makeHist_in l (by omega)
  obtain ⟨⟨t1, t2⟩, c1, c2, c3⟩ := texts_ok t tt
  obtain ⟨F, M, e2, hk⟩ := histAdd_i h hd h9 t ⟨t1, t2⟩
  obtain ⟨k1, k2, k3, _⟩ := hOk_spec hk
  have hg := hGet_last F M t hk
  have sl : ((([94] : List UInt8) ++ sub' t 0 1) ++ [94, 81, 94, 32, 101, 110, 100]).length ≤ 100 := by
    unfold sub'; simp only [List.length_append, List.length_take, List.length_drop, List.length_cons, List.length_nil]; omega
  have sl2 : (([94] : List UInt8) ++ sub' t 0 1).length ≤ 100 := by
    unfold sub'; simp only [List.length_append, List.length_take, List.length_drop, List.length_cons, List.length_nil]; omega
  have sl3 : (sub' t 0 1).length ≤ 100 := by
    unfold sub'; simp only [List.length_take, List.length_drop]; omega
  have sl4 : (sub' t 1 (t.length : Int)).length ≤ 100 := by
    unfold sub'; simp only [List.length_take, List.length_drop]; omega
  have ca : ∀ s : List UInt8, s.length ≤ 100 → M_i_Caret (F, M ++ [t]) s = some (caretL t s) := by
    intro s hs
    rw [caret_i (F, M ++ [t]) (by simp only at k3 ⊢; omega) s (by omega)]
    unfold caretR
    rw [hg]
    rfl
  have ex : M_i_Expand (F, M ++ [t]) ((([94] : List UInt8) ++ sub' t 0 1) ++ [94, 81, 94, 32, 101, 110, 100]) = some (((([81] : List UInt8) ++ sub' t 1 (t.length : Int)) ++ [32, 101, 110, 100]), 0, 0) := by
    unfold M_i_Expand M_strings_HasPrefix
    rw [c3]
    refine (bindO_of (y := true) rfl).trans ?_
    rw [cond_true, bindO_of (ca _ sl), c1]
  have tp : (1 : Int) ≤ (t.length : Int) := by omega
  rw [bindO_of eh]
  simp only
  rw [bindO_of e2]
  unfold guardO
  rw [if_pos ⟨by omega, by omega, tp⟩, if_pos (by simp only [List.length_cons, List.length_nil]; omega), if_pos (by simp only [List.length_cons, List.length_nil]; omega), bindO_of (ca _ sl), bindO_of (ca _ (by decide)), c1, c2]
  simp only
  rw [if_pos ⟨by omega, by omega, tp⟩, if_pos (by simp only [List.length_cons, List.length_nil]; omega), if_pos (by simp only [List.length_cons, List.length_nil]; omega), bindO_of ex]
  simp only [decide_true, cond_true]
  rw [if_pos (fun _ => ⟨by omega, tp, by omega⟩), if_pos (fun _ => by simp only [List.length_cons, List.length_nil]; omega), if_pos (fun _ => by simp only [List.length_append, List.length_cons, List.length_nil]; omega)]

end Go.Eng

namespace Go.Proofs.YtkkafmjckkjebaaDoor.fnCaret
open Go.ChangeShapes Go.WideShapes Go.ChangeAt Go.RowKit Go.Eng
open Go.ChangeMaps (open_string shut_string)

theorem own : ownKnob Tryd.prog.godebug = none := by kernel_rfl
theorem laidOut : laidOutB Tryd.prog = true := by kernel_rfl

def laid : List (String × DataW Unit) := [("unicode/utf8.acceptRanges", Rows.laid_unicode_utf8_acceptRanges), ("unicode/utf8.first", Rows.laid_unicode_utf8_first)]

set_option maxRecDepth 100000 in
theorem lifted (os : Os) (started : os.Started) (H : Type) (enc : TypeId × Value → H) :
    ReturnsInHanded {} Tryd.checked os 5 .any (fun w args => (Rows.fnCaretSpec.pre enc Tryd.prog Tryd.f5 [] false w args ∧ laidMetH Tryd.prog laid w) ∧ sizedMet enc Tryd.prog Tryd.f5 (OpenSpec.ofChange Rows.fnCaretSpec) false w args) (Rows.fnCaretSpec.post enc Tryd.prog Tryd.f5 false true false false) := by
  refine returnsInHanded_of_and_shape (C := Tryd.checked) (X := fun w _ => laidMetH Tryd.prog laid w) (fun _ _ _ hh h => h.of_heap hh) own started (by kernel_rfl) Tryd.func5
    (ChangeSpec.witness_shaped (enc := enc) (C := Tryd.checked) (os := os) (X := fun w _ => laidMetH Tryd.prog laid w) false (World.laidAll Tryd.prog os laid) #[.slice none 0 0] 8 (World.laidAll_os _ _ _)
      (World.shaped_of_ZipB (by kernel_rfl) (by kernel_rfl)) (by kernel_rfl) (by kernel_rfl) (by kernel_rfl)
      (by rw [MakeChecks.laidMetH_plain _ _ _ (by kernel_rfl)]; exact laidMet_laidAll _ (by kernel_rfl) (by kernel_rfl))) ?_
  intro W base args ds gs before hsh hval0 hW _ _ _ _
  have hval : ∀ (j : Nat) t v, Tryd.f5.params[j]? = some t → args[j]? = some v → Value.okWide Tryd.prog W .any base t v := hval0
  have hW' := hW
  obtain ⟨p, q, hA0, hV, rfl, hfz, hnd⟩ := hW
  have hA : DataW.TrodAll enc Tryd.prog W 0 (fun _ => true) true Tryd.f5.params.toList args.toList ds p := hA0
  rw [Tryd.params5] at hA hval
  obtain ⟨v0, vs0, d0, ds0, p0, q0, hargs, rfl, rfl, h0, r0⟩ := trodAll_cons hA
  obtain ⟨rfl, rfl, rfl⟩ := trodAll_nil r0
  obtain rfl : args = #[v0] := by cases args; simp_all
  obtain ⟨rfl, rfl⟩ := trodVars_none hV
  have k0 := h0
  have lt0 : ∀ x ∈ p0, x.block < W.heap.size := by obtain ⟨m, hm⟩ := k0; exact DataW.trod_lt m _ _ _ hm
  obtain ⟨sa0, sl0, sc0, rfl⟩ := okWide_slice Tryd.underlying32 (hval 0 32 v0 rfl rfl)
  obtain ⟨m0, hm0⟩ := h0
  obtain ⟨x0, L0, rep0, wf0⟩ := trod_rep 16 m0 32 (.sl .byte) _ _ (by kernel_rfl) hm0
  refine rep_open rep0 ?_
  intro b0_0 c0_0 e0 f0
  have e0' : some [.slice b0_0 x0.length c0_0] = some [Value.slice sa0 sl0 sc0] := e0
  obtain ⟨rfl, rfl, rfl⟩ : b0_0 = sa0 ∧ x0.length = sl0 ∧ c0_0 = sc0 := by cases e0'; exact ⟨rfl, rfl, rfl⟩
  have f0' : ∀ f ∈ ([⟨.byte, ⟨b0_0, x0.length, c0_0⟩, x0⟩] : List Fact), ∃ L, f.rep false W L := f0
  obtain ⟨gm0, Lg0, fg0⟩ := var_of_shape (P := Tryd.prog) (g := 0) (t := 3) (zero := #[.int .i64 0]) hsh (of_decide_eq_true (by kernel_rfl)) (by kernel_rfl) rfl (by kernel_rfl) (by kernel_rfl) Tryd.underlying3
  clear hA0 hval0
  simp only [List.append_nil] at hW'
  have walk : Calls Tryd.prog 5 #[.slice b0_0 x0.length c0_0] W fun e w' => e = .returned (.bool true) ∧ Below W.heap.size W w' := by
    have h := ok_l_FnCaret x0 b0_0 c0_0 _ rfl gm0 true (law_FnCaret x0 )
    refine Calls.mono (h.calls W ?_) ?_
    · intro x hx
      rcases List.mem_cons.1 hx with rfl | hx
      · exact f0' _ List.mem_cons_self
      rcases List.mem_cons.1 hx with rfl | hx
      · exact ⟨_, fg0⟩
      cases hx
    · rintro e w' ⟨r, -, he, hk, -⟩
      exact ⟨he, hk.below⟩
  refine walk.mono fun e W' ⟨he, bel⟩ => ?_
  subst he
  exact ⟨_, rfl, _, _, _, [], _, [], hW', trodAll_mk1 (shut_bool Tryd.underlying4 _), (trodAll_cons_mk (Below.trod laidOut (by kernel_rfl) (of_decide_eq_true (by kernel_rfl)) k0 bel lt0) trodAll_mk0), rfl, bel.frame _, fun h => by cases h⟩

theorem andI {a b : Bool} (ha : a = true) (hb : b = true) : (a && b) = true := by rw [ha, hb]; rfl
set_option maxHeartbeats 8000000 in
theorem closed : joinedFacts Tryd.checked.prog 5 Tryd.f5 Rows.fnCaretSpec Rows.fnCaretRow = true := by
  unfold joinedFacts
  (repeat' with_reducible refine andI ?_ ?_) <;> as_aux_lemma => kernel_rfl

theorem over : Rows.fnCaretRow.holds Tryd.pinned (OpenSpec.ofChange Rows.fnCaretSpec) :=
  OpenClaim.holds_of_wide 5 Tryd.f5 rfl rfl rfl rfl rfl rfl rfl ⟨rfl, rfl, rfl, rfl, rfl⟩ rfl rfl rfl rfl rfl (by kernel_rfl) Tryd.func5 closed
    (of_decide_eq_true (by kernel_rfl)) (by unfold Func.isWrapper; first | (rw [if_pos (by decide +kernel)]; kernel_rfl) | (rw [if_neg (by decide +kernel)]; exact ⟨rfl, rfl⟩))
    (fun os started H enc _ => lifted os started H enc)

theorem proved : Rows.FnCaretCardSaid :=
  Claim7.holds_tied_plain_at .later [] [.data, .pinned] true (true, "17df7e32e606275d63a36cd64373dcc6927a66c82113949fb6477aae1738ee25") false
    over (fun _ h => by cases h) (by kernel_rfl) (fun _ h => by cases h) fnCaret_row_tie rfl ⟨rfl, rfl⟩ (by kernel_rfl) rfl
    (fun f fn hf hfn => by
      obtain rfl : f = 5 := Option.some.inj ((show Tryd.prog.funcNamed "loop.example/g00600/laws.FnCaret" = some 5 by kernel_rfl).symm.trans hf) |>.symm
      obtain rfl : fn = Tryd.f5 := (Option.some.inj (Tryd.func5.symm.trans hfn)).symm
      exact ⟨by kernel_rfl, fun j t ht => by
        rw [Tryd.params5] at ht
        have hm : t ∈ [32] := by simpa using Array.mem_of_getElem? ht
        have hall : ([32].all fun u => !Tryd.prog.wantsStandIn u) = true := by kernel_rfl
        exact (show Tryd.prog.wantsStandIn t = false by simpa using List.all_eq_true.1 hall t hm)⟩)
    (by kernel_rfl)
#print axioms proved
end Go.Proofs.YtkkafmjckkjebaaDoor.fnCaret
