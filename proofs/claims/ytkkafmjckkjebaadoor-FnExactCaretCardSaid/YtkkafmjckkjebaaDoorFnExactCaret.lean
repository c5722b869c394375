/- FnExactCaret: for every input the given law returns true and leaves its arguments as they were. No condition. -/
import Derived.Test.YtkkafmjckkjebaaDoorFnExactCaretWalkA
import Derived.Test.YtkkafmjckkjebaaDoorRows
import Derived.WalkKit
import Derived.ProofKit
import Derived.OpenShut
import Derived.ShutString
import Derived.Test.YtkkafmjckkjebaaDoorTie
import Derived.Test.YtkkafmjckkjebaaDoorCards
import Derived.Handy
import Derived.Lay
import Derived.SevenTiedAt
set_option linter.unusedVariables false
set_option linter.unusedSimpArgs false
namespace Go.Eng
open Go Go.Proofs

theorem bindO_of {α β : Type} {m : Option α} {k : α → Option β} {y : α} (h : m = some y) : bindO m k = k y := by rw [h]; rfl

theorem drop_at {α : Type} [Inhabited α] {l : List α} {k : Int} (h0 : 0 ≤ k) (h : k < (l.length : Int)) : l.drop k.toNat = at' l k :: l.drop (k + 1).toNat := by
  have hlt : k.toNat < l.length := by omega
  rw [List.drop_eq_getElem_cons hlt]
  have : (k + 1).toNat = k.toNat + 1 := by omega
  rw [this]
  congr 1
  simp [at', List.getD_eq_getElem?_getD, hlt]

theorem szStringS_loop (xs : List (List UInt8)) (hx : xs.length ≤ maxLen) (hs : ∀ s ∈ xs, s.length ≤ maxLen) : ∀ (m : Nat) (left k : Int), 0 ≤ left → left ≤ 1048576 → 0 ≤ k → k ≤ (xs.length : Int) → (xs.length : Int) - k < m → 0 < m →
    ∃ v, fixF (M_l_szStringS_L1 xs fun x18 => some x18) m (left, k) = some v ∧ (v = -1 ∨ (0 ≤ v ∧ v ≤ left ∧ ∀ s ∈ xs.drop k.toNat, (s.length : Int) ≤ left)) := by
  have hM' : maxLen ≤ 9223372036854775807 := by decide
  intro m
  induction m with
  | zero => intro left k _ _ _ _ _ h; omega
  | succ m ih =>
    intro left k h0 h1 hk hk' hm _
    simp only [fixF, M_l_szStringS_L1, guardO, Bool.cond_decide]
    by_cases h2 : k < (xs.length : Int)
    · rw [if_pos h2, if_pos ⟨hk, h2⟩]
      have hb := hs (at' xs k) (List.mem_of_getElem? (at_some ⟨hk, h2⟩))
      rw [W_eq (x := left - ((at' xs k).length : Int)) (by omega) (by omega), W_eq (x := k + 1) (by omega) (by omega)]
      by_cases h3 : left - ((at' xs k).length : Int) < 0
      · rw [if_pos h3]; exact ⟨-1, rfl, .inl rfl⟩
      · rw [if_neg h3]
        obtain ⟨v, e, hv⟩ := ih (left - ((at' xs k).length : Int)) (k + 1) (by omega) (by omega) (by omega) (by omega) (by omega) (by omega)
        refine ⟨v, e, ?_⟩
        rcases hv with hv | ⟨g1, g2, g3⟩
        · exact .inl hv
        · refine .inr ⟨g1, by omega, ?_⟩
          rw [drop_at hk h2]
          intro s hs'
          rcases List.mem_cons.1 hs' with rfl | hs'
          · omega
          · have := g3 s hs'; omega
    · rw [if_neg h2]
      exact ⟨left, rfl, .inr ⟨h0, Int.le_refl _, by rw [List.drop_eq_nil_of_le (by omega)]; simp⟩⟩

theorem szStringS_ok (xs : List (List UInt8)) (hx : xs.length ≤ maxLen) (hs : ∀ s ∈ xs, s.length ≤ maxLen) (left : Int) (h0 : 0 ≤ left) (h1 : left ≤ 1048576) :
    ∃ v, M_l_szStringS xs left = some v ∧ (v = -1 ∨ (0 ≤ v ∧ v ≤ left ∧ (xs.length : Int) ≤ left ∧ ∀ s ∈ xs, (s.length : Int) ≤ left)) := by
  have hM' : maxLen ≤ 9223372036854775807 := by decide
  unfold M_l_szStringS
  simp only [Bool.cond_decide, joinO]
  rw [W_eq (x := left - (xs.length : Int)) (by omega) (by omega)]
  by_cases h : left - (xs.length : Int) < 0
  · rw [if_pos h]; exact ⟨-1, rfl, .inl rfl⟩
  · rw [if_neg h]
    obtain ⟨v, e, hv⟩ := szStringS_loop xs hx hs FUEL (left - (xs.length : Int)) 0 (by omega) (by omega) (by omega) (by omega) (by rw [fuel_eq]; omega) (by rw [fuel_eq]; omega)
    refine ⟨v, e, ?_⟩
    rcases hv with hv | ⟨g1, g2, g3⟩
    · exact .inl hv
    · refine .inr ⟨g1, by omega, by omega, fun s hs' => ?_⟩
      have := g3 s (by simpa using hs')
      omega

theorem toStringS_loop (xs : List (List UInt8)) (hl : (xs.length : Int) ≤ 100000000) (j : List (List UInt8) → Option (List (List UInt8))) : ∀ (m : Nat) (ys : List (List UInt8)) (k : Int), 0 ≤ k → k ≤ (xs.length : Int) → ys.length = xs.length → (∀ i : Nat, (i : Int) < k → ys[i]? = xs[i]?) → (xs.length : Int) - k < m → 0 < m →
    fixF (M_l_toStringS_L1 xs j) m (ys, k) = j xs := by
  intro m
  induction m with
  | zero => intro ys k _ _ _ _ h h'; omega
  | succ m ih =>
    intro ys k hk hk' hy hyx hm _
    simp only [fixF, M_l_toStringS_L1, guardO, Bool.cond_decide]
    by_cases h1 : k < (xs.length : Int)
    · have h2 : k < (ys.length : Int) := by omega
      simp only [h1, h2, hk, if_true, and_self]
      rw [W_eq (by omega) (by omega)]
      refine ih _ _ (by omega) (by omega) (by simpa using hy) (fun i hi => ?_) (by omega) (by omega)
      rw [List.getElem?_set]
      by_cases he : k.toNat = i
      · subst he
        rw [if_pos rfl, if_pos (by omega), at_some ⟨hk, h1⟩]
      · rw [if_neg he]
        exact hyx i (by omega)
    · simp only [h1, if_false]
      congr 1
      apply List.ext_getElem?
      intro i
      by_cases hi : (i : Int) < k
      · exact hyx i hi
      · rw [List.getElem?_eq_none (by omega), List.getElem?_eq_none (by omega)]

theorem toStringS_eq (xs : List (List UInt8)) (hl : (xs.length : Int) ≤ 100000000) : M_l_toStringS xs = some xs := by
  unfold M_l_toStringS guardO
  rw [if_pos (by omega)]
  exact toStringS_loop xs hl _ FUEL _ 0 (by omega) (by omega) (by simp) (fun i hi => by omega) (by rw [fuel_eq]; omega) (by rw [fuel_eq]; omega)

theorem eqStringS_loop (xs : List (List UInt8)) (hl : (xs.length : Int) ≤ 100000000) (j : Unit → Option Bool) : ∀ (m : Nat) (k : Int), 0 ≤ k → k ≤ (xs.length : Int) → (xs.length : Int) - k < m → 0 < m → fixF (M_l_eqStringS_L1 xs xs j) m k = j () := by
  intro m
  induction m with
  | zero => intro k _ _ h h'; omega
  | succ m ih =>
    intro k hk hk' hm _
    simp only [fixF, M_l_eqStringS_L1, guardO, Bool.cond_decide]
    by_cases h1 : k < (xs.length : Int)
    · simp only [h1, hk, if_true, and_self, decide_true, Bool.not_true, cond_false]
      rw [W_eq (by omega) (by omega)]
      exact ih _ (by omega) (by omega) (by omega) (by omega)
    · simp only [h1, if_false]

theorem eqStringS_self (xs : List (List UInt8)) (hl : (xs.length : Int) ≤ 100000000) : M_l_eqStringS xs xs = some true := by
  unfold M_l_eqStringS
  simp only [decide_true, Bool.not_true, cond_false]
  exact eqStringS_loop xs hl _ FUEL 0 (by omega) (by omega) (by rw [fuel_eq]; omega) (by rw [fuel_eq]; omega)

/-- A history that is valid. -/
def hOk (h : Int × List (List UInt8)) : Bool := decide (1 ≤ h.1 ∧ h.1 ≤ 1000000000 ∧ (h.2.length : Int) ≤ 60) && h.2.all fun s => decide (1 ≤ (s.length : Int) ∧ (s.length : Int) ≤ 1000)

theorem sHistOk_loop (h : Int × List (List UInt8)) (hl : (h.2.length : Int) ≤ 1048576) (b : Bool) : ∀ (m : Nat) (k : Int), 0 ≤ k → k ≤ (h.2.length : Int) → (h.2.length : Int) - k < m → 0 < m →
    fixF (M_s_HistOk_L1 h fun _ => some b) m k = some (b && (h.2.drop k.toNat).all fun s => decide (1 ≤ (s.length : Int) ∧ (s.length : Int) ≤ 1000)) := by
  intro m
  induction m with
  | zero => intro k _ _ _ h'; omega
  | succ m ih =>
    intro k hk hk' hm _
    simp only [fixF, M_s_HistOk_L1, guardO, Bool.cond_decide]
    by_cases h1 : k < (h.2.length : Int)
    · rw [if_pos h1, if_pos ⟨hk, h1⟩, W_eq (by omega) (by omega), drop_at hk h1, ih _ (by omega) (by omega) (by omega) (by omega), List.all_cons]
      by_cases c1 : ((at' h.2 k).length : Int) < 1
      · have : ¬ (1 ≤ ((at' h.2 k).length : Int) ∧ ((at' h.2 k).length : Int) ≤ 1000) := by omega
        rw [decide_eq_false this]
        simp [c1]
      · by_cases c2 : 1000 < ((at' h.2 k).length : Int)
        · have : ¬ (1 ≤ ((at' h.2 k).length : Int) ∧ ((at' h.2 k).length : Int) ≤ 1000) := by omega
          rw [decide_eq_false this]
          simp [c1, c2]
        · have : (1 ≤ ((at' h.2 k).length : Int) ∧ ((at' h.2 k).length : Int) ≤ 1000) := by omega
          rw [decide_eq_true this]
          simp [c1, c2]
    · rw [if_neg h1, List.drop_eq_nil_of_le (by omega)]
      simp

theorem sHistOk_eq (h : Int × List (List UInt8)) (hl : (h.2.length : Int) ≤ 1048576) : M_s_HistOk h = some (hOk h) := by
  unfold M_s_HistOk
  simp only [joinO]
  rw [sHistOk_loop h hl _ FUEL 0 (by omega) (by omega) (by rw [fuel_eq]; omega) (by rw [fuel_eq]; omega)]
  unfold hOk
  simp only [Int.toNat_zero, List.drop_zero]
  congr 2
  by_cases c1 : 1 ≤ h.1 <;> by_cases c2 : h.1 ≤ 1000000000 <;> by_cases c3 : (h.2.length : Int) ≤ 60 <;> simp [c1, c2, c3]

theorem iHistOk_loop (h : Int × List (List UInt8)) (hl : (h.2.length : Int) ≤ 1048576) : ∀ (m : Nat) (k : Int), 0 ≤ k → k ≤ (h.2.length : Int) → (h.2.length : Int) - k < m → 0 < m →
    fixF (M_i_HistOk_L1 h fun _ => some true) m k = some ((h.2.drop k.toNat).all fun s => decide (1 ≤ (s.length : Int) ∧ (s.length : Int) ≤ 1000)) := by
  intro m
  induction m with
  | zero => intro k _ _ _ h'; omega
  | succ m ih =>
    intro k hk hk' hm _
    simp only [fixF, M_i_HistOk_L1, guardO, Bool.cond_decide, M_i_in, bindO]
    by_cases h1 : k < (h.2.length : Int)
    · rw [if_pos h1, if_pos ⟨hk, h1⟩, W_eq (by omega) (by omega), drop_at hk h1, ih _ (by omega) (by omega) (by omega) (by omega), List.all_cons]
      by_cases c1 : 1 ≤ ((at' h.2 k).length : Int) <;> by_cases c2 : ((at' h.2 k).length : Int) ≤ 1000 <;> simp only [c1, c2, and_self, and_true, and_false, false_and, true_and, decide_true, decide_false, if_true, if_false, Bool.not_true, Bool.not_false, cond_true, cond_false, Bool.true_and, Bool.false_and]
    · rw [if_neg h1, List.drop_eq_nil_of_le (by omega)]
      simp

theorem iHistOk_eq (h : Int × List (List UInt8)) (hl : (h.2.length : Int) ≤ 1048576) : M_i_HistOk h = some (hOk h) := by
  unfold M_i_HistOk M_i_in
  simp only [joinO, bindO, Bool.cond_decide]
  rw [iHistOk_loop h hl FUEL 0 (by omega) (by omega) (by rw [fuel_eq]; omega) (by rw [fuel_eq]; omega)]
  unfold hOk
  simp only [Int.toNat_zero, List.drop_zero]
  by_cases c1 : 1 ≤ h.1 <;> by_cases c2 : h.1 ≤ 1000000000 <;> by_cases c3 : (h.2.length : Int) ≤ 60
  all_goals first
    | (have c4 : ¬ (60 < (h.2.length : Int)) := by omega); simp [c1, c2, c3, c4]
    | (have c4 : 60 < (h.2.length : Int) := by omega); simp [c1, c2, c3, c4]

theorem hOk_spec {h : Int × List (List UInt8)} (hh : hOk h = true) : 1 ≤ h.1 ∧ h.1 ≤ 1000000000 ∧ (h.2.length : Int) ≤ 60 ∧ ∀ s ∈ h.2, 1 ≤ (s.length : Int) ∧ (s.length : Int) ≤ 1000 := by
  unfold hOk at hh
  simp only [Bool.and_eq_true, decide_eq_true_eq, List.all_eq_true] at hh
  exact ⟨hh.1.1, hh.1.2.1, hh.1.2.2, hh.2⟩

/-- The number of the last line. -/
def hLast (h : Int × List (List UInt8)) : Int := if hOk h = true ∧ 0 < h.2.length then h.1 + h.2.length - 1 else 0

theorem histLast_eq (h : Int × List (List UInt8)) (hl : (h.2.length : Int) ≤ 1048576) : M_s_HistLast h = some (hLast h) ∧ M_i_HistLast h = some (hLast h) := by
  unfold M_s_HistLast M_i_HistLast
  rw [bindO_of (sHistOk_eq h hl), bindO_of (iHistOk_eq h hl)]
  unfold hLast
  cases hh : hOk h with
  | false => simp
  | true =>
    obtain ⟨h1, h2, h3, _⟩ := hOk_spec hh
    simp only [Bool.cond_decide, Bool.not_true, cond_false]
    rw [W_eq (x := h.1 + (h.2.length : Int)) (by omega) (by omega), W_eq (by omega) (by omega)]
    by_cases h0 : (h.2.length : Int) = 0
    · have : ¬ (0 < h.2.length) := by omega
      simp [h0, this]
    · have : 0 < h.2.length := by omega
      simp only [h0, this, if_false, and_self, if_true]

def hGet (h : Int × List (List UInt8)) (n : Int) : List UInt8 × Bool := if hOk h = true ∧ h.1 ≤ n ∧ n < h.1 + h.2.length then (at' h.2 (n - h.1), true) else ([], false)

theorem histGet_eq (h : Int × List (List UInt8)) (hl : (h.2.length : Int) ≤ 1048576) (n : Int) (hn : -9223372036854775808 ≤ n ∧ n ≤ 9223372036854775807) : M_s_HistGet h n = some (hGet h n) ∧ M_i_HistGet h n = some (hGet h n) := by
  unfold M_s_HistGet M_i_HistGet
  rw [bindO_of (sHistOk_eq h hl), bindO_of (iHistOk_eq h hl)]
  unfold hGet
  cases hh : hOk h with
  | false => simp [callO, bindO]
  | true =>
    obtain ⟨h1, h2, h3, _⟩ := hOk_spec hh
    simp only [Bool.cond_decide, Bool.not_true, cond_false, callO, if_true, M_i_in, bindO, guardO, true_and]
    rw [W_eq (x := h.1 + (h.2.length : Int)) (by omega) (by omega), W_eq (x := h.1 + (h.2.length : Int) - 1) (by omega) (by omega)]
    by_cases c1 : h.1 ≤ n
    · rw [W_eq (x := n - h.1) (by omega) (by omega)]
      by_cases c2 : n < h.1 + h.2.length
      · have d1 : ¬ (n < h.1) := by omega
        have d2 : ¬ ((h.2.length : Int) ≤ n - h.1) := by omega
        have d3 : n ≤ h.1 + (h.2.length : Int) - 1 := by omega
        have d4 : 0 ≤ n - h.1 ∧ n - h.1 < (h.2.length : Int) := by omega
        simp [c1, c2, d1, d2, d3, d4]
      · have d1 : ¬ (n < h.1) := by omega
        have d2 : ((h.2.length : Int) ≤ n - h.1) := by omega
        have d3 : ¬ (n ≤ h.1 + (h.2.length : Int) - 1) := by omega
        simp [c1, c2, d1, d2, d3]
    · have d1 : n < h.1 := by omega
      simp [c1, d1]

theorem histLast_i (h : Int × List (List UInt8)) (hl : (h.2.length : Int) ≤ 1048576) : M_i_HistLast h = some (hLast h) := by
  unfold M_i_HistLast
  rw [bindO_of (iHistOk_eq h hl)]
  unfold hLast
  cases hh : hOk h with
  | false => simp
  | true =>
    obtain ⟨h1, h2, h3, _⟩ := hOk_spec hh
    simp only [Bool.cond_decide, Bool.not_true, cond_false]
    rw [W_eq (x := h.1 + (h.2.length : Int)) (by omega) (by omega), W_eq (by omega) (by omega)]
    by_cases h0 : (h.2.length : Int) = 0
    · have : ¬ (0 < h.2.length) := by omega
      simp [h0, this]
    · have : 0 < h.2.length := by omega
      simp only [h0, this, if_false, and_self, if_true]

theorem histGet_i (h : Int × List (List UInt8)) (hl : (h.2.length : Int) ≤ 1048576) (n : Int) (hn : -9223372036854775808 ≤ n ∧ n ≤ 9223372036854775807) : M_i_HistGet h n = some (hGet h n) := by
  unfold M_i_HistGet
  rw [bindO_of (iHistOk_eq h hl)]
  unfold hGet
  cases hh : hOk h with
  | false => simp [callO, bindO]
  | true =>
    obtain ⟨h1, h2, h3, _⟩ := hOk_spec hh
    simp only [Bool.cond_decide, Bool.not_true, cond_false, callO, if_true, M_i_in, bindO, guardO, true_and]
    rw [W_eq (x := h.1 + (h.2.length : Int)) (by omega) (by omega), W_eq (x := h.1 + (h.2.length : Int) - 1) (by omega) (by omega)]
    by_cases c1 : h.1 ≤ n
    · rw [W_eq (x := n - h.1) (by omega) (by omega)]
      by_cases c2 : n < h.1 + h.2.length
      · have d3 : n ≤ h.1 + (h.2.length : Int) - 1 := by omega
        have d4 : 0 ≤ n - h.1 ∧ n - h.1 < (h.2.length : Int) := by omega
        simp [c1, c2, d3, d4]
      · have d3 : ¬ (n ≤ h.1 + (h.2.length : Int) - 1) := by omega
        simp [c1, c2, d3]
    · simp [c1]

theorem occ_subL (s sub : List UInt8) (i : Nat) (h : i + sub.length ≤ s.length) : Lib.occAt s sub i = decide (sub' s (i : Int) ((i : Int) + (sub.length : Int)) = sub) := by
  have e : sub' s (i : Int) ((i : Int) + (sub.length : Int)) = (s.drop i).take sub.length := by
    unfold sub'
    have h1 : ((i : Int) + (sub.length : Int)).toNat - ((i : Int)).toNat = sub.length := by omega
    rw [h1]; rfl
  rw [e]
  unfold Lib.occAt
  cases hp : sub.isPrefixOf (s.drop i) with
  | true =>
    have := List.isPrefixOf_iff_prefix.1 hp
    rw [decide_eq_true (List.prefix_iff_eq_take.1 this).symm]
  | false =>
    rw [decide_eq_false]
    intro h
    have : sub <+: s.drop i := List.prefix_iff_eq_take.2 h.symm
    rw [List.isPrefixOf_iff_prefix.2 this] at hp; cases hp

/-- What lies behind the last place, or an empty needle. -/
theorem index_none' {s sub : List UInt8} {i : Nat} (h : Lib.NoOcc s sub i) (hi : s.length < i + sub.length) (hn : i ≤ s.length + 1) : Lib.index s sub = -1 := by
  by_cases hz : sub = []
  · subst hz
    have h0 := h 0 (by simp at hi; omega)
    simp [Lib.occAt] at h0
  · exact Lib.index_past hz h hi

def upto (t : List UInt8) : List UInt8 := t.takeWhile fun b => !decide (b = 94)

theorem upto_nil : upto [] = [] := rfl
theorem upto_cons (b : UInt8) (t : List UInt8) : upto (b :: t) = if b = 94 then [] else b :: upto t := by
  unfold upto
  rw [List.takeWhile_cons]
  by_cases h : b = 94 <;> simp [h]
theorem upto_le : ∀ t : List UInt8, (upto t).length ≤ t.length
  | [] => Nat.le_refl _
  | b :: t => by
    have := upto_le t
    rw [upto_cons]
    split <;> simp only [List.length_cons, List.length_nil] <;> omega

theorem upto_take : ∀ t : List UInt8, t.take (upto t).length = upto t
  | [] => rfl
  | b :: t => by
    have := upto_take t
    rw [upto_cons]
    by_cases h : b = 94
    · rw [if_pos h]; rfl
    · rw [if_neg h, List.length_cons, List.take_succ_cons, this]

theorem idx94 (t : List UInt8) : Lib.index t [94] = Lib.indexByte t 94 := index1 t 94

theorem upto_idx : ∀ t : List UInt8, (Lib.index t [94] = -1 ∧ upto t = t) ∨ (∃ i : Nat, Lib.index t [94] = i ∧ i < t.length ∧ upto t = t.take i)
  | [] => .inl ⟨rfl, rfl⟩
  | b :: t => by
    rw [idx94]
    unfold Lib.indexByte
    rw [upto_cons]
    by_cases h : b = 94
    · subst h
      exact .inr ⟨0, by simp, by simp, by simp⟩
    · have hb : (b == 94) = false := by simpa using h
      rw [hb, if_neg (by simp), if_neg h]
      have ih := upto_idx t
      rw [idx94] at ih
      rcases ih with ⟨h1, h2⟩ | ⟨i, h1, h2, h3⟩
      · exact .inl ⟨by rw [h1]; rfl, by rw [h2]⟩
      · refine .inr ⟨i + 1, ?_, by simp; omega, by rw [h3]; simp⟩
        rw [h1, if_neg (by simp)]
        rfl

/-- The parts at the first k carets. -/
def splitL : Nat → List UInt8 → List (List UInt8)
  | 0, s => [s]
  | k + 1, s => if Lib.index s [94] < 0 then [s] else s.take (Lib.index s [94]).toNat :: splitL k (s.drop ((Lib.index s [94]).toNat + 1))

theorem splitL_fuel : ∀ (k k' : Nat) (s : List UInt8), s.length ≤ k → s.length ≤ k' → splitL k s = splitL k' s
  | 0, 0, _, _, _ => rfl
  | 0, k' + 1, s, h, _ => by
    have hs : s = [] := List.length_eq_zero_iff.1 (by omega)
    subst hs
    simp only [splitL]
    rw [if_pos (by decide)]
  | k + 1, 0, s, _, h => by
    have hs : s = [] := List.length_eq_zero_iff.1 (by omega)
    subst hs
    simp only [splitL]
    rw [if_pos (by decide)]
  | k + 1, k' + 1, s, h, h' => by
    simp only [splitL]
    by_cases c : Lib.index s [94] < 0
    · rw [if_pos c, if_pos c]
    · rw [if_neg c, if_neg c]
      rcases upto_idx s with ⟨h1, _⟩ | ⟨i, h1, h2, _⟩
      · omega
      · rw [splitL_fuel k k' _ (by rw [List.length_drop]; omega) (by rw [List.length_drop]; omega)]

theorem idx_call (s p : List UInt8) (h : (s.length : Int) ≤ 1048576) : M_strings_Index s p = some (Lib.index s p) := by
  unfold M_strings_Index guardO
  exact if_pos (by omega)

theorem set_take {α : Type} (l : List α) (i : Nat) (x : α) (h : i < l.length) : (l.set i x).take (i + 1) = l.take i ++ [x] := by
  apply List.ext_getElem?
  intro j
  by_cases hj : j < i
  · rw [List.getElem?_take_of_lt (by omega), List.getElem?_set_ne (by omega), List.getElem?_append_left (by rw [List.length_take]; omega), List.getElem?_take_of_lt hj]
  · by_cases hj' : j = i
    · subst hj'
      rw [List.getElem?_take_of_lt (by omega), List.getElem?_set_self h, List.getElem?_append_right (by rw [List.length_take]; omega), List.length_take]
      have : j - min j l.length = 0 := by omega
      rw [this]; rfl
    · rw [List.getElem?_eq_none (by rw [List.length_take]; omega), List.getElem?_eq_none (by rw [List.length_append, List.length_take]; simp; omega)]

theorem genLoop (x0 : List UInt8) (hx : (x0.length : Int) ≤ 1048576) (N : Nat) (hN : (N : Int) = min 4 ((x0.length : Int) + 1)) (j : List UInt8 × List (List UInt8) × Int → Option (List (List UInt8)))
    (hj : ∀ (r : List UInt8) (l : List (List UInt8)) (i : Nat), l.length = N → i < N → j (r, l, (i : Int)) = some (l.take i ++ [r])) :
    ∀ (m k i : Nat) (r : List UInt8) (l : List (List UInt8)), l.length = N → i + k + 1 = N → k < m → r.length ≤ x0.length →
    fixF (M_strings_genSplit_L1 x0 [94] 0 4 j) m (r, l, (i : Int)) = some (l.take i ++ splitL k r) := by
  intro m
  induction m with
  | zero => intro k i r l _ _ h _; omega
  | succ m ih =>
    intro k i r l hl hk hm hr
    simp only [fixF, M_strings_genSplit_L1, guardO, Bool.cond_decide]
    rw [W_eq (x := (x0.length : Int) + 1) (by omega) (by omega), ← hN, W_eq (x := (N : Int) - 1) (by omega) (by omega)]
    cases k with
    | zero =>
      rw [if_neg (by omega), hj r l i hl (by omega)]
      rfl
    | succ k =>
      rw [if_pos (by omega), bindO_of (idx_call r [94] (by omega))]
      simp only [splitL]
      rcases upto_idx r with ⟨h1, _⟩ | ⟨q, h1, h2, _⟩
      · rw [h1, if_pos (by omega), hj r l i hl (by omega), if_pos (by omega)]
      · have hq : ¬ ((q : Int) < 0) := by omega
        simp only [h1, hq, if_false]
        have e1 : ([94] : List UInt8).length = 1 := rfl
        rw [W_eq (x := (q : Int) + 0) (by omega) (by omega), e1, W_eq (x := (q : Int) + ((1 : Nat) : Int)) (by omega) (by omega), W_eq (x := (i : Int) + 1) (by omega) (by omega)]
        rw [if_pos (by omega), if_pos (by omega), if_pos (by omega)]
        have s1 : sub' r ((q : Int) + ((1 : Nat) : Int)) (r.length : Int) = r.drop (q + 1) := by
          unfold sub'
          have a1 : ((q : Int) + ((1 : Nat) : Int)).toNat = q + 1 := by omega
          have a2 : ((r.length : Int)).toNat = r.length := by omega
          rw [a1, a2, List.take_of_length_le (by rw [List.length_drop]; omega)]
        have s2 : sub' r 0 ((q : Int) + 0) = r.take q := by
          unfold sub'
          have a1 : ((q : Int) + 0).toNat = q := by omega
          rw [a1]; simp
        have ei : ((i : Int)).toNat = i := by omega
        have ei1 : (i : Int) + 1 = ((i + 1 : Nat) : Int) := by omega
        rw [s1, s2, ei, ei1, ih k (i + 1) (r.drop (q + 1)) (l.set i (r.take q)) (by simp [hl]) (by omega) (by omega) (by rw [List.length_drop]; omega), set_take l i _ (by omega)]
        have eq : ((q : Int)).toNat = q := by omega
        rw [eq, List.append_assoc]
        rfl

theorem split_eq (s : List UInt8) (hs : (s.length : Int) ≤ 1048576) : M_strings_SplitN s [94] 4 = some (splitL 3 s) := by
  unfold M_strings_SplitN M_strings_genSplit
  have a1 : decide ((4 : Int) = 0) = false := by decide
  have a2 : decide (([94] : List UInt8) = []) = false := by decide
  have a3 : decide ((4 : Int) < 0) = false := by decide
  simp only [a1, a2, a3, cond_false, joinO, guardO]
  rw [W_eq (x := (s.length : Int) + 1) (by omega) (by omega), if_pos (by omega)]
  obtain ⟨N, hN⟩ : ∃ N : Nat, (N : Int) = min 4 ((s.length : Int) + 1) := ⟨(min 4 ((s.length : Int) + 1)).toNat, by omega⟩
  have eN : (min 4 ((s.length : Int) + 1)).toNat = N := by omega
  rw [eN]
  have hg := genLoop s hs N hN (fun (x35, x36, x39) => if 0 ≤ x39 ∧ x39 < (x36.length : Int) then (if 0 ≤ (0 : Int) ∧ (0 : Int) ≤ (W (x39 + 1)) ∧ (W (x39 + 1)) ≤ ((List.set x36 (Int.toNat x39) x35).length : Int) then some (sub' (List.set x36 (Int.toNat x39) x35) 0 (W (x39 + 1))) else none) else none)
    (by
      intro r l i hl hi
      simp only
      rw [W_eq (x := (i : Int) + 1) (by omega) (by omega), if_pos (by omega), if_pos (by simp; omega)]
      have ei : ((i : Int)).toNat = i := by omega
      have ei1 : ((i : Int) + 1).toNat = i + 1 := by omega
      unfold sub'
      rw [ei, ei1]
      simp only [Int.toNat_zero, List.drop_zero, Nat.sub_zero]
      rw [set_take l i r (by omega)])
    FUEL (N - 1) 0 s (List.replicate N []) (by simp) (by omega) (by rw [fuel_eq]; omega) (Nat.le_refl _)
  refine (bindO_of (y := splitL 3 s) ?_).trans rfl
  refine hg.trans ?_
  simp only [List.take_zero, List.nil_append]
  by_cases h3 : 3 ≤ s.length
  · have : N - 1 = 3 := by omega
    rw [this]
  · rw [splitL_fuel (N - 1) 3 s (by omega) (by omega)]

theorem until_s (s : List UInt8) (hs : (s.length : Int) ≤ 1048576) (a : Int) (h0 : 0 ≤ a) (h1 : a ≤ (s.length : Int)) : M_s_l20Until s a = some (upto (s.drop a.toNat)) := by
  unfold M_s_l20Until
  simp only [joinO]
  have go : ∀ (j : Int → Option (List UInt8)) (m : Nat) (k : Int), a ≤ k → k ≤ (s.length : Int) → (s.length : Int) - k < m →
      fixF (M_s_l20Until_L1 s j) m k = j (k + ((upto (s.drop k.toNat)).length : Int)) := by
    intro j m
    induction m with
    | zero => intro k _ _ h; omega
    | succ m ih =>
      intro k hk hk' hm
      simp only [fixF, M_s_l20Until_L1, guardO]
      by_cases c : k < (s.length : Int)
      · rw [if_pos (fun _ => ⟨by omega, c⟩), decide_eq_true c, drop_at (by omega) c, upto_cons]
        by_cases hb : at' s k = 94
        · rw [if_pos hb, hb]
          simp only [cond_true]
          rw [show (!decide ((((94 : UInt8).toNat : Nat) : Int) = (94 : Int))) = false by decide, cond_false]
          simp
        · have hb' : ¬ (((at' s k).toNat : Int) = (94 : Int)) := fun h => hb (UInt8.toNat_inj.1 (by
            have : ((94 : UInt8)).toNat = 94 := rfl
            omega))
          rw [if_neg hb]
          simp only [cond_true]
          rw [decide_eq_false hb', Bool.not_false, cond_true, W_eq (by omega) (by omega), ih (k + 1) (by omega) (by omega) (by omega)]
          congr 1
          simp only [List.length_cons]
          omega
      · rw [if_pos (fun h => absurd (of_decide_eq_true h) c), decide_eq_false c, cond_false, cond_false, List.drop_eq_nil_of_le (by omega), upto_nil]
        simp
  have hle := upto_le (s.drop a.toNat)
  rw [List.length_drop] at hle
  rw [go _ FUEL a (Int.le_refl _) h1 (by rw [fuel_eq]; omega)]
  unfold guardO
  rw [if_pos (by omega)]
  congr 1
  unfold sub'
  have e : (a + ((upto (s.drop a.toNat)).length : Int)).toNat - a.toNat = (upto (s.drop a.toNat)).length := by omega
  rw [e, upto_take]

theorem contains_eq (s p : List UInt8) (hs : (s.length : Int) ≤ 1048576) : M_strings_Contains s p = some (decide (0 ≤ Lib.index s p)) := by
  have : M_strings_Index s p = some (Lib.index s p) := by
    unfold M_strings_Index
    unfold guardO
    exact if_pos (by omega)
  unfold M_strings_Contains
  rw [bindO_of this]

theorem toHist_eq (h : Int × List (List UInt8)) (hl : (h.2.length : Int) ≤ 100000000) : M_l_toHist h = some h := by
  unfold M_l_toHist; rw [bindO_of (toStringS_eq h.2 hl)]
theorem eqHist_self (h : Int × List (List UInt8)) (hl : (h.2.length : Int) ≤ 100000000) : M_l_eqHist h h = some true := by
  unfold M_l_eqHist; rw [bindO_of (eqStringS_self h.2 hl)]; simp
theorem szHist_ok (h : Int × List (List UInt8)) (wh : WfT (.pair (.int .i64) (.sl .str)) h) (left : Int) (h0 : 0 ≤ left) (h1 : left ≤ 1048576) :
    ∃ v, M_l_szHist h left = some v ∧ (v = -1 ∨ (0 ≤ v ∧ v ≤ left ∧ (h.2.length : Int) ≤ 1048576 ∧ ∀ s ∈ h.2, (s.length : Int) ≤ 1048576)) := by
  obtain ⟨w1, w2, w3⟩ := wh
  obtain ⟨v, e, hv⟩ := szStringS_ok h.2 w2 w3 left h0 h1
  unfold M_l_szHist
  rw [bindO_of e]
  rcases hv with rfl | ⟨v0, v1, v2, v3⟩
  · exact ⟨-1, rfl, .inl rfl⟩
  · have nv : ¬ (v < 0) := by omega
    exact ⟨v, by simp [nv], .inr ⟨v0, v1, by omega, fun s hs => by have := v3 s hs; omega⟩⟩
theorem bindO_tr {α β : Type} {m : Option α} {k : α → Option β} {y : α} {z : Option β} (h : m = some y) (hk : k y = z) : bindO m k = z := (bindO_of h).trans hk

/-- What the parts a, b, z of a text make of a line. -/
def caretP (line a b z : List UInt8) : List UInt8 × Int :=
  if Lib.index line a < 0 then ([], 3)
  else if 1000 < (line.take (Lib.index line a).toNat ++ b ++ line.drop ((Lib.index line a).toNat + a.length) ++ z).length then ([], 4)
  else (line.take (Lib.index line a).toNat ++ b ++ line.drop ((Lib.index line a).toNat + a.length) ++ z, 0)

def caretT (line t : List UInt8) : List UInt8 × Int :=
  if upto t = [] ∨ t.length ≤ (upto t).length then ([], 2)
  else caretP line (upto t) (upto (t.drop ((upto t).length + 1))) ((t.drop ((upto t).length + 1)).drop ((upto (t.drop ((upto t).length + 1))).length + 1))

def caretL (line : List UInt8) : List UInt8 → List UInt8 × Int
  | [] => ([], 2)
  | c :: t => if c = 94 then caretT line t else ([], 2)

def caretR (h : Int × List (List UInt8)) (s : List UInt8) : List UInt8 × Int :=
  if (hGet h (hLast h)).2 = false then ([], 1) else caretL (hGet h (hLast h)).1 s

theorem hGet_len2 (h : Int × List (List UInt8)) (n : Int) : ((hGet h n).1.length : Int) ≤ 1000 := by
  unfold hGet
  by_cases c : hOk h = true ∧ h.1 ≤ n ∧ n < h.1 + h.2.length
  · rw [if_pos c]
    obtain ⟨h1, h2, h3, h4⟩ := hOk_spec c.1
    have := h4 (at' h.2 (n - h.1)) (List.mem_of_getElem? (at_some ⟨by omega, by omega⟩))
    simp only; omega
  · rw [if_neg c]; simp

theorem hLast_b2 (h : Int × List (List UInt8)) : 0 ≤ hLast h ∧ hLast h ≤ 2000000000 := by
  unfold hLast
  split
  · rename_i c
    obtain ⟨h1, h2, h3, _⟩ := hOk_spec c.1
    omega
  · omega

theorem rep_one (line a b : List UInt8) (ha : ¬ a = []) (i : Nat) (hi : Lib.index line a = i) : Lib.replace line a b 1 = line.take i ++ b ++ line.drop (i + a.length) := by
  unfold Lib.replace
  have hc := Lib.count_hit ha hi
  have hk : Lib.replaceNum line a 1 = 1 := by
    unfold Lib.replaceNum
    rw [if_neg (by omega)]
    rfl
  have hocc : line.take i ++ a ++ line.drop (i + a.length) = line := by
    rcases Lib.index_spec line a with ⟨h1, _⟩ | ⟨j, h1, h2, h3, _⟩
    · omega
    · have : j = i := by omega
      subst this
      unfold Lib.occAt at h3
      obtain ⟨r, hr⟩ := List.isPrefixOf_iff_prefix.1 h3
      have hd : line.drop (j + a.length) = r := by
        rw [← List.drop_drop, ← hr, List.drop_left' rfl]
      rw [hd, List.append_assoc, hr, List.take_append_drop]
  by_cases hab : a = b
  · subst hab
    rw [if_pos (by simp), hocc]
  · rw [if_neg (by simpa using hab), hk, Lib.replaceK_hit a b 0 line i hi]
    rfl

theorem caretLoop_s (line a b z : List UInt8) (hl : (line.length : Int) ≤ 1000) (ha : (a.length : Int) ≤ 1048576) (hb : (b.length : Int) ≤ 1048576) (hz : (z.length : Int) ≤ 1048576) : fixF (M_s_Caret_L1 line a b z fun _ => some ([], 3)) FUEL 0 = some (caretP line a b z) := by
  have go : ∀ (m i : Nat), i ≤ line.length + 1 → line.length + 1 - i < m → Lib.NoOcc line a i → fixF (M_s_Caret_L1 line a b z fun _ => some ([], 3)) m (i : Int) = some (caretP line a b z) := by
    intro m
    induction m with
    | zero => intro i _ h _; omega
    | succ m ih =>
      intro i hi hm hno
      simp only [fixF, M_s_Caret_L1, guardO, Bool.cond_decide]
      rw [W_eq (x := (i : Int) + (a.length : Int)) (by omega) (by omega)]
      by_cases h1 : (i : Int) + (a.length : Int) ≤ (line.length : Int)
      · rw [if_pos h1, if_pos (by omega)]
        have ho := occ_subL line a i (by omega)
        by_cases h2 : sub' line (i : Int) ((i : Int) + (a.length : Int)) = a
        · have e := Lib.index_hit hno (by omega) (by rw [ho, decide_eq_true h2])
          have ei : ((i : Int)).toNat = i := by omega
          have hP : caretP line a b z = if 1000 < (line.take i ++ b ++ line.drop (i + a.length) ++ z).length then ([], 4) else (line.take i ++ b ++ line.drop (i + a.length) ++ z, 0) := by
            unfold caretP
            rw [e, if_neg (by omega), ei]
          rw [if_pos h2, hP]
          have s1 : sub' line 0 (i : Int) = line.take i := by unfold sub'; simp
          have s2 : sub' line ((i : Int) + (a.length : Int)) (line.length : Int) = line.drop (i + a.length) := by
            unfold sub'
            have a1 : ((i : Int) + (a.length : Int)).toNat = i + a.length := by omega
            have a2 : ((line.length : Int)).toNat = line.length := by omega
            rw [a1, a2, List.take_of_length_le (by rw [List.length_drop]; omega)]
          rw [s1, s2]
          have hlen : (line.take i ++ b ++ line.drop (i + a.length) ++ z).length = line.length - a.length + b.length + z.length := by
            simp only [List.length_append, List.length_take, List.length_drop]; omega
          rw [W_eq (x := 1000 - (z.length : Int)) (by omega) (by omega), W_eq (x := (line.length : Int) - (a.length : Int)) (by omega) (by omega), W_eq (x := (line.length : Int) - (a.length : Int) + (b.length : Int)) (by omega) (by omega)]
          by_cases h3 : 1000 < (line.take i ++ b ++ line.drop (i + a.length) ++ z).length
          · rw [if_pos h3, if_pos (by omega)]
          · rw [if_neg h3, if_neg (by omega)]
            simp only [List.length_append, List.length_take, List.length_drop] at hlen h3 ⊢
            rw [if_pos (by omega), if_pos (by omega), if_pos (by omega), if_pos (by omega), if_pos (by omega)]
        · rw [if_neg h2, W_eq (by omega) (by omega)]
          have := ih (i + 1) (by omega) (by omega) (Lib.NoOcc.succ hno (by rw [ho, decide_eq_false h2]))
          rw [← this]; congr 1
      · have e := index_none' hno (by omega) hi
        have hP : caretP line a b z = ([], 3) := by
          unfold caretP
          rw [e, if_pos (by omega)]
        rw [if_neg h1, hP]
  exact go FUEL 0 (by omega) (by rw [fuel_eq]; omega) (Lib.NoOcc.zero line a)

section
variable (h : Int × List (List UInt8)) (hh : (h.2.length : Int) ≤ 1048576) (s : List UInt8) (hs : (s.length : Int) ≤ 1048576)
include hh hs

theorem caret_i : M_i_Caret h s = some (caretR h s) := by
  unfold M_i_Caret caretR
  have hb := hLast_b2 h
  have hgl := hGet_len2 h (hLast h)
  rw [bindO_of (histLast_i h hh), bindO_of (histGet_i h hh (hLast h) (by omega))]
  generalize hGet h (hLast h) = g at hgl ⊢
  obtain ⟨line, ok⟩ := g
  cases ok with
  | false => rfl
  | true =>
    simp only at hgl ⊢
    simp only [Bool.not_true, cond_false, Bool.true_eq_false, if_false]
    have sp : ∀ p, splitL 3 s = p → M_strings_SplitN s [94] 4 = some p := fun p hp => (split_eq s hs).trans (congrArg some hp)
    cases s with
    | nil => rw [bindO_of (sp [[]] rfl)]; rfl
    | cons c t =>
      have hlen : ((c :: t).length : Int) = (t.length : Int) + 1 := by simp
      unfold caretL
      by_cases hc : c = 94
      · subst hc
        have e0 : Lib.index (94 :: t) [94] = 0 := by rw [idx94]; unfold Lib.indexByte; simp
        have sp1 : splitL 3 (94 :: t) = [] :: splitL 2 t := by
          simp only [splitL]
          rw [e0, if_neg (by omega)]
          simp
        have ht : (t.length : Int) ≤ 1048576 := by omega
        simp only [if_true]
        unfold caretT
        rcases upto_idx t with ⟨h1, h2⟩ | ⟨i, h1, h2, h3⟩
        · have sp2 : splitL 2 t = [t] := by
            simp only [splitL]
            rw [h1, if_pos (by omega)]
          rw [bindO_of (sp [[], t] (by rw [sp1, sp2])), h2, if_pos (Or.inr (Nat.le_refl _))]
          simp [guardO]
        · have hi : ¬ ((i : Int) < 0) := by omega
          have ei : ((i : Int)).toNat = i := by omega
          have hlen : (upto t).length = i := by rw [h3, List.length_take]; omega
          have sp2 : splitL 2 t = upto t :: splitL 1 (t.drop (i + 1)) := by
            simp only [splitL]
            rw [h1, if_neg hi, ei, ← h3]
          -- what the last parts are
          obtain ⟨b, r, sp3, hbe, hre⟩ : ∃ b r, splitL 1 (t.drop (i + 1)) = b :: r ∧ b = upto (t.drop (i + 1)) ∧ ((r = [] ∧ (t.drop (i + 1)).drop (b.length + 1) = []) ∨ (∃ z, r = [z] ∧ (t.drop (i + 1)).drop (b.length + 1) = z)) := by
            rcases upto_idx (t.drop (i + 1)) with ⟨k1, k2⟩ | ⟨q, k1, k2, k3⟩
            · refine ⟨t.drop (i + 1), [], ?_, k2.symm, .inl ⟨rfl, List.drop_eq_nil_of_le (by omega)⟩⟩
              simp only [splitL]
              rw [k1, if_pos (by omega)]
            · have hq : ¬ ((q : Int) < 0) := by omega
              have eq : ((q : Int)).toNat = q := by omega
              refine ⟨upto (t.drop (i + 1)), [(t.drop (i + 1)).drop (q + 1)], ?_, rfl, .inr ⟨_, rfl, ?_⟩⟩
              · simp only [splitL]
                rw [k1, if_neg hq, eq, ← k3]
              · have : (upto (t.drop (i + 1))).length = q := by rw [k3, List.length_take]; omega
                rw [this]
          rw [bindO_of (sp ([] :: upto t :: b :: r) (by rw [sp1, sp2, sp3])), hlen, ← hbe]
          have hb1 : b.length ≤ 1048576 := by
            have := upto_le (t.drop (i + 1))
            rw [← hbe, List.length_drop] at this
            omega
          have hdl : ((t.drop (i + 1)).drop (b.length + 1)).length ≤ 1048576 := by simp only [List.length_drop]; omega
          generalize hu : upto t = a at hlen ⊢
          generalize hz : (t.drop (i + 1)).drop (b.length + 1) = z at hre hdl ⊢
          have hl3 : ¬ (([] :: a :: b :: r : List (List UInt8)).length : Int) < 3 := by simp; omega
          have a0 : at' ([] :: a :: b :: r : List (List UInt8)) 0 = [] := rfl
          have a1 : at' ([] :: a :: b :: r : List (List UInt8)) 1 = a := rfl
          have a2 : at' ([] :: a :: b :: r : List (List UInt8)) 2 = b := rfl
          have g0 : (0 : Int) ≤ 0 ∧ (0 : Int) < (([] :: a :: b :: r : List (List UInt8)).length : Int) := by simp; omega
          have g1 : (0 : Int) ≤ 1 ∧ (1 : Int) < (([] :: a :: b :: r : List (List UInt8)).length : Int) := by simp; omega
          have g2 : (0 : Int) ≤ 2 ∧ (2 : Int) < (([] :: a :: b :: r : List (List UInt8)).length : Int) := by simp; omega
          unfold guardO
          rw [if_pos (fun _ => g0), if_pos (fun _ => g1), decide_eq_false hl3, a0, a1, a2]
          by_cases hae : a = []
          · rw [show (if a = [] ∨ t.length ≤ i then (([] : List UInt8), (2 : Int)) else caretP line a b z) = ([], 2) from if_pos (Or.inl hae), decide_eq_true hae]
            rfl
          · rw [show (if a = [] ∨ t.length ≤ i then (([] : List UInt8), (2 : Int)) else caretP line a b z) = caretP line a b z from if_neg (fun x => x.elim hae (fun y => by omega)), decide_eq_false hae]
            simp only [decide_true, Bool.not_true, cond_false]
            rw [if_pos g1, bindO_of (contains_eq line a (by omega))]
            unfold caretP
            by_cases hx : 0 ≤ Lib.index line a
            · have hcn : M_strings_Replace line a b 1 = some (line.take (Lib.index line a).toNat ++ b ++ line.drop ((Lib.index line a).toNat + a.length)) := by
                unfold M_strings_Replace guardO
                have hcl := Lib.count_le line a
                have hal : 1 ≤ a.length := by
                  cases a with
                  | nil => exact absurd rfl hae
                  | cons _ _ => simp
                have hmul : Lib.count line a * b.length ≤ 1001 * 1048576 := Nat.mul_le_mul (by omega) hb1
                rw [if_pos ⟨by omega, hal, by omega⟩, rep_one line a b hae (Lib.index line a).toNat (by omega)]
              rw [decide_eq_true hx, show (if Lib.index line a < 0 then (([] : List UInt8), (3 : Int)) else if 1000 < (line.take (Lib.index line a).toNat ++ b ++ line.drop ((Lib.index line a).toNat + a.length) ++ z).length then ([], 4) else (line.take (Lib.index line a).toNat ++ b ++ line.drop ((Lib.index line a).toNat + a.length) ++ z, 0)) = if 1000 < (line.take (Lib.index line a).toNat ++ b ++ line.drop ((Lib.index line a).toNat + a.length) ++ z).length then ([], 4) else (line.take (Lib.index line a).toNat ++ b ++ line.drop ((Lib.index line a).toNat + a.length) ++ z, 0) from if_neg (by omega)]
              simp only [Bool.not_true, cond_false]
              rw [if_pos g1, if_pos g2, bindO_of hcn]
              have hol : (line.take (Lib.index line a).toNat ++ b ++ line.drop ((Lib.index line a).toNat + a.length)).length ≤ 3000000 := by
                simp only [List.length_append, List.length_take, List.length_drop]; omega
              generalize line.take (Lib.index line a).toNat ++ b ++ line.drop ((Lib.index line a).toNat + a.length) = o at hol ⊢
              simp only [joinO]
              have fin : ∀ x : List UInt8, (bif decide ((1000 : Int) < (x.length : Int)) then some (([] : List UInt8), (4 : Int)) else some (x, 0)) = some (if 1000 < x.length then (([] : List UInt8), (4 : Int)) else (x, 0)) := by
                intro x
                by_cases c : 1000 < x.length
                · rw [decide_eq_true (by omega), if_pos c]; rfl
                · rw [decide_eq_false (by omega), if_neg c]; rfl
              rcases hre with ⟨r1, r2⟩ | ⟨z', r1, r2⟩
              · subst r1
                have : z = [] := by first | exact r2 | (subst r2; rfl)
                subst this
                rw [show decide ((([[], a, b] : List (List UInt8)).length : Int) = 4) = false by simp, cond_false, fin, List.append_nil]
              · subst r1
                have : z = z' := by first | exact r2 | (subst r2; rfl)
                subst this
                have a3 : at' ([[], a, b, z] : List (List UInt8)) 3 = z := rfl
                rw [show decide ((([[], a, b, z] : List (List UInt8)).length : Int) = 4) = true by simp, cond_true, a3, if_pos (by simp), if_pos (by omega), fin]
            · rw [decide_eq_false hx, show (if Lib.index line a < 0 then (([] : List UInt8), (3 : Int)) else if 1000 < (line.take (Lib.index line a).toNat ++ b ++ line.drop ((Lib.index line a).toNat + a.length) ++ z).length then ([], 4) else (line.take (Lib.index line a).toNat ++ b ++ line.drop ((Lib.index line a).toNat + a.length) ++ z, 0)) = ([], 3) from if_pos (by omega)]
              rfl
      · simp only [hc, if_false]
        have hu : upto (c :: t) = c :: upto t := by rw [upto_cons, if_neg hc]
        rcases upto_idx (c :: t) with ⟨h1, h2⟩ | ⟨i, h1, h2, h3⟩
        · have sp1 : splitL 3 (c :: t) = [c :: t] := by
            simp only [splitL]
            rw [h1, if_pos (by omega)]
          rw [bindO_of (sp _ sp1)]
          simp [guardO]
        · have hi : ¬ ((i : Int) < 0) := by omega
          have sp1 : splitL 3 (c :: t) = (c :: upto t) :: splitL 2 ((c :: t).drop (((i : Int)).toNat + 1)) := by
            simp only [splitL]
            rw [h1, if_neg hi, ← hu, h3]
            rfl
          rw [bindO_of (sp _ sp1)]
          generalize splitL 2 ((c :: t).drop (((i : Int)).toNat + 1)) = r
          have a0 : at' ((c :: upto t) :: r) 0 = c :: upto t := rfl
          have hne : decide ((c :: upto t) = ([] : List UInt8)) = false := by simp
          unfold guardO
          rw [a0, hne, if_pos (fun _ => ⟨by omega, by simp⟩), if_pos (fun x => by
            cases hd : decide ((((c :: upto t) :: r).length : Int) < 3) <;> rw [hd] at x <;> cases x)]
          cases decide ((((c :: upto t) :: r).length : Int) < 3) <;> rfl

theorem caret_s : M_s_Caret h s = some (caretR h s) := by
  unfold M_s_Caret caretR
  have hb := hLast_b2 h
  have hgl := hGet_len2 h (hLast h)
  rw [bindO_of (histLast_eq h hh).1, bindO_of (histGet_eq h hh (hLast h) (by omega)).1]
  generalize hGet h (hLast h) = g at hgl ⊢
  obtain ⟨line, ok⟩ := g
  cases ok with
  | false => rfl
  | true =>
    simp only at hgl ⊢
    simp only [Bool.not_true, cond_false, Bool.true_eq_false, if_false]
    cases s with
    | nil => rfl
    | cons c t =>
      have hlen : ((c :: t).length : Int) = (t.length : Int) + 1 := by simp
      have a0 : at' (c :: t) 0 = c := rfl
      have hz0 : ¬ (((c :: t).length : Int) = 0) := by omega
      unfold caretL
      unfold guardO
      rw [if_pos (fun _ => ⟨by omega, by omega⟩), a0, decide_eq_false hz0]
      by_cases hc : c = 94
      · subst hc
        simp only [if_true, cond_false]
        rw [show (!decide ((((94 : UInt8).toNat : Nat) : Int) = (94 : Int))) = false by decide, cond_false, bindO_of (until_s (94 :: t) hs 1 (by omega) (by omega))]
        have d1 : (94 :: t).drop ((1 : Int)).toNat = t := rfl
        rw [d1]
        unfold caretT
        have hul := upto_le t
        rw [W_eq (x := ((upto t).length : Int) + 1) (by omega) (by omega)]
        by_cases hae : upto t = []
        · rw [if_pos (Or.inl hae), decide_eq_true hae]; rfl
        · by_cases hlt : t.length ≤ (upto t).length
          · rw [if_pos (Or.inr hlt), decide_eq_false hae, decide_eq_true (show ((94 :: t).length : Int) ≤ ((upto t).length : Int) + 1 by omega)]; rfl
          · rw [if_neg (fun x => x.elim hae hlt), decide_eq_false hae, decide_eq_false (show ¬ (((94 :: t).length : Int) ≤ ((upto t).length : Int) + 1) by omega)]
            simp only [cond_false]
            rw [W_eq (x := ((upto t).length : Int) + 2) (by omega) (by omega), bindO_of (until_s (94 :: t) hs _ (by omega) (by omega))]
            have d2 : (94 :: t).drop (((upto t).length : Int) + 2).toNat = t.drop ((upto t).length + 1) := by
              have : (((upto t).length : Int) + 2).toNat = ((upto t).length + 1) + 1 := by omega
              rw [this]; rfl
            rw [d2]
            have hub := upto_le (t.drop ((upto t).length + 1))
            have hdl : (t.drop ((upto t).length + 1)).length = t.length - ((upto t).length + 1) := List.length_drop
            generalize hbv : upto (t.drop ((upto t).length + 1)) = b at hub ⊢
            rw [W_eq (x := ((upto t).length : Int) + (b.length : Int)) (by omega) (by omega), W_eq (x := ((upto t).length : Int) + (b.length : Int) + 2) (by omega) (by omega), W_eq (x := ((upto t).length : Int) + (b.length : Int) + 3) (by omega) (by omega)]
            simp only [joinO]
            have fin : ∀ z : List UInt8, z = (t.drop ((upto t).length + 1)).drop (b.length + 1) → fixF (M_s_Caret_L1 line (upto t) b z fun _ => some ([], 3)) FUEL 0 = some (caretP line (upto t) b ((t.drop ((upto t).length + 1)).drop (b.length + 1))) := by
              intro z hz
              have hzl : z.length ≤ t.length := by rw [hz]; simp only [List.length_drop]; omega
              rw [← hz]
              exact caretLoop_s line (upto t) b z hgl (by omega) (by omega) (by omega)
            by_cases hr : ((upto t).length : Int) + (b.length : Int) + 2 < ((94 :: t).length : Int)
            · rw [decide_eq_true hr, cond_true, if_pos (by omega)]
              refine fin _ ?_
              unfold sub'
              have a1 : (((upto t).length : Int) + (b.length : Int) + 3).toNat = ((upto t).length + 1) + (b.length + 1) + 1 := by omega
              have a2 : (((94 :: t).length : Int)).toNat = (94 :: t).length := by omega
              rw [a1, a2, List.take_of_length_le (by rw [List.length_drop]; omega), List.drop_succ_cons, List.drop_drop]
            · rw [decide_eq_false hr, cond_false]
              exact fin _ (List.drop_eq_nil_of_le (by omega)).symm
      · have hne : ¬ ((c.toNat : Int) = 94) := fun hx => hc (UInt8.toNat_inj.1 (by
          have : ((94 : UInt8)).toNat = 94 := rfl
          omega))
        rw [decide_eq_false hne]
        simp only [hc, if_false]
        rfl
end

theorem law_Caret (h : Int × List (List UInt8)) (s : List UInt8) (wh : WfT (.pair (.int .i64) (.sl .str)) h) : M_l_FnExactCaret h s = some true := by
  unfold M_l_FnExactCaret
  by_cases hs : (1048576 : Int) < (s.length : Int)
  · rw [decide_eq_true hs]; rfl
  rw [decide_eq_false hs, cond_false]
  obtain ⟨v, e1, hv⟩ := szHist_ok h wh 1048576 (by omega) (by omega)
  rw [bindO_of e1]
  rcases hv with rfl | ⟨v0, v1, hl, _⟩
  · rfl
  have nv : ¬ (v < 0) := by omega
  rw [decide_eq_false nv, cond_false]
  have th := toHist_eq h (by omega)
  have eh := eqHist_self h (by omega)
  have cs := caret_s h hl s (by omega)
  have ci := caret_i h hl s (by omega)
  generalize caretR h s = z at cs ci
  obtain ⟨z1, z2⟩ := z
  refine bindO_tr th (bindO_tr cs (bindO_tr th (bindO_tr ci ?_)))
  simp only [decide_true, Bool.not_true, cond_false]
  exact bindO_tr th (bindO_tr eh rfl)

end Go.Eng

namespace Go.Proofs.YtkkafmjckkjebaaDoor.fnExactCaret
open Go.ChangeShapes Go.WideShapes Go.ChangeAt Go.RowKit Go.Eng
open Go.ChangeMaps (open_string shut_string)

theorem own : ownKnob Tryd.prog.godebug = none := by kernel_rfl
theorem laidOut : laidOutB Tryd.prog = true := by kernel_rfl

def laid : List (String × DataW Unit) := [("unicode/utf8.acceptRanges", Rows.laid_unicode_utf8_acceptRanges), ("unicode/utf8.first", Rows.laid_unicode_utf8_first)]

set_option maxRecDepth 100000 in
theorem lifted (os : Os) (started : os.Started) (H : Type) (enc : TypeId × Value → H) :
    ReturnsInHanded {} Tryd.checked os 3 .any (fun w args => (Rows.fnExactCaretSpec.pre enc Tryd.prog Tryd.f3 [] false w args ∧ laidMetH Tryd.prog laid w) ∧ sizedMet enc Tryd.prog Tryd.f3 (OpenSpec.ofChange Rows.fnExactCaretSpec) false w args) (Rows.fnExactCaretSpec.post enc Tryd.prog Tryd.f3 false true false false) := by
  refine returnsInHanded_of_and_shape (C := Tryd.checked) (X := fun w _ => laidMetH Tryd.prog laid w) (fun _ _ _ hh h => h.of_heap hh) own started (by kernel_rfl) Tryd.func3
    (ChangeSpec.witness_shaped (enc := enc) (C := Tryd.checked) (os := os) (X := fun w _ => laidMetH Tryd.prog laid w) false (World.laidAll Tryd.prog os laid) #[.agg #[.int .i64 0, .slice none 0 0], .string ByteArray.empty] 8 (World.laidAll_os _ _ _)
      (World.shaped_of_ZipB (by kernel_rfl) (by kernel_rfl)) (by kernel_rfl) (by kernel_rfl) (by kernel_rfl)
      (by rw [MakeChecks.laidMetH_plain _ _ _ (by kernel_rfl)]; exact laidMet_laidAll _ (by kernel_rfl) (by kernel_rfl))) ?_
  intro W base args ds gs before hsh hval0 hW _ _ _ _
  have hval : ∀ (j : Nat) t v, Tryd.f3.params[j]? = some t → args[j]? = some v → Value.okWide Tryd.prog W .any base t v := hval0
  have hW' := hW
  obtain ⟨p, q, hA0, hV, rfl, hfz, hnd⟩ := hW
  have hA : DataW.TrodAll enc Tryd.prog W 0 (fun _ => true) true Tryd.f3.params.toList args.toList ds p := hA0
  rw [Tryd.params3] at hA hval
  obtain ⟨v0, vs0, d0, ds0, p0, q0, hargs, rfl, rfl, h0, r0⟩ := trodAll_cons hA
  obtain ⟨v1, vs1, d1, ds1, p1, q1, rfl, rfl, rfl, h1, r1⟩ := trodAll_cons r0
  obtain ⟨rfl, rfl, rfl⟩ := trodAll_nil r1
  obtain rfl : args = #[v0, v1] := by cases args; simp_all
  obtain ⟨rfl, rfl⟩ := trodVars_none hV
  have k0 := h0
  have lt0 : ∀ x ∈ p0, x.block < W.heap.size := by obtain ⟨m, hm⟩ := k0; exact DataW.trod_lt m _ _ _ hm
  obtain ⟨cs0, rfl, -⟩ := okWide_struct Tryd.underlying24 (hval 0 24 v0 rfl rfl)
  obtain ⟨m0, hm0⟩ := h0
  obtain ⟨x0, L0, rep0, wf0⟩ := trod_rep 16 m0 24 (.pair (.int .i64) (.sl .str)) _ _ (by kernel_rfl) hm0
  refine rep_open rep0 ?_
  intro b0_0 c0_0 e0 f0
  have e0' : some [.int .i64 x0.1, .slice b0_0 x0.2.length c0_0] = some cs0.toList := e0
  obtain rfl : cs0 = #[.int .i64 x0.1, .slice b0_0 x0.2.length c0_0] := Array.ext' (Option.some.inj e0').symm
  have f0' : ∀ f ∈ ([⟨.str, ⟨b0_0, x0.2.length, c0_0⟩, x0.2⟩] : List Fact), ∃ L, f.rep false W L := f0
  obtain ⟨a1, rfl, rfl, rfl, w1⟩ := open_string Tryd.underlying9 (hval 1 9 v1 rfl rfl) h1
  obtain ⟨gm0, Lg0, fg0⟩ := var_of_shape (P := Tryd.prog) (g := 0) (t := 3) (zero := #[.int .i64 0]) hsh (of_decide_eq_true (by kernel_rfl)) (by kernel_rfl) rfl (by kernel_rfl) (by kernel_rfl) Tryd.underlying3
  clear hA0 hval0
  simp only [List.append_nil] at hW'
  have walk : Calls Tryd.prog 3 #[.agg #[.int .i64 x0.1, .slice b0_0 x0.2.length c0_0], .string a1] W fun e w' => e = .returned (.bool true) ∧ Below W.heap.size W w' := by
    have h := ok_l_FnExactCaret x0 a1.data.toList b0_0 c0_0 _ rfl gm0 true (law_Caret x0 a1.data.toList wf0)
    refine Calls.mono (h.calls W ?_) ?_
    · intro x hx
      rcases List.mem_cons.1 hx with rfl | hx
      · exact f0' _ List.mem_cons_self
      rcases List.mem_cons.1 hx with rfl | hx
      · exact ⟨_, fg0⟩
      cases hx
    · rintro e w' ⟨r, -, he, hk, -⟩
      exact ⟨he, hk.below⟩
  refine walk.mono fun e W' ⟨he, bel⟩ => ?_
  subst he
  exact ⟨_, rfl, _, _, _, [], _, [], hW', trodAll_mk1 (shut_bool Tryd.underlying4 _), (trodAll_cons_mk (Below.trod laidOut (by kernel_rfl) (of_decide_eq_true (by kernel_rfl)) k0 bel lt0) (trodAll_cons_mk (shut_string Tryd.underlying9 w1) trodAll_mk0)), rfl, bel.frame _, fun h => by cases h⟩

theorem andI {a b : Bool} (ha : a = true) (hb : b = true) : (a && b) = true := by rw [ha, hb]; rfl
set_option maxHeartbeats 8000000 in
theorem closed : joinedFacts Tryd.checked.prog 3 Tryd.f3 Rows.fnExactCaretSpec Rows.fnExactCaretRow = true := by
  unfold joinedFacts
  (repeat' with_reducible refine andI ?_ ?_) <;> as_aux_lemma => kernel_rfl

theorem over : Rows.fnExactCaretRow.holds Tryd.pinned (OpenSpec.ofChange Rows.fnExactCaretSpec) :=
  OpenClaim.holds_of_wide 3 Tryd.f3 rfl rfl rfl rfl rfl rfl rfl ⟨rfl, rfl, rfl, rfl, rfl⟩ rfl rfl rfl rfl rfl (by kernel_rfl) Tryd.func3 closed
    (of_decide_eq_true (by kernel_rfl)) (by unfold Func.isWrapper; first | (rw [if_pos (by decide +kernel)]; kernel_rfl) | (rw [if_neg (by decide +kernel)]; exact ⟨rfl, rfl⟩))
    (fun os started H enc _ => lifted os started H enc)

theorem proved : Rows.FnExactCaretCardSaid :=
  Claim7.holds_tied_plain_at .later [] [.data, .pinned] true (true, "17df7e32e606275d63a36cd64373dcc6927a66c82113949fb6477aae1738ee25") false
    over (fun _ h => by cases h) (by kernel_rfl) (fun _ h => by cases h) fnExactCaret_row_tie rfl ⟨rfl, rfl⟩ (by kernel_rfl) rfl
    (fun f fn hf hfn => by
      obtain rfl : f = 3 := Option.some.inj ((show Tryd.prog.funcNamed "loop.example/g00600/laws.FnExactCaret" = some 3 by kernel_rfl).symm.trans hf) |>.symm
      obtain rfl : fn = Tryd.f3 := (Option.some.inj (Tryd.func3.symm.trans hfn)).symm
      exact ⟨by kernel_rfl, fun j t ht => by
        rw [Tryd.params3] at ht
        have hm : t ∈ [24, 9] := by simpa using Array.mem_of_getElem? ht
        have hall : ([24, 9].all fun u => !Tryd.prog.wantsStandIn u) = true := by kernel_rfl
        exact (show Tryd.prog.wantsStandIn t = false by simpa using List.all_eq_true.1 hall t hm)⟩)
    (by kernel_rfl)
#print axioms proved
end Go.Proofs.YtkkafmjckkjebaaDoor.fnExactCaret
