/- FnExactRefLine: for every input the given law returns true and leaves its arguments as they were. No condition. -/
import Derived.Test.YtkkafmjckkjebaaFnExactRefLineWalkA
import Derived.Test.YtkkafmjckkjebaaRows
import Derived.WalkKit
import Derived.ProofKit
import Derived.OpenShut
import Derived.ShutString
set_option linter.unusedVariables false
set_option linter.unusedSimpArgs false
namespace Go.Eng
open Go Go.Proofs


theorem bindO_of {α β : Type} {m : Option α} {k : α → Option β} {y : α} (h : m = some y) : bindO m k = k y := by rw [h]; rfl

theorem wf64 {a : Int} (h : (Lit.int .i64 a).wf = true) : -9223372036854775808 ≤ a ∧ a ≤ 9223372036854775807 := by
  simpa [Lit.wf, IntKind.min, IntKind.max, IntKind.signed, IntKind.bits] using h


theorem drop_at {α : Type} [Inhabited α] {l : List α} {k : Int} (h0 : 0 ≤ k) (h : k < (l.length : Int)) : l.drop k.toNat = at' l k :: l.drop (k + 1).toNat := by
  have hlt : k.toNat < l.length := by omega
  rw [List.drop_eq_getElem_cons hlt]
  have : (k + 1).toNat = k.toNat + 1 := by omega
  rw [this]
  congr 1
  simp [at', List.getD_eq_getElem?_getD, hlt]

theorem sub_all {α : Type} {l : List α} {k : Int} (h0 : 0 ≤ k) : sub' l k (l.length : Int) = l.drop k.toNat := by
  unfold sub'
  rw [List.take_of_length_le]
  simp

theorem byte_eq {b : UInt8} {n : Nat} (hn : n < 256) : ((b.toNat : Int) = n) ↔ b = UInt8.ofNat n := by
  constructor
  · intro h; apply UInt8.toNat_inj.1; simp; omega
  · intro h; rw [h]; simp; omega


theorem szStringS_loop (xs : List (List UInt8)) (hx : xs.length ≤ maxLen) (hs : ∀ s ∈ xs, s.length ≤ maxLen) : ∀ (m : Nat) (left k : Int), 0 ≤ left → left ≤ 1048576 → 0 ≤ k → k ≤ (xs.length : Int) → (xs.length : Int) - k < m → 0 < m →
    ∃ v, fixF (M_l_szStringS_L1 xs fun x18 => some x18) m (left, k) = some v ∧ (v = -1 ∨ (0 ≤ v ∧ v ≤ left ∧ ∀ s ∈ xs.drop k.toNat, (s.length : Int) ≤ left)) := by
  have hM' : maxLen ≤ 9223372036854775807 := by decide
  intro m
  induction m with
  | zero => intro left k _ _ _ _ _ h; omega
  | succ m ih =>
    intro left k h0 h1 hk hk' hm _
    simp only [fixF, M_l_szStringS_L1, guardO, Bool.cond_decide]
    by_cases h2 : k < (xs.length : Int)
    · rw [if_pos h2, if_pos ⟨hk, h2⟩]
      have hb := hs (at' xs k) (List.mem_of_getElem? (at_some ⟨hk, h2⟩))
      rw [W_eq (x := left - ((at' xs k).length : Int)) (by omega) (by omega), W_eq (x := k + 1) (by omega) (by omega)]
      by_cases h3 : left - ((at' xs k).length : Int) < 0
      · rw [if_pos h3]; exact ⟨-1, rfl, .inl rfl⟩
      · rw [if_neg h3]
        obtain ⟨v, e, hv⟩ := ih (left - ((at' xs k).length : Int)) (k + 1) (by omega) (by omega) (by omega) (by omega) (by omega) (by omega)
        refine ⟨v, e, ?_⟩
        rcases hv with hv | ⟨g1, g2, g3⟩
        · exact .inl hv
        · refine .inr ⟨g1, by omega, ?_⟩
          rw [drop_at hk h2]
          intro s hs'
          rcases List.mem_cons.1 hs' with rfl | hs'
          · omega
          · have := g3 s hs'; omega
    · rw [if_neg h2]
      exact ⟨left, rfl, .inr ⟨h0, Int.le_refl _, by rw [List.drop_eq_nil_of_le (by omega)]; simp⟩⟩

theorem szStringS_ok (xs : List (List UInt8)) (hx : xs.length ≤ maxLen) (hs : ∀ s ∈ xs, s.length ≤ maxLen) (left : Int) (h0 : 0 ≤ left) (h1 : left ≤ 1048576) :
    ∃ v, M_l_szStringS xs left = some v ∧ (v = -1 ∨ (0 ≤ v ∧ v ≤ left ∧ (xs.length : Int) ≤ left ∧ ∀ s ∈ xs, (s.length : Int) ≤ left)) := by
  have hM' : maxLen ≤ 9223372036854775807 := by decide
  unfold M_l_szStringS
  simp only [Bool.cond_decide, joinO]
  rw [W_eq (x := left - (xs.length : Int)) (by omega) (by omega)]
  by_cases h : left - (xs.length : Int) < 0
  · rw [if_pos h]; exact ⟨-1, rfl, .inl rfl⟩
  · rw [if_neg h]
    obtain ⟨v, e, hv⟩ := szStringS_loop xs hx hs FUEL (left - (xs.length : Int)) 0 (by omega) (by omega) (by omega) (by omega) (by rw [fuel_eq]; omega) (by rw [fuel_eq]; omega)
    refine ⟨v, e, ?_⟩
    rcases hv with hv | ⟨g1, g2, g3⟩
    · exact .inl hv
    · refine .inr ⟨g1, by omega, by omega, fun s hs' => ?_⟩
      have := g3 s (by simpa using hs')
      omega

theorem toStringS_loop (xs : List (List UInt8)) (hl : (xs.length : Int) ≤ 100000000) (j : List (List UInt8) → Option (List (List UInt8))) : ∀ (m : Nat) (ys : List (List UInt8)) (k : Int), 0 ≤ k → k ≤ (xs.length : Int) → ys.length = xs.length → (∀ i : Nat, (i : Int) < k → ys[i]? = xs[i]?) → (xs.length : Int) - k < m → 0 < m →
    fixF (M_l_toStringS_L1 xs j) m (ys, k) = j xs := by
  intro m
  induction m with
  | zero => intro ys k _ _ _ _ h h'; omega
  | succ m ih =>
    intro ys k hk hk' hy hyx hm _
    simp only [fixF, M_l_toStringS_L1, guardO, Bool.cond_decide]
    by_cases h1 : k < (xs.length : Int)
    · have h2 : k < (ys.length : Int) := by omega
      simp only [h1, h2, hk, if_true, and_self]
      rw [W_eq (by omega) (by omega)]
      refine ih _ _ (by omega) (by omega) (by simpa using hy) (fun i hi => ?_) (by omega) (by omega)
      rw [List.getElem?_set]
      by_cases he : k.toNat = i
      · subst he
        rw [if_pos rfl, if_pos (by omega), at_some ⟨hk, h1⟩]
      · rw [if_neg he]
        exact hyx i (by omega)
    · simp only [h1, if_false]
      congr 1
      apply List.ext_getElem?
      intro i
      by_cases hi : (i : Int) < k
      · exact hyx i hi
      · rw [List.getElem?_eq_none (by omega), List.getElem?_eq_none (by omega)]

theorem toStringS_eq (xs : List (List UInt8)) (hl : (xs.length : Int) ≤ 100000000) : M_l_toStringS xs = some xs := by
  unfold M_l_toStringS guardO
  rw [if_pos (by omega)]
  exact toStringS_loop xs hl _ FUEL _ 0 (by omega) (by omega) (by simp) (fun i hi => by omega) (by rw [fuel_eq]; omega) (by rw [fuel_eq]; omega)

theorem eqStringS_loop (xs : List (List UInt8)) (hl : (xs.length : Int) ≤ 100000000) (j : Unit → Option Bool) : ∀ (m : Nat) (k : Int), 0 ≤ k → k ≤ (xs.length : Int) → (xs.length : Int) - k < m → 0 < m → fixF (M_l_eqStringS_L1 xs xs j) m k = j () := by
  intro m
  induction m with
  | zero => intro k _ _ h h'; omega
  | succ m ih =>
    intro k hk hk' hm _
    simp only [fixF, M_l_eqStringS_L1, guardO, Bool.cond_decide]
    by_cases h1 : k < (xs.length : Int)
    · simp only [h1, hk, if_true, and_self, decide_true, Bool.not_true, cond_false]
      rw [W_eq (by omega) (by omega)]
      exact ih _ (by omega) (by omega) (by omega) (by omega)
    · simp only [h1, if_false]

theorem eqStringS_self (xs : List (List UInt8)) (hl : (xs.length : Int) ≤ 100000000) : M_l_eqStringS xs xs = some true := by
  unfold M_l_eqStringS
  simp only [decide_true, Bool.not_true, cond_false]
  exact eqStringS_loop xs hl _ FUEL 0 (by omega) (by omega) (by rw [fuel_eq]; omega) (by rw [fuel_eq]; omega)

/-- A history that is valid. -/
def hOk (h : Int × List (List UInt8)) : Bool := decide (1 ≤ h.1 ∧ h.1 ≤ 1000000000 ∧ (h.2.length : Int) ≤ 60) && h.2.all fun s => decide (1 ≤ (s.length : Int) ∧ (s.length : Int) ≤ 1000)

theorem sHistOk_loop (h : Int × List (List UInt8)) (hl : (h.2.length : Int) ≤ 1048576) (b : Bool) : ∀ (m : Nat) (k : Int), 0 ≤ k → k ≤ (h.2.length : Int) → (h.2.length : Int) - k < m → 0 < m →
    fixF (M_s_HistOk_L1 h fun _ => some b) m k = some (b && (h.2.drop k.toNat).all fun s => decide (1 ≤ (s.length : Int) ∧ (s.length : Int) ≤ 1000)) := by
  intro m
  induction m with
  | zero => intro k _ _ _ h'; omega
  | succ m ih =>
    intro k hk hk' hm _
    simp only [fixF, M_s_HistOk_L1, guardO, Bool.cond_decide]
    by_cases h1 : k < (h.2.length : Int)
    · rw [if_pos h1, if_pos ⟨hk, h1⟩, W_eq (by omega) (by omega), drop_at hk h1, ih _ (by omega) (by omega) (by omega) (by omega), List.all_cons]
      by_cases c1 : ((at' h.2 k).length : Int) < 1
      · have : ¬ (1 ≤ ((at' h.2 k).length : Int) ∧ ((at' h.2 k).length : Int) ≤ 1000) := by omega
        rw [decide_eq_false this]
        simp [c1]
      · by_cases c2 : 1000 < ((at' h.2 k).length : Int)
        · have : ¬ (1 ≤ ((at' h.2 k).length : Int) ∧ ((at' h.2 k).length : Int) ≤ 1000) := by omega
          rw [decide_eq_false this]
          simp [c1, c2]
        · have : (1 ≤ ((at' h.2 k).length : Int) ∧ ((at' h.2 k).length : Int) ≤ 1000) := by omega
          rw [decide_eq_true this]
          simp [c1, c2]
    · rw [if_neg h1, List.drop_eq_nil_of_le (by omega)]
      simp

theorem sHistOk_eq (h : Int × List (List UInt8)) (hl : (h.2.length : Int) ≤ 1048576) : M_s_HistOk h = some (hOk h) := by
  unfold M_s_HistOk
  simp only [joinO]
  rw [sHistOk_loop h hl _ FUEL 0 (by omega) (by omega) (by rw [fuel_eq]; omega) (by rw [fuel_eq]; omega)]
  unfold hOk
  simp only [Int.toNat_zero, List.drop_zero]
  congr 2
  by_cases c1 : 1 ≤ h.1 <;> by_cases c2 : h.1 ≤ 1000000000 <;> by_cases c3 : (h.2.length : Int) ≤ 60 <;> simp [c1, c2, c3]

theorem iHistOk_loop (h : Int × List (List UInt8)) (hl : (h.2.length : Int) ≤ 1048576) : ∀ (m : Nat) (k : Int), 0 ≤ k → k ≤ (h.2.length : Int) → (h.2.length : Int) - k < m → 0 < m →
    fixF (M_i_HistOk_L1 h fun _ => some true) m k = some ((h.2.drop k.toNat).all fun s => decide (1 ≤ (s.length : Int) ∧ (s.length : Int) ≤ 1000)) := by
  intro m
  induction m with
  | zero => intro k _ _ _ h'; omega
  | succ m ih =>
    intro k hk hk' hm _
    simp only [fixF, M_i_HistOk_L1, guardO, Bool.cond_decide, M_i_in, bindO]
    by_cases h1 : k < (h.2.length : Int)
    · rw [if_pos h1, if_pos ⟨hk, h1⟩, W_eq (by omega) (by omega), drop_at hk h1, ih _ (by omega) (by omega) (by omega) (by omega), List.all_cons]
      by_cases c1 : 1 ≤ ((at' h.2 k).length : Int) <;> by_cases c2 : ((at' h.2 k).length : Int) ≤ 1000 <;> simp only [c1, c2, and_self, and_true, and_false, false_and, true_and, decide_true, decide_false, if_true, if_false, Bool.not_true, Bool.not_false, cond_true, cond_false, Bool.true_and, Bool.false_and]
    · rw [if_neg h1, List.drop_eq_nil_of_le (by omega)]
      simp

theorem iHistOk_eq (h : Int × List (List UInt8)) (hl : (h.2.length : Int) ≤ 1048576) : M_i_HistOk h = some (hOk h) := by
  unfold M_i_HistOk M_i_in
  simp only [joinO, bindO, Bool.cond_decide]
  rw [iHistOk_loop h hl FUEL 0 (by omega) (by omega) (by rw [fuel_eq]; omega) (by rw [fuel_eq]; omega)]
  unfold hOk
  simp only [Int.toNat_zero, List.drop_zero]
  by_cases c1 : 1 ≤ h.1 <;> by_cases c2 : h.1 ≤ 1000000000 <;> by_cases c3 : (h.2.length : Int) ≤ 60
  all_goals first
    | (have c4 : ¬ (60 < (h.2.length : Int)) := by omega); simp [c1, c2, c3, c4]
    | (have c4 : 60 < (h.2.length : Int) := by omega); simp [c1, c2, c3, c4]

theorem hOk_spec {h : Int × List (List UInt8)} (hh : hOk h = true) : 1 ≤ h.1 ∧ h.1 ≤ 1000000000 ∧ (h.2.length : Int) ≤ 60 ∧ ∀ s ∈ h.2, 1 ≤ (s.length : Int) ∧ (s.length : Int) ≤ 1000 := by
  unfold hOk at hh
  simp only [Bool.and_eq_true, decide_eq_true_eq, List.all_eq_true] at hh
  exact ⟨hh.1.1, hh.1.2.1, hh.1.2.2, hh.2⟩

/-- The number of the last line. -/
def hLast (h : Int × List (List UInt8)) : Int := if hOk h = true ∧ 0 < h.2.length then h.1 + h.2.length - 1 else 0

theorem histLast_eq (h : Int × List (List UInt8)) (hl : (h.2.length : Int) ≤ 1048576) : M_s_HistLast h = some (hLast h) ∧ M_i_HistLast h = some (hLast h) := by
  unfold M_s_HistLast M_i_HistLast
  rw [bindO_of (sHistOk_eq h hl), bindO_of (iHistOk_eq h hl)]
  unfold hLast
  cases hh : hOk h with
  | false => simp
  | true =>
    obtain ⟨h1, h2, h3, _⟩ := hOk_spec hh
    simp only [Bool.cond_decide, Bool.not_true, cond_false]
    rw [W_eq (x := h.1 + (h.2.length : Int)) (by omega) (by omega), W_eq (by omega) (by omega)]
    by_cases h0 : (h.2.length : Int) = 0
    · have : ¬ (0 < h.2.length) := by omega
      simp [h0, this]
    · have : 0 < h.2.length := by omega
      simp only [h0, this, if_false, and_self, if_true]

def hGet (h : Int × List (List UInt8)) (n : Int) : List UInt8 × Bool := if hOk h = true ∧ h.1 ≤ n ∧ n < h.1 + h.2.length then (at' h.2 (n - h.1), true) else ([], false)

theorem histGet_eq (h : Int × List (List UInt8)) (hl : (h.2.length : Int) ≤ 1048576) (n : Int) (hn : -9223372036854775808 ≤ n ∧ n ≤ 9223372036854775807) : M_s_HistGet h n = some (hGet h n) ∧ M_i_HistGet h n = some (hGet h n) := by
  unfold M_s_HistGet M_i_HistGet
  rw [bindO_of (sHistOk_eq h hl), bindO_of (iHistOk_eq h hl)]
  unfold hGet
  cases hh : hOk h with
  | false => simp [callO, bindO]
  | true =>
    obtain ⟨h1, h2, h3, _⟩ := hOk_spec hh
    simp only [Bool.cond_decide, Bool.not_true, cond_false, callO, if_true, M_i_in, bindO, guardO, true_and]
    rw [W_eq (x := h.1 + (h.2.length : Int)) (by omega) (by omega), W_eq (x := h.1 + (h.2.length : Int) - 1) (by omega) (by omega)]
    by_cases c1 : h.1 ≤ n
    · rw [W_eq (x := n - h.1) (by omega) (by omega)]
      by_cases c2 : n < h.1 + h.2.length
      · have d1 : ¬ (n < h.1) := by omega
        have d2 : ¬ ((h.2.length : Int) ≤ n - h.1) := by omega
        have d3 : n ≤ h.1 + (h.2.length : Int) - 1 := by omega
        have d4 : 0 ≤ n - h.1 ∧ n - h.1 < (h.2.length : Int) := by omega
        simp [c1, c2, d1, d2, d3, d4]
      · have d1 : ¬ (n < h.1) := by omega
        have d2 : ((h.2.length : Int) ≤ n - h.1) := by omega
        have d3 : ¬ (n ≤ h.1 + (h.2.length : Int) - 1) := by omega
        simp [c1, c2, d1, d2, d3]
    · have d1 : n < h.1 := by omega
      simp [c1, d1]

theorem pre_iff' (s p : List UInt8) : Lib.hasPrefix s p = decide (s.take p.length = p) := by
  unfold Lib.hasPrefix
  rw [Bool.eq_iff_iff, List.isPrefixOf_iff_prefix, List.prefix_iff_eq_take]
  simp only [decide_eq_true_eq]
  exact eq_comm

theorem l16In_pre (s p : List UInt8) (hs : (s.length : Int) ≤ 1048576) (hp : (p.length : Int) ≤ 1048576) : M_s_l16In s p true = some (Lib.hasPrefix s p) := by
  unfold M_s_l16In
  simp only [joinO]
  obtain ⟨n, hn⟩ : ∃ n, FUEL = n + 1 := ⟨FUEL - 1, by have := fuel_eq; omega⟩
  rw [hn]
  simp only [fixF, M_s_l16In_L1, guardO, Bool.cond_decide, cond_true]
  rw [W_eq (x := 0 + (p.length : Int)) (by omega) (by omega), pre_iff']
  have e : (0 : Int) + (p.length : Int) = (p.length : Int) := by omega
  rw [e]
  have hsub : sub' s 0 (p.length : Int) = s.take p.length := by unfold sub'; simp
  by_cases h1 : (p.length : Int) ≤ (s.length : Int)
  · rw [if_pos h1, if_pos ⟨by omega, by omega, h1⟩, hsub]
    by_cases h2 : s.take p.length = p
    · simp [h2]
    · simp [h2]
  · rw [if_neg h1]
    have h2 : ¬ (s.take p.length = p) := by
      intro h2
      have := congrArg List.length h2
      simp at this
      omega
    simp [h2]

/-- The last line that begins so, from the lines of numbers below n on. -/
def hBack (h : Int × List (List UInt8)) (p : List UInt8) : Nat → Int
  | 0 => 0
  | n + 1 => if Lib.hasPrefix (at' h.2 (n : Int)) p then h.1 + n else hBack h p n

theorem iFind_loop (h : Int × List (List UInt8)) (hh : hOk h = true) (p : List UInt8) : ∀ (m n : Nat), n ≤ h.2.length → n < m →
    fixF (M_i_HistFind_L1 h p (-1) true fun _ => some 0) m (h.1 + n - 1) = some (hBack h p n) := by
  obtain ⟨h1, h2, h3, _⟩ := hOk_spec hh
  intro m
  induction m with
  | zero => intro n _ h; omega
  | succ m ih =>
    intro n hn hm
    simp only [fixF, M_i_HistFind_L1, guardO, Bool.cond_decide, M_i_in, bindO]
    rw [W_eq (x := h.1 + (h.2.length : Int)) (by omega) (by omega), W_eq (x := h.1 + (h.2.length : Int) - 1) (by omega) (by omega)]
    cases n with
    | zero =>
      have : ¬ (h.1 ≤ h.1 + ((0 : Nat) : Int) - 1) := by omega
      simp only [this, decide_false, if_false, cond_false, hBack]
    | succ n =>
      have c1 : h.1 ≤ h.1 + ((n + 1 : Nat) : Int) - 1 := by omega
      have c2 : h.1 + ((n + 1 : Nat) : Int) - 1 ≤ h.1 + (h.2.length : Int) - 1 := by omega
      have e1 : h.1 + ((n + 1 : Nat) : Int) - 1 - h.1 = (n : Int) := by omega
      have e2 : h.1 + ((n + 1 : Nat) : Int) - 1 + -1 = h.1 + (n : Int) - 1 := by omega
      rw [W_eq (x := h.1 + ((n + 1 : Nat) : Int) - 1 - h.1) (by omega) (by omega), W_eq (x := h.1 + ((n + 1 : Nat) : Int) - 1 + -1) (by omega) (by omega), e1, e2]
      have c3 : (0 : Int) ≤ n ∧ (n : Int) < (h.2.length : Int) := by omega
      simp only [c1, c2, c3, if_true, and_self, decide_true, cond_true, callO, M_strings_HasPrefix, bindO, Bool.not_true, Bool.false_eq_true, false_and, if_false, cond_false, hBack]
      cases hp : Lib.hasPrefix (at' h.2 (n : Int)) p with
      | true => simp; omega
      | false => simp; exact ih n (by omega) (by omega)

theorem sFind_loop (h : Int × List (List UInt8)) (hh : hOk h = true) (p : List UInt8) (hp : (p.length : Int) ≤ 1048576) : ∀ (m n : Nat) (got : Int), n ≤ h.2.length → h.2.length - n < m → got = hBack h p n →
    fixF (M_s_HistFind_L1 h p (h.1 + h.2.length - 1) (-1) true fun x => some x) m (got, (n : Int)) = some (hBack h p h.2.length) := by
  obtain ⟨h1, h2, h3, h4⟩ := hOk_spec hh
  intro m
  induction m with
  | zero => intro n got _ h; omega
  | succ m ih =>
    intro n got hn hm hg
    simp only [fixF, M_s_HistFind_L1, guardO, Bool.cond_decide, joinO]
    by_cases c : (n : Int) < (h.2.length : Int)
    · have hlen := h4 (at' h.2 (n : Int)) (List.mem_of_getElem? (at_some ⟨by omega, c⟩))
      rw [if_pos c, if_pos ⟨by omega, c⟩, bindO_of (l16In_pre _ p (by omega) hp)]
      rw [W_eq (x := h.1 + (n : Int)) (by omega) (by omega), W_eq (x := (n : Int) + 1) (by omega) (by omega)]
      have d1 : ¬ (h.1 + (h.2.length : Int) - 1 < h.1 + (n : Int)) := by omega
      have e1 : (n : Int) + 1 = ((n + 1 : Nat) : Int) := by omega
      rw [e1]
      simp only [d1, decide_false, decide_true, show ¬ ((-1 : Int) = 1) by decide, if_true, if_false, cond_true, cond_false, Bool.false_eq_true, ite_self]
      cases hpf : Lib.hasPrefix (at' h.2 (n : Int)) p with
      | true =>
        simp only [Bool.not_true, cond_false]
        exact ih (n + 1) _ (by omega) (by omega) (by simp [hBack, hpf])
      | false =>
        simp only [Bool.not_false, cond_true]
        exact ih (n + 1) _ (by omega) (by omega) (by simp [hBack, hpf, hg])
    · rw [if_neg c]
      have : n = h.2.length := by omega
      rw [hg, this]

theorem histFind_eq (h : Int × List (List UInt8)) (hl : (h.2.length : Int) ≤ 1048576) (p : List UInt8) (hp : (p.length : Int) ≤ 1048576) :
    ∃ v, M_s_HistFind h p (hLast h) (-1) true = some v ∧ M_i_HistFind h p (hLast h) (-1) true = some v ∧ 0 ≤ v ∧ v ≤ 2000000000 := by
  unfold M_s_HistFind M_i_HistFind
  rw [bindO_of (sHistOk_eq h hl), bindO_of (iHistOk_eq h hl)]
  cases hh : hOk h with
  | false => exact ⟨0, by simp, by simp, by omega, by omega⟩
  | true =>
    obtain ⟨h1, h2, h3, h4⟩ := hOk_spec hh
    simp only [Bool.not_true, cond_false, decide_true, show ¬ ((-1 : Int) = 1) by decide, decide_false, Bool.not_false, cond_true, joinO]
    have hb : ∀ n : Nat, n ≤ h.2.length → 0 ≤ hBack h p n ∧ hBack h p n ≤ 2000000000 := by
      intro n
      induction n with
      | zero => intro _; simp [hBack]
      | succ n ih =>
        intro hn
        have := ih (by omega)
        simp only [hBack]
        split <;> omega
    refine ⟨hBack h p h.2.length, ?_, ?_, (hb _ (Nat.le_refl _)).1, (hb _ (Nat.le_refl _)).2⟩
    · by_cases h0 : 0 < h.2.length
      · have e : hLast h = h.1 + h.2.length - 1 := by unfold hLast; rw [if_pos ⟨hh, h0⟩]
        rw [e]
        exact sFind_loop h hh p hp FUEL 0 0 (by omega) (by rw [fuel_eq]; omega) rfl
      · have hz : h.2.length = 0 := by omega
        obtain ⟨n, hn⟩ : ∃ n, FUEL = n + 1 := ⟨FUEL - 1, by have := fuel_eq; omega⟩
        rw [hn, hz]
        simp [fixF, M_s_HistFind_L1, hz, hBack]
    · rw [W_eq (x := h.1 + (h.2.length : Int)) (by omega) (by omega), W_eq (x := h.1 + (h.2.length : Int) - 1) (by omega) (by omega)]
      by_cases h0 : 0 < h.2.length
      · have e : hLast h = h.1 + h.2.length - 1 := by unfold hLast; rw [if_pos ⟨hh, h0⟩]
        rw [e, Int.min_self]
        exact iFind_loop h hh p FUEL h.2.length (Nat.le_refl _) (by rw [fuel_eq]; omega)
      · have hz : h.2.length = 0 := by omega
        have e : hLast h = 0 := by unfold hLast; rw [if_neg (by simp [hz])]
        obtain ⟨n, hn⟩ : ∃ n, FUEL = n + 1 := ⟨FUEL - 1, by have := fuel_eq; omega⟩
        have e2 : min (0 : Int) (h.1 + (h.2.length : Int) - 1) = 0 := by omega
        rw [hn, e, e2, hz]
        have c1 : ¬ (h.1 ≤ 0) := by omega
        simp [fixF, M_i_HistFind_L1, M_i_in, bindO, c1, hBack]

theorem law_RefLine (h : Int × List (List UInt8)) (r : Int × Int × List UInt8 × Int) (wh : WfT (.pair (.int .i64) (.sl .str)) h) (wr : WfT (.pair (.int .i64) (.pair (.int .i64) (.pair .str (.int .i64)))) r) : M_l_FnExactRefLine h r = some true := by
  obtain ⟨w1, w2, w3⟩ := wh
  obtain ⟨r1, r2, r3, r4⟩ := wr
  have hM' : maxLen ≤ 9223372036854775807 := by decide
  have b2 := wf64 r2
  obtain ⟨v, e, hv⟩ := szStringS_ok h.2 w2 w3 1048576 (by omega) (by omega)
  unfold M_l_FnExactRefLine M_l_szHist
  rw [bindO_of e]
  rcases hv with rfl | ⟨v0, v1, v2, v3⟩
  · simp [bindO]
  · have hl : (h.2.length : Int) ≤ 1048576 := v2
    have nv : ¬ (v < 0) := by omega
    simp only [nv, decide_false, cond_false, bindO, M_l_szRef, Bool.cond_decide, if_false]
    have r3' : r.2.2.1.length ≤ maxLen := r3
    rw [W_eq (x := v - (r.2.2.1.length : Int)) (by omega) (by omega)]
    by_cases c : v - (r.2.2.1.length : Int) < 0
    · simp [c]
    · simp only [c, if_false]
      have et : M_l_toHist h = some h := by
        unfold M_l_toHist
        rw [bindO_of (toStringS_eq h.2 (by omega))]
      have er : M_l_toRef r = some r := rfl
      simp only [et, er]
      -- both answer the same
      have key : ∃ y, M_s_RefLine h r = some y ∧ M_i_RefLine h r = some y := by
        unfold M_s_RefLine M_i_RefLine
        obtain ⟨l1, l2⟩ := histLast_eq h hl
        rw [bindO_of l1, bindO_of l2]
        simp only [joinO, Bool.cond_decide]
        have hlast : 0 ≤ hLast h ∧ hLast h ≤ 2000000000 := by
          unfold hLast
          split
          · rename_i q
            obtain ⟨q1, q2, q3, _⟩ := hOk_spec q.1
            omega
          · omega
        by_cases k1 : r.1 = 1
        · obtain ⟨g1, g2⟩ := histGet_eq h hl (hLast h) (by omega)
          rw [if_pos k1, if_pos k1, bindO_of g1, bindO_of g2]
          exact ⟨_, rfl, rfl⟩
        rw [if_neg k1, if_neg k1]
        by_cases k2 : r.1 = 2
        · obtain ⟨g1, g2⟩ := histGet_eq h hl r.2.1 b2
          rw [if_pos k2, if_pos k2, bindO_of g1, bindO_of g2]
          exact ⟨_, rfl, rfl⟩
        rw [if_neg k2, if_neg k2]
        by_cases k3 : r.1 = 3
        · rw [if_pos k3, if_pos k3]
          simp only [M_i_in, bindO]
          by_cases c1 : 1 ≤ r.2.1
          · by_cases c2 : r.2.1 ≤ 60
            · have w : W (W (hLast h + 1) - r.2.1) = hLast h + 1 - r.2.1 := by rw [W_eq (x := hLast h + 1) (by omega) (by omega), W_eq (by omega) (by omega)]
              rw [w]
              obtain ⟨g1, g2⟩ := histGet_eq h hl (hLast h + 1 - r.2.1) (by omega)
              simp only [c1, c2, decide_true, cond_true, Bool.not_true, cond_false, g1, g2, if_true]
              exact ⟨_, rfl, rfl⟩
            · simp [c1, c2]
          · simp [c1]
        rw [if_neg k3, if_neg k3]
        by_cases k4 : r.1 = 4
        · rw [if_pos k4, if_pos k4]
          obtain ⟨y, f1, f2, y0, y1⟩ := histFind_eq h hl r.2.2.1 (by omega)
          rw [bindO_of f1, bindO_of f2]
          obtain ⟨g1, g2⟩ := histGet_eq h hl y (by omega)
          rw [bindO_of g1, bindO_of g2]
          exact ⟨_, rfl, rfl⟩
        rw [if_neg k4, if_neg k4]
        exact ⟨_, rfl, rfl⟩
      obtain ⟨⟨y1, y2⟩, k1, k2⟩ := key
      have ee : M_l_eqHist h h = some true := by
        unfold M_l_eqHist
        rw [bindO_of (eqStringS_self h.2 (by omega))]
        simp
      simp only [k1, k2, ee]
      simp

end Go.Eng

namespace Go.Proofs.Ytkkafmjckkjebaa.fnExactRefLine
open Go.ChangeShapes Go.WideShapes Go.ChangeAt Go.RowKit Go.Eng
open Go.ChangeMaps (open_string shut_string)

theorem own : ownKnob Try.prog.godebug = none := by kernel_rfl
theorem laidOut : laidOutB Try.prog = true := by kernel_rfl

set_option maxRecDepth 100000 in
theorem lifted (os : Os) (started : os.Started) (H : Type) (enc : TypeId × Value → H) :
    ReturnsInHanded {} Try.checked os 3 .any (Rows.fnExactRefLineSpec.pre6 enc Try.prog Try.f3 Rows.fnExactRefLineRow.domain false) (Rows.fnExactRefLineSpec.post enc Try.prog Try.f3 false true false false) := by
  refine returnsInHanded_of_change (C := Try.checked) own started (by kernel_rfl) Try.func3
    (ChangeSpec.witness6 (enc := enc) (C := Try.checked) false ⟨#[], #[.agg #[.int .i64 0, .slice none 0 0], .agg #[.int .i64 0, .int .i64 0, .string ByteArray.empty, .int .i64 0]], []⟩ 8 (by kernel_rfl) (by kernel_rfl) (by kernel_rfl) (by kernel_rfl)) ?_
  intro W base args ds gs before hval0 hW hcnd _
  have hval : ∀ (j : Nat) t v, Try.f3.params[j]? = some t → args[j]? = some v → Value.okWide Try.prog W .any base t v := hval0
  have hW' := hW
  obtain ⟨p, q, hA0, hV, rfl, hfz, hnd⟩ := hW
  have hA : DataW.TrodAll enc Try.prog W 0 (fun _ => true) true Try.f3.params.toList args.toList ds p := hA0
  rw [Try.params3] at hA hval
  obtain ⟨v0, vs0, d0, ds0, p0, q0, hargs, rfl, rfl, h0, r0⟩ := trodAll_cons hA
  obtain ⟨v1, vs1, d1, ds1, p1, q1, rfl, rfl, rfl, h1, r1⟩ := trodAll_cons r0
  obtain ⟨rfl, rfl, rfl⟩ := trodAll_nil r1
  obtain rfl : args = #[v0, v1] := by cases args; simp_all
  obtain ⟨rfl, rfl⟩ := trodVars_none hV
  have k0 := h0
  have lt0 : ∀ x ∈ p0, x.block < W.heap.size := by obtain ⟨m, hm⟩ := k0; exact DataW.trod_lt m _ _ _ hm
  obtain ⟨cs0, rfl, -⟩ := okWide_struct Try.underlying24 (hval 0 24 v0 rfl rfl)
  obtain ⟨m0, hm0⟩ := h0
  obtain ⟨x0, L0, rep0, wf0⟩ := trod_rep 16 m0 24 (.pair (.int .i64) (.sl .str)) _ _ (by kernel_rfl) hm0
  refine rep_open rep0 ?_
  intro b0_0 c0_0 e0 f0
  have e0' : some [.int .i64 x0.1, .slice b0_0 x0.2.length c0_0] = some cs0.toList := e0
  obtain rfl : cs0 = #[.int .i64 x0.1, .slice b0_0 x0.2.length c0_0] := Array.ext' (Option.some.inj e0').symm
  have f0' : ∀ f ∈ ([⟨.str, ⟨b0_0, x0.2.length, c0_0⟩, x0.2⟩] : List Fact), ∃ L, f.rep false W L := f0
  have k1 := h1
  have lt1 : ∀ x ∈ p1, x.block < W.heap.size := by obtain ⟨m, hm⟩ := k1; exact DataW.trod_lt m _ _ _ hm
  obtain ⟨cs1, rfl, -⟩ := okWide_struct Try.underlying26 (hval 1 26 v1 rfl rfl)
  obtain ⟨m1, hm1⟩ := h1
  obtain ⟨x1, L1, rep1, wf1⟩ := trod_rep 16 m1 26 (.pair (.int .i64) (.pair (.int .i64) (.pair .str (.int .i64)))) _ _ (by kernel_rfl) hm1
  refine rep_open rep1 ?_
  intro  e1 f1
  have e1' : some [.int .i64 x1.1, .int .i64 x1.2.1, .string (bs x1.2.2.1), .int .i64 x1.2.2.2] = some cs1.toList := e1
  obtain rfl : cs1 = #[.int .i64 x1.1, .int .i64 x1.2.1, .string (bs x1.2.2.1), .int .i64 x1.2.2.2] := Array.ext' (Option.some.inj e1').symm
  have f1' : ∀ f ∈ ([] : List Fact), ∃ L, f.rep false W L := f1
  clear hA0 hval0
  simp only [List.append_nil] at hW'
  have walk : Calls Try.prog 3 #[.agg #[.int .i64 x0.1, .slice b0_0 x0.2.length c0_0], .agg #[.int .i64 x1.1, .int .i64 x1.2.1, .string (bs x1.2.2.1), .int .i64 x1.2.2.2]] W fun e w' => e = .returned (.bool true) ∧ Below W.heap.size W w' := by
    have h := ok_l_FnExactRefLine x0 x1 b0_0 c0_0 _ rfl true (law_RefLine x0 x1 wf0 wf1)
    refine Calls.mono (h.calls W ?_) ?_
    · intro x hx
      rcases List.mem_cons.1 hx with rfl | hx
      · exact f0' _ List.mem_cons_self
      cases hx
    · rintro e w' ⟨r, -, he, hk, -⟩
      exact ⟨he, hk.below⟩
  refine walk.mono fun e W' ⟨he, bel⟩ => ?_
  subst he
  exact ⟨_, rfl, _, _, _, [], _, [], hW', trodAll_mk1 (shut_bool Try.underlying4 _), (trodAll_cons_mk (Below.trod laidOut (by kernel_rfl) (of_decide_eq_true (by kernel_rfl)) k0 bel lt0) (trodAll_cons_mk (Below.trod laidOut (by kernel_rfl) (of_decide_eq_true (by kernel_rfl)) k1 bel lt1) trodAll_mk0)), rfl, bel.frame _, fun h => by cases h⟩

theorem over : Rows.fnExactRefLineRow.holds Try.pinned (OpenSpec.ofChange Rows.fnExactRefLineSpec) :=
  OpenClaim.holds_of_wide 3 Try.f3 rfl rfl rfl rfl rfl rfl rfl ⟨rfl, rfl, rfl, rfl, rfl⟩ rfl rfl rfl rfl rfl (by kernel_rfl) Try.func3 (by kernel_rfl)
    (of_decide_eq_true (by kernel_rfl)) (by unfold Func.isWrapper; first | (rw [if_pos (by decide +kernel)]; kernel_rfl) | (rw [if_neg (by decide +kernel)]; exact ⟨rfl, rfl⟩))
    (fun os started H enc _ => lifted os started H enc)

theorem proved : Rows.FnExactRefLineSaid := over
#print axioms proved
end Go.Proofs.Ytkkafmjckkjebaa.fnExactRefLine
