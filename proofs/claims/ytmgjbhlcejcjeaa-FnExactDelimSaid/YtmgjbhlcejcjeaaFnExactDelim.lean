/- FnExactDelim: for every input the given law returns true and leaves its arguments as they were. No condition. -/
import Derived.Test.YtmgjbhlcejcjeaaFnExactDelimWalkA
import Derived.Test.YtmgjbhlcejcjeaaRows
import Derived.WalkKit
import Derived.ProofKit
import Derived.OpenShut
import Derived.ShutString
set_option linter.unusedVariables false
set_option linter.unusedSimpArgs false
namespace Go.Eng
open Go Go.Proofs


theorem bindO_of {α β : Type} {m : Option α} {k : α → Option β} {y : α} (h : m = some y) : bindO m k = k y := by rw [h]; rfl

theorem wf64 {a : Int} (h : (Lit.int .i64 a).wf = true) : -9223372036854775808 ≤ a ∧ a ≤ 9223372036854775807 := by
  simpa [Lit.wf, IntKind.min, IntKind.max, IntKind.signed, IntKind.bits] using h


theorem drop_at {α : Type} [Inhabited α] {l : List α} {k : Int} (h0 : 0 ≤ k) (h : k < (l.length : Int)) : l.drop k.toNat = at' l k :: l.drop (k + 1).toNat := by
  have hlt : k.toNat < l.length := by omega
  rw [List.drop_eq_getElem_cons hlt]
  have : (k + 1).toNat = k.toNat + 1 := by omega
  rw [this]
  congr 1
  simp [at', List.getD_eq_getElem?_getD, hlt]

theorem sub_all {α : Type} {l : List α} {k : Int} (h0 : 0 ≤ k) : sub' l k (l.length : Int) = l.drop k.toNat := by
  unfold sub'
  rw [List.take_of_length_le]
  simp

theorem byte_eq {b : UInt8} {n : Nat} (hn : n < 256) : ((b.toNat : Int) = n) ↔ b = UInt8.ofNat n := by
  constructor
  · intro h; apply UInt8.toNat_inj.1; simp; omega
  · intro h; rw [h]; simp; omega


theorem bt (b c : UInt8) (z : Int) (h : z = (c.toNat : Int)) : ((b.toNat : Int) = z) = (b = c) := by
  subst h
  apply propext
  constructor
  · intro h; apply UInt8.toNat_inj.1; omega
  · intro h; rw [h]

theorem optMatch {α β : Type} (m : Option α) (f : α → α) (s : α → β) (n : β) : (match m.map f with | some x => s x | none => n) = (match m with | some x => s (f x) | none => n) := by
  cases m <;> rfl

theorem indexByte_lt (l : List UInt8) (c : UInt8) : Lib.indexByte l c ≤ l.length := by
  induction l with
  | nil => simp [Lib.indexByte]
  | cons b l ih =>
    unfold Lib.indexByte
    simp only [List.length_cons]
    split
    · omega
    · split <;> omega


def dl : List UInt8 → UInt8 → Option (List UInt8)
  | [], q => if q = 0 then some [] else none
  | b :: r, q =>
    if q = 39 then (if b = 39 then dl r 0 else (dl r 39).map (b :: ·))
    else if b = 92 then
      match r with
      | [] => none
      | n :: r' => if n = 10 then dl r' q else if q = 0 ∨ n = 36 ∨ n = 34 ∨ n = 92 ∨ n = 96 then (dl r' q).map (n :: ·) else (dl (n :: r') q).map (b :: ·)
    else if b = 36 ∨ b = 96 then none
    else if b = 34 then (if q = 0 then dl r 34 else dl r 0)
    else if b = 39 ∧ q = 0 then dl r 39
    else (dl r q).map (b :: ·)
termination_by l _ => l.length
decreasing_by all_goals simp_wf <;> omega

def dlR (j : List UInt8 → Option (List UInt8 × Bool)) (o : List UInt8) (m : Option (List UInt8)) : Option (List UInt8 × Bool) := match m with
  | some s => j (o ++ s)
  | none => some ([], false)

theorem dlR_map (j : List UInt8 → Option (List UInt8 × Bool)) (o : List UInt8) (b : UInt8) (m : Option (List UInt8)) : dlR j o (m.map (b :: ·)) = dlR j (o ++ [b]) m := by
  cases m with
  | none => rfl
  | some s => simp [dlR]

theorem dlR_none (j : List UInt8 → Option (List UInt8 × Bool)) (o : List UInt8) : dlR j o none = some ([], false) := rfl

theorem s_loop (l : List UInt8) (hl : (l.length : Int) ≤ 1048576) (j : List UInt8 × UInt8 → Option (List UInt8 × Bool)) (hj : ∀ o q, q ≠ 0 → j (o, q) = some ([], false)) :
    ∀ (m : Nat) (o : List UInt8) (q : UInt8) (k : Int), 0 ≤ k → k ≤ (l.length : Int) → (o.length : Int) ≤ k → (l.length : Int) - k < m → 0 < m → (q = 0 ∨ q = 34 ∨ q = 39) →
    fixF (M_s_Delim_L1 l j) m (o, q, k) = dlR (fun o => j (o, 0)) o (dl (l.drop k.toNat) q) := by
  intro m
  induction m with
  | zero => intro o q k _ _ _ h h'; omega
  | succ m ih =>
    intro o q k hk hk' ho hm _ hq
    by_cases h1 : k < (l.length : Int)
    · have i1 : ∀ o' q', (o'.length : Int) ≤ k + 1 → (q' = 0 ∨ q' = 34 ∨ q' = 39) → fixF (M_s_Delim_L1 l j) m (o', q', k + 1) = dlR (fun o => j (o, 0)) o' (dl (l.drop (k + 1).toNat) q') := fun o' q' h2 h3 => ih o' q' (k + 1) (by omega) (by omega) h2 (by omega) (by omega) h3
      have i2 : k + 1 < (l.length : Int) → ∀ o' q', (o'.length : Int) ≤ k + 1 → (q' = 0 ∨ q' = 34 ∨ q' = 39) → fixF (M_s_Delim_L1 l j) m (o', q', k + 2) = dlR (fun o => j (o, 0)) o' (dl (l.drop (k + 2).toNat) q') := fun h0 o' q' h2 h3 => ih o' q' (k + 2) (by omega) (by omega) (by omega) (by omega) (by omega) h3
      have w1 : W (k + 1) = k + 1 := W_eq (by omega) (by omega)
      have w2 : W (k + 1 + 1) = k + 2 := by rw [W_eq (by omega) (by omega)]; omega
      have hg : ∀ b : UInt8, o.length + ([b] : List UInt8).length ≤ 536870912 := by intro b; simp; omega
      have hlen : ∀ b : UInt8, ((o ++ [b]).length : Int) ≤ k + 1 := by intro b; simp; omega
      simp only [fixF, M_s_Delim_L1, guardO, joinO, Bool.cond_decide, w1, w2, h1, hk, if_true, and_self, hg, bt _ 39 39 rfl, bt _ 92 92 rfl, bt _ 10 10 rfl, bt _ 36 36 rfl, bt _ 34 34 rfl, bt _ 96 96 rfl, bt _ 0 0 rfl]
      rw [drop_at hk h1]
      generalize at' l k = b at *
      by_cases h2 : k + 1 = (l.length : Int)
      · have hR : l.drop (k + 1).toNat = [] := List.drop_eq_nil_of_le (by omega)
        rw [hR] at i1 ⊢
        simp only [h2, decide_true, Bool.not_true, cond_false]
        rw [dl]
        have j0 := fun (b : UInt8) (q' : UInt8) (h : q' = 0 ∨ q' = 34 ∨ q' = 39) => i1 (o ++ [b]) q' (hlen b) h
        have j1 := fun (q' : UInt8) (h : q' = 0 ∨ q' = 34 ∨ q' = 39) => i1 o q' (by omega) h
        rw [h2] at j0 j1
        by_cases b39 : b = 39
        · subst b39
          rcases hq with rfl | rfl | rfl <;> simp [j0, j1, dlR_map]
        by_cases b92 : b = 92
        · subst b92
          rcases hq with rfl | rfl | rfl <;> simp [j0, j1, dlR_map, dlR_none]
        by_cases b36 : b = 36
        · subst b36
          rcases hq with rfl | rfl | rfl <;> simp [j0, j1, dlR_map, dlR_none]
        by_cases b96 : b = 96
        · subst b96
          rcases hq with rfl | rfl | rfl <;> simp [j0, j1, dlR_map, dlR_none]
        by_cases b34 : b = 34
        · subst b34
          rcases hq with rfl | rfl | rfl <;> simp [j0, j1, dlR_map, dlR_none]
        rcases hq with rfl | rfl | rfl <;> simp [j0, j1, dlR_map, b39, b92, b36, b96, b34]
      · have h3 : k + 1 < (l.length : Int) := by omega
        have hR : l.drop (k + 1).toNat = at' l (k + 1) :: l.drop (k + 2).toNat := by
          rw [drop_at (by omega) h3]; congr 2; omega
        have i2' := i2 h3
        rw [hR] at i1 ⊢
        generalize at' l (k + 1) = n at *
        have g1 : ¬ (k + 1 = (l.length : Int)) := h2
        have g2 : 0 ≤ k + 1 ∧ k + 1 < (l.length : Int) := by omega
        simp only [g1, g2, decide_false, Bool.not_false, cond_true, if_true, and_self]
        rw [dl]
        have j0 := fun (b : UInt8) (q' : UInt8) (h : q' = 0 ∨ q' = 34 ∨ q' = 39) => i1 (o ++ [b]) q' (hlen b) h
        have j1 := fun (q' : UInt8) (h : q' = 0 ∨ q' = 34 ∨ q' = 39) => i1 o q' (by omega) h
        have j2 := fun (b : UInt8) (q' : UInt8) (h : q' = 0 ∨ q' = 34 ∨ q' = 39) => i2' (o ++ [b]) q' (hlen b) h
        have j3 := fun (q' : UInt8) (h : q' = 0 ∨ q' = 34 ∨ q' = 39) => i2' o q' (by omega) h
        by_cases b39 : b = 39
        · subst b39
          rcases hq with rfl | rfl | rfl <;> simp [j0, j1, dlR_map]
        by_cases b92 : b = 92
        · subst b92
          by_cases n10 : n = 10
          · subst n10
            rcases hq with rfl | rfl | rfl <;> simp [j0, j1, j2, j3, dlR_map]
          by_cases n36 : n = 36
          · subst n36
            rcases hq with rfl | rfl | rfl <;> simp [j0, j1, j2, j3, dlR_map]
          by_cases n34 : n = 34
          · subst n34
            rcases hq with rfl | rfl | rfl <;> simp [j0, j1, j2, j3, dlR_map]
          by_cases n92 : n = 92
          · subst n92
            rcases hq with rfl | rfl | rfl <;> simp [j0, j1, j2, j3, dlR_map]
          by_cases n96 : n = 96
          · subst n96
            rcases hq with rfl | rfl | rfl <;> simp [j0, j1, j2, j3, dlR_map]
          rcases hq with rfl | rfl | rfl <;> simp [j0, j1, j2, j3, dlR_map, n10, n36, n34, n92, n96]
        by_cases b36 : b = 36
        · subst b36
          rcases hq with rfl | rfl | rfl <;> simp [j0, j1, dlR_map, dlR_none]
        by_cases b96 : b = 96
        · subst b96
          rcases hq with rfl | rfl | rfl <;> simp [j0, j1, dlR_map, dlR_none]
        by_cases b34 : b = 34
        · subst b34
          rcases hq with rfl | rfl | rfl <;> simp [j0, j1, dlR_map, dlR_none]
        rcases hq with rfl | rfl | rfl <;> simp [j0, j1, dlR_map, b39, b92, b36, b96, b34]
    · simp only [fixF, M_s_Delim_L1, guardO, joinO, Bool.cond_decide, h1, if_false]
      rw [List.drop_eq_nil_of_le (by omega)]
      simp only [dl]
      by_cases h2 : q = 0
      · subst h2; simp [dlR]
      · rw [hj _ _ h2, if_neg h2]; rfl

/-- The part in single quotes. -/
theorem dl_single (l : List UInt8) : dl l 39 = if Lib.indexByte l 39 < 0 then none else (dl (l.drop (Lib.indexByte l 39 + 1).toNat) 0).map ((l.take (Lib.indexByte l 39).toNat) ++ ·) := by
  induction l with
  | nil => simp [dl, Lib.indexByte]
  | cons b l ih =>
    rw [dl.eq_def, Lib.indexByte]
    by_cases h : b = 39
    · subst h; simp
    · have h4 : (b == 39) = false := by simpa using h
      have hge := Lib.indexByte_ge l 39
      simp only [if_true, h, if_false, h4, Bool.false_eq_true]
      rw [ih]
      generalize Lib.indexByte l 39 = p at *
      by_cases h5 : p = -1
      · subst h5; simp
      · have h6 : (p == -1) = false := by simpa using h5
        simp only [h6, Bool.false_eq_true, if_false]
        rw [if_neg (by omega), if_neg (by omega)]
        have e1 : (p + 1 + 1).toNat = (p + 1).toNat + 1 := by omega
        have e2 : (p + 1).toNat = p.toNat + 1 := by omega
        rw [e1, e2, List.drop_succ_cons, List.take_succ_cons, Option.map_map]
        rfl

/-- Where the part in double quotes ends. -/
theorem q_loop (l : List UInt8) (hl : (l.length : Int) ≤ 1048576) (j : Unit → Option (List UInt8 × Int)) (hj : j () = some ([], -1)) :
    ∀ (m : Nat) (o : List UInt8) (k : Int), 0 ≤ k → k ≤ (l.length : Int) → (o.length : Int) ≤ k → (l.length : Int) - k < m → 0 < m →
    (fixF (M_i_quoted_L1 l j) m (o, k) = some ([], -1) ∧ dl (l.drop k.toNat) 34 = none) ∨
    ∃ (s : List UInt8) (k' : Int), fixF (M_i_quoted_L1 l j) m (o, k) = some (o ++ s, k') ∧ k < k' ∧ k' ≤ (l.length : Int) ∧ ((o ++ s).length : Int) ≤ k' ∧ dl (l.drop k.toNat) 34 = (dl (l.drop k'.toNat) 0).map (s ++ ·) := by
  intro m
  induction m with
  | zero => intro o k _ _ _ h h'; omega
  | succ m ih =>
    intro o k hk hk' ho hm _
    by_cases h1 : k < (l.length : Int)
    · have w1 : W (k + 1) = k + 1 := W_eq (by omega) (by omega)
      have w2 : W (k + 1 + 1) = k + 2 := by rw [W_eq (by omega) (by omega)]; omega
      have hg : ∀ b : UInt8, o.length + ([b] : List UInt8).length ≤ 536870912 := by intro b; simp; omega
      have hg2 : ∀ b c : UInt8, o.length + ([b, c] : List UInt8).length ≤ 536870912 := by intro b c; simp; omega
      simp only [fixF, M_i_quoted_L1, guardO, joinO, Bool.cond_decide, w1, w2, h1, hk, if_true, and_self, hg, hg2, bt _ 39 39 rfl, bt _ 92 92 rfl, bt _ 10 10 rfl, bt _ 36 36 rfl, bt _ 34 34 rfl, bt _ 96 96 rfl]
      rw [drop_at hk h1]
      -- the step by some bytes
      have step1 : ∀ (t : List UInt8), (t.length : Int) ≤ 1 → dl (at' l k :: l.drop (k + 1).toNat) 34 = (dl (l.drop (k + 1).toNat) 34).map (t ++ ·) →
          (fixF (M_i_quoted_L1 l j) m (o ++ t, k + 1) = some ([], -1) ∧ dl (at' l k :: l.drop (k + 1).toNat) 34 = none) ∨
          ∃ (s : List UInt8) (k' : Int), fixF (M_i_quoted_L1 l j) m (o ++ t, k + 1) = some (o ++ s, k') ∧ k < k' ∧ k' ≤ (l.length : Int) ∧ ((o ++ s).length : Int) ≤ k' ∧ dl (at' l k :: l.drop (k + 1).toNat) 34 = (dl (l.drop k'.toNat) 0).map (s ++ ·) := by
        intro t ht he
        rcases ih (o ++ t) (k + 1) (by omega) (by omega) (by simp; omega) (by omega) (by omega) with ⟨r1, r2⟩ | ⟨s, k', r1, r2, r3, r4, r5⟩
        · exact .inl ⟨r1, by rw [he, r2]; rfl⟩
        · refine .inr ⟨t ++ s, k', by rw [r1, List.append_assoc], by omega, r3, by rw [← List.append_assoc]; exact r4, ?_⟩
          rw [he, r5, Option.map_map]
          congr 1
          funext x; simp
      have step2 : ∀ (t : List UInt8), k + 1 < (l.length : Int) → (t.length : Int) ≤ 2 → dl (at' l k :: l.drop (k + 1).toNat) 34 = (dl (l.drop (k + 2).toNat) 34).map (t ++ ·) →
          (fixF (M_i_quoted_L1 l j) m (o ++ t, k + 2) = some ([], -1) ∧ dl (at' l k :: l.drop (k + 1).toNat) 34 = none) ∨
          ∃ (s : List UInt8) (k' : Int), fixF (M_i_quoted_L1 l j) m (o ++ t, k + 2) = some (o ++ s, k') ∧ k < k' ∧ k' ≤ (l.length : Int) ∧ ((o ++ s).length : Int) ≤ k' ∧ dl (at' l k :: l.drop (k + 1).toNat) 34 = (dl (l.drop k'.toNat) 0).map (s ++ ·) := by
        intro t h0 ht he
        rcases ih (o ++ t) (k + 2) (by omega) (by omega) (by simp; omega) (by omega) (by omega) with ⟨r1, r2⟩ | ⟨s, k', r1, r2, r3, r4, r5⟩
        · exact .inl ⟨r1, by rw [he, r2]; rfl⟩
        · refine .inr ⟨t ++ s, k', by rw [r1, List.append_assoc], by omega, r3, by rw [← List.append_assoc]; exact r4, ?_⟩
          rw [he, r5, Option.map_map]
          congr 1
          funext x; simp
      by_cases h2 : k + 1 = (l.length : Int)
      · have hR : l.drop (k + 1).toNat = [] := List.drop_eq_nil_of_le (by omega)
        rw [hR] at step1 ⊢
        generalize at' l k = b at *
        by_cases b34 : b = 34
        · subst b34
          refine .inr ⟨[], k + 1, by simp, by omega, by omega, by simp; omega, ?_⟩
          rw [hR]; simp [dl]
        by_cases b92 : b = 92
        · subst b92
          refine .inl ⟨?_, by simp [dl]⟩
          simp [h2]
        by_cases b36 : b = 36
        · subst b36
          exact .inl ⟨by simp, by simp [dl]⟩
        by_cases b96 : b = 96
        · subst b96
          exact .inl ⟨by simp, by simp [dl]⟩
        simp [b34, b92, b36, b96]
        simpa using step1 [b] (by simp) (by simp [dl, b34, b92, b36, b96])
      · have h3 : k + 1 < (l.length : Int) := by omega
        have hR : l.drop (k + 1).toNat = at' l (k + 1) :: l.drop (k + 2).toNat := by
          rw [drop_at (by omega) h3]; congr 2; omega
        rw [hR] at step1 step2 ⊢
        generalize at' l (k + 1) = n at *
        generalize at' l k = b at *
        have g1 : ¬ (k + 1 = (l.length : Int)) := h2
        have g2 : 0 ≤ k + 1 ∧ k + 1 < (l.length : Int) := by omega
        simp only [g1, g2, if_false, if_true, and_self]
        by_cases b34 : b = 34
        · subst b34
          refine .inr ⟨[], k + 1, by simp, by omega, by omega, by simp; omega, ?_⟩
          rw [hR]
          conv => lhs; rw [dl]
          simp
        by_cases b92 : b = 92
        · subst b92
          by_cases n10 : n = 10
          · subst n10
            simpa using step2 [] h3 (by simp) (by rw [dl]; simp)
          by_cases n36 : n = 36
          · subst n36
            simpa using step2 [36] h3 (by simp) (by rw [dl]; simp)
          by_cases n34 : n = 34
          · subst n34
            simpa using step2 [34] h3 (by simp) (by rw [dl]; simp)
          by_cases n92 : n = 92
          · subst n92
            simpa using step2 [92] h3 (by simp) (by rw [dl]; simp)
          by_cases n96 : n = 96
          · subst n96
            simpa using step2 [96] h3 (by simp) (by rw [dl]; simp)
          have := step2 [92, n] h3 (by simp) (by rw [dl]; simp [n10, n36, n34, n92, n96]; rw [dl.eq_def]; simp [n10, n36, n34, n92, n96]; cases dl (l.drop (k + 2).toNat) 34 <;> rfl)
          simpa [n10, n36, n34, n92, n96] using this
        by_cases b36 : b = 36
        · subst b36
          exact .inl ⟨by simp, by rw [dl]; simp⟩
        by_cases b96 : b = 96
        · subst b96
          exact .inl ⟨by simp, by rw [dl]; simp⟩
        have := step1 [b] (by simp) (by rw [dl]; simp [b34, b92, b36, b96])
        simpa [b34, b92, b36, b96] using this
    · simp only [fixF, M_i_quoted_L1, guardO, joinO, Bool.cond_decide, h1, if_false]
      rw [List.drop_eq_nil_of_le (by omega)]
      exact .inl ⟨hj, by simp [dl]⟩

theorem i_single (l : List UInt8) (hl : (l.length : Int) ≤ 1048576) (a : Int) (h0 : 0 ≤ a) (h1 : a ≤ (l.length : Int)) :
    M_i_SkipSingle l a = some (if Lib.indexByte (l.drop a.toNat) 39 < 0 then -1 else a + Lib.indexByte (l.drop a.toNat) 39 + 1) := by
  have hx := indexByte_lt (l.drop a.toNat) 39
  have hy := Lib.indexByte_ge (l.drop a.toNat) 39
  simp only [List.length_drop] at hx
  unfold M_i_SkipSingle M_i_within M_strings_IndexByte
  have e : max (0:Int) (min a (l.length : Int)) = a := by omega
  simp only [bindO, guardO, e]
  rw [if_pos ⟨h0, h1, Int.le_refl _⟩, sub_all h0]
  generalize Lib.indexByte (l.drop a.toNat) 39 = p at *
  simp only [Bool.cond_decide]
  split
  · rfl
  · rw [W_eq (x := a + p) (by omega) (by omega), W_eq (by omega) (by omega)]

theorem dlR_app (j : List UInt8 → Option (List UInt8 × Bool)) (o s : List UInt8) (m : Option (List UInt8)) : dlR j o (m.map (s ++ ·)) = dlR j (o ++ s) m := by
  cases m with
  | none => rfl
  | some t => simp [dlR]

theorem i_loop (l : List UInt8) (hl : (l.length : Int) ≤ 1048576) (j : List UInt8 → Option (List UInt8 × Bool)) :
    ∀ (m : Nat) (o : List UInt8) (k : Int), 0 ≤ k → k ≤ (l.length : Int) → (o.length : Int) ≤ k → (l.length : Int) - k < m → 0 < m →
    fixF (M_i_Delim_L1 l j) m (o, k) = dlR j o (dl (l.drop k.toNat) 0) := by
  intro m
  induction m with
  | zero => intro o k _ _ _ h h'; omega
  | succ m ih =>
    intro o k hk hk' ho hm _
    by_cases h1 : k < (l.length : Int)
    · have w1 : W (k + 1) = k + 1 := W_eq (by omega) (by omega)
      have w2 : W (k + 2) = k + 2 := W_eq (by omega) (by omega)
      have hg : ∀ b : UInt8, o.length + ([b] : List UInt8).length ≤ 536870912 := by intro b; simp; omega
      have hsg := i_single l hl (k + 1) (by omega) (by omega)
      simp only [fixF, M_i_Delim_L1, guardO, joinO, Bool.cond_decide, w1, w2, h1, hk, if_true, and_self, hg, bt _ 39 39 rfl, bt _ 92 92 rfl, bt _ 10 10 rfl, bt _ 36 36 rfl, bt _ 34 34 rfl, bt _ 96 96 rfl]
      rw [bindO_of hsg, drop_at hk h1]
      have i1 : ∀ o', (o'.length : Int) ≤ k + 1 → fixF (M_i_Delim_L1 l j) m (o', k + 1) = dlR j o' (dl (l.drop (k + 1).toNat) 0) := fun o' h2 => ih o' (k + 1) (by omega) (by omega) h2 (by omega) (by omega)
      have hlen : ∀ b : UInt8, ((o ++ [b]).length : Int) ≤ k + 1 := by intro b; simp; omega
      by_cases b39 : at' l k = 39
      · rw [b39]
        simp only [show ¬ ((39 : UInt8) = 92) by decide, if_false, if_true]
        have hd : dl (39 :: l.drop (k + 1).toNat) 0 = dl (l.drop (k + 1).toNat) 39 := by rw [dl.eq_def]; simp
        rw [hd, dl_single]
        have hx := indexByte_lt (l.drop (k + 1).toNat) 39
        have hy := Lib.indexByte_ge (l.drop (k + 1).toNat) 39
        simp only [List.length_drop] at hx
        generalize hp : Lib.indexByte (l.drop (k + 1).toNat) 39 = p at *
        have hlt : 0 ≤ p → k + 1 + p < (l.length : Int) := by
          intro h0
          have : ∀ (l : List UInt8), 0 ≤ Lib.indexByte l 39 → Lib.indexByte l 39 < l.length := by
            intro l
            induction l with
            | nil => intro h; simp [Lib.indexByte] at h
            | cons b l ih =>
              unfold Lib.indexByte
              intro h
              simp only [List.length_cons]
              split
              · omega
              · rename_i hb
                rw [if_neg hb] at h
                split
                · rename_i he; rw [if_pos he] at h; omega
                · rename_i he
                  rw [if_neg he] at h
                  have hge := Lib.indexByte_ge l 39
                  have : Lib.indexByte l 39 ≠ -1 := by simpa using he
                  have := ih (by omega)
                  omega
          have := this (l.drop (k + 1).toNat) (by omega)
          simp only [List.length_drop] at this
          omega
        by_cases hn : p < 0
        · simp only [hn, if_true]
          simp [dlR_none]
        · simp only [hn, if_false]
          have := hlt (by omega)
          rw [if_neg (by omega), W_eq (x := k + 1 + p + 1 - 1) (by omega) (by omega)]
          have e3 : k + 1 + p + 1 - 1 = k + 1 + p := by omega
          rw [e3, if_pos ⟨by omega, by omega, by omega⟩]
          have hsub : sub' l (k + 1) (k + 1 + p) = (l.drop (k + 1).toNat).take p.toNat := by
            unfold sub'
            congr 1; omega
          have hsl : ((sub' l (k + 1) (k + 1 + p)).length : Int) ≤ p := by
            rw [hsub]; simp; omega
          rw [if_pos (by omega), hsub, dlR_app, List.drop_drop]
          rw [hsub] at hsl
          rw [ih _ _ (by omega) (by omega) (by simp only [List.length_append]; omega) (by omega) (by omega)]
          congr 3
          omega
      · by_cases b34 : at' l k = 34
        · rw [b34]
          simp only [show ¬ ((34 : UInt8) = 92) by decide, show ¬ ((34 : UInt8) = 39) by decide, if_false, if_true]
          have hd : dl (34 :: l.drop (k + 1).toNat) 0 = dl (l.drop (k + 1).toNat) 34 := by rw [dl.eq_def]; simp
          rw [hd]
          have hq : M_i_quoted l (k + 1) o = fixF (M_i_quoted_L1 l fun _ => some ([], -1)) FUEL (o, k + 1) := rfl
          rcases q_loop l hl (fun _ => some ([], -1)) rfl FUEL o (k + 1) (by omega) (by omega) (by omega) (by rw [fuel_eq]; omega) (by rw [fuel_eq]; omega) with ⟨r1, r2⟩ | ⟨s, k', r1, r2, r3, r4, r5⟩
          · rw [bindO_of (hq.trans r1), r2]
            simp [dlR_none]
          · rw [bindO_of (hq.trans r1), r5, dlR_app]
            simp only []
            rw [if_neg (by omega)]
            exact ih _ _ (by omega) r3 r4 (by omega) (by omega)
        · simp only [b39, b34, if_false]
          by_cases h2 : k + 1 = (l.length : Int)
          · have hR : l.drop (k + 1).toNat = [] := List.drop_eq_nil_of_le (by omega)
            rw [hR] at i1 ⊢
            generalize at' l k = b at *
            by_cases b92 : b = 92
            · subst b92
              simp [h2, dl, dlR_none]
            by_cases b36 : b = 36
            · subst b36; simp [dl, dlR_none]
            by_cases b96 : b = 96
            · subst b96; simp [dl, dlR_none]
            simp only [b92, b36, b96, if_false, decide_false, cond_false, Bool.false_eq_true]
            rw [i1 _ (hlen b), show [b] = b :: ([] : List UInt8) from rfl]
            conv => rhs; rw [dl.eq_def]
            simp [b39, b34, b92, b36, b96, dlR_map]
          · have h3 : k + 1 < (l.length : Int) := by omega
            have hR : l.drop (k + 1).toNat = at' l (k + 1) :: l.drop (k + 2).toNat := by
              rw [drop_at (by omega) h3]; congr 2; omega
            have i2 : ∀ o', (o'.length : Int) ≤ k + 2 → fixF (M_i_Delim_L1 l j) m (o', k + 2) = dlR j o' (dl (l.drop (k + 2).toNat) 0) := fun o' h2 => ih o' (k + 2) (by omega) (by omega) h2 (by omega) (by omega)
            have g2 : 0 ≤ k + 1 ∧ k + 1 < (l.length : Int) := by omega
            rw [hR] at i1 ⊢
            generalize at' l (k + 1) = n at *
            generalize at' l k = b at *
            simp only [h2, g2, if_false, if_true, and_self]
            by_cases b92 : b = 92
            · subst b92
              by_cases n10 : n = 10
              · subst n10
                have : dl (92 :: 10 :: l.drop (k + 2).toNat) 0 = dl (l.drop (k + 2).toNat) 0 := by rw [dl.eq_def]; simp
                rw [this, ← i2 o (by omega)]
                simp
              · have : dl (92 :: n :: l.drop (k + 2).toNat) 0 = (dl (l.drop (k + 2).toNat) 0).map (n :: ·) := by rw [dl.eq_def]; simp [n10]
                rw [this, dlR_map, ← i2 _ (by have := hlen n; omega)]
                simp [n10]
            by_cases b36 : b = 36
            · subst b36
              have : dl (36 :: n :: l.drop (k + 2).toNat) 0 = none := by rw [dl.eq_def]; simp
              rw [this]; simp [dlR_none]
            by_cases b96 : b = 96
            · subst b96
              have : dl (96 :: n :: l.drop (k + 2).toNat) 0 = none := by rw [dl.eq_def]; simp
              rw [this]; simp [dlR_none]
            have : dl (b :: n :: l.drop (k + 2).toNat) 0 = (dl (n :: l.drop (k + 2).toNat) 0).map (b :: ·) := by rw [dl.eq_def]; simp [b39, b34, b92, b36, b96]
            rw [this, dlR_map, ← i1 _ (hlen b)]
            simp [b92, b36, b96]
    · simp only [fixF, M_i_Delim_L1, guardO, joinO, Bool.cond_decide, h1, if_false]
      rw [List.drop_eq_nil_of_le (by omega)]
      simp [dl, dlR]

theorem dl_len : ∀ (n : Nat) (l : List UInt8), l.length ≤ n → ∀ (q : UInt8) (s : List UInt8), dl l q = some s → s.length ≤ l.length := by
  intro n
  induction n with
  | zero =>
    intro l hn q s h
    have : l = [] := List.length_eq_zero_iff.1 (by omega)
    subst this
    simp only [dl] at h
    split at h
    · simp only [Option.some.injEq] at h; subst h; simp
    · cases h
  | succ n ih =>
    intro l hn q s h
    match l with
    | [] =>
      simp only [dl] at h
      split at h
      · simp only [Option.some.injEq] at h; subst h; simp
      · cases h
    | b :: r =>
      simp only [List.length_cons] at hn ⊢
      have key : ∀ (q' : UInt8), dl r q' = some s → s.length ≤ r.length + 1 := fun q' h' => by have := ih r (by omega) q' s h'; omega
      have keym : ∀ (q' c : UInt8), (dl r q').map (c :: ·) = some s → s.length ≤ r.length + 1 := by
        intro q' c h'
        cases hd : dl r q' with
        | none => rw [hd] at h'; cases h'
        | some t =>
          rw [hd] at h'
          simp only [Option.map_some, Option.some.injEq] at h'
          subst h'
          have := ih r (by omega) q' t hd
          simp; omega
      rw [dl.eq_def] at h
      simp only at h
      split at h
      · split at h
        · exact key _ h
        · exact keym _ _ h
      · split at h
        · match r, key, keym, h with
          | [], _, _, h => cases h
          | x :: r', key, keym, h =>
            simp only at h
            simp only [List.length_cons] at hn key keym ⊢
            split at h
            · have := ih r' (by omega) _ _ h; omega
            · split at h
              · cases hd : dl r' q with
                | none => rw [hd] at h; cases h
                | some t =>
                  rw [hd] at h
                  simp only [Option.map_some, Option.some.injEq] at h
                  subst h
                  have := ih r' (by omega) q t hd
                  simp; omega
              · exact keym _ _ h
        · split at h
          · cases h
          · split at h
            · split at h
              · exact key _ h
              · exact key _ h
            · split at h
              · exact key _ h
              · exact keym _ _ h

theorem nl_loop (l : List UInt8) (hl : (l.length : Int) ≤ 1048576) : ∀ (m : Nat) (k : Int), 0 ≤ k → k ≤ (l.length : Int) → (l.length : Int) - k < m → 0 < m →
    fixF (M_s_Delim_L2 l fun x => some (x, true)) m k = if 0 ≤ Lib.indexByte (l.drop k.toNat) 10 then some ([], false) else some (l, true) := by
  intro m
  induction m with
  | zero => intro k _ _ h h'; omega
  | succ m ih =>
    intro k hk hk' hm _
    simp only [fixF, M_s_Delim_L2, guardO, Bool.cond_decide]
    by_cases h1 : k < (l.length : Int)
    · simp only [h1, hk, if_true, and_self, bt _ 10 10 rfl]
      rw [W_eq (by omega) (by omega), drop_at hk h1, Lib.indexByte]
      by_cases h2 : at' l k = 10
      · simp [h2]
      · have h4 : (at' l k == 10) = false := by simpa using h2
        have hge := Lib.indexByte_ge (l.drop (k + 1).toNat) 10
        simp only [h2, h4, if_false, Bool.false_eq_true]
        rw [ih _ (by omega) (by omega) (by omega) (by omega)]
        generalize Lib.indexByte (l.drop (k + 1).toNat) 10 = p at *
        by_cases h5 : p = -1
        · subst h5; simp
        · have : (p == -1) = false := by simpa using h5
          simp only [this, Bool.false_eq_true, if_false]
          rw [if_pos (by omega), if_pos (by omega)]
    · simp only [h1, if_false]
      rw [List.drop_eq_nil_of_le (by omega)]
      simp [Lib.indexByte]

theorem law_Delim (l : List UInt8) : M_l_FnExactDelim l = some true := by
  simp only [M_l_FnExactDelim, Bool.cond_decide]
  split
  · rfl
  · rename_i h
    have hl : (l.length : Int) ≤ 1048576 := by omega
    have e1 : M_s_Delim l = dlR (fun s => if 0 ≤ Lib.indexByte s 10 then some ([], false) else some (s, true)) [] (dl l 0) := by
      unfold M_s_Delim
      simp only [joinO]
      rw [s_loop l hl _ (by intro o q hq; simp only [bt _ 0 0 rfl, hq, decide_false, Bool.not_false, cond_true]) FUEL [] 0 0 (by omega) (by omega) (by simp) (by rw [fuel_eq]; omega) (by rw [fuel_eq]; omega) (.inl rfl)]
      simp only [Int.toNat_zero, List.drop_zero]
      cases hd : dl l 0 with
      | none => rfl
      | some s =>
        have hs := dl_len _ l (Nat.le_refl _) 0 s hd
        simp only [dlR, List.nil_append]
        have : (!decide (((0 : UInt8).toNat : Int) = 0)) = false := by decide
        simp only [this, cond_false]
        rw [nl_loop s (by omega) FUEL 0 (by omega) (by omega) (by rw [fuel_eq]; omega) (by rw [fuel_eq]; omega)]
        simp
    have e2 : M_i_Delim l = dlR (fun s => if 0 ≤ Lib.indexByte s 10 then some ([], false) else some (s, true)) [] (dl l 0) := by
      unfold M_i_Delim
      simp only [joinO]
      rw [i_loop l hl _ FUEL [] 0 (by omega) (by omega) (by simp) (by rw [fuel_eq]; omega) (by rw [fuel_eq]; omega)]
      simp only [Int.toNat_zero, List.drop_zero]
      cases hd : dl l 0 with
      | none => rfl
      | some s =>
        simp only [dlR, List.nil_append, M_strings_Contains, bindO, Bool.cond_decide]
    rw [e1, e2]
    cases hd : dlR (fun s => if 0 ≤ Lib.indexByte s 10 then some ([], false) else some (s, true)) [] (dl l 0) with
    | none =>
      exfalso
      cases h3 : dl l 0 with
      | none => rw [h3] at hd; simp [dlR] at hd
      | some s =>
        rw [h3] at hd
        simp only [dlR] at hd
        split at hd <;> cases hd
    | some y => simp [bindO]

end Go.Eng

namespace Go.Proofs.Ytmgjbhlcejcjeaa.fnExactDelim
open Go.ChangeShapes Go.WideShapes Go.ChangeAt Go.RowKit Go.Eng
open Go.ChangeMaps (open_string shut_string)

theorem own : ownKnob Try.prog.godebug = none := by kernel_rfl
theorem laidOut : laidOutB Try.prog = true := by kernel_rfl

theorem walk (a0 : ByteArray) (w : World) (w0 : a0.size ≤ maxLen) :
    Calls Try.prog 3 #[.string a0] w fun e w' => e = .returned (.bool true) ∧ Below w.heap.size w w' := by
  have h := ok_l_FnExactDelim a0.data.toList  true (law_Delim a0.data.toList )
  refine Calls.mono (h.calls w ?_) ?_
  · intro x hx
    cases hx
  · rintro e w' ⟨r, -, he, hk, -⟩
    exact ⟨he, hk.below⟩

set_option maxRecDepth 100000 in
theorem lifted (os : Os) (started : os.Started) (H : Type) (enc : TypeId × Value → H) :
    ReturnsInHanded {} Try.checked os 3 .any (Rows.fnExactDelimSpec.pre6 enc Try.prog Try.f3 Rows.fnExactDelimRow.domain false) (Rows.fnExactDelimSpec.post enc Try.prog Try.f3 false true false false) := by
  refine returnsInHanded_of_change (C := Try.checked) own started (by kernel_rfl) Try.func3
    (ChangeSpec.witness6 (enc := enc) (C := Try.checked) false ⟨#[], #[.string ByteArray.empty], []⟩ 8 (by kernel_rfl) (by kernel_rfl) (by kernel_rfl) (by kernel_rfl)) ?_
  intro W base args ds gs before hval0 hW hcnd _
  have hval : ∀ (j : Nat) t v, Try.f3.params[j]? = some t → args[j]? = some v → Value.okWide Try.prog W .any base t v := hval0
  have hW' := hW
  obtain ⟨p, q, hA0, hV, rfl, hfz, hnd⟩ := hW
  have hA : DataW.TrodAll enc Try.prog W 0 (fun _ => true) true Try.f3.params.toList args.toList ds p := hA0
  rw [Try.params3] at hA hval
  obtain ⟨v0, vs0, d0, ds0, p0, q0, hargs, rfl, rfl, h0, r0⟩ := trodAll_cons hA
  obtain ⟨rfl, rfl, rfl⟩ := trodAll_nil r0
  obtain rfl : args = #[v0] := by cases args; simp_all
  obtain ⟨rfl, rfl⟩ := trodVars_none hV
  obtain ⟨a0, rfl, rfl, rfl, w0⟩ := open_string Try.underlying9 (hval 0 9 v0 rfl rfl) h0
  clear hA0 hval0
  simp only [List.append_nil] at hW'
  refine (walk a0 W w0).mono fun e W' ⟨he, bel⟩ => ?_
  subst he
  exact ⟨_, rfl, _, _, _, [], _, [], hW', trodAll_mk1 (shut_bool Try.underlying4 _), (trodAll_cons_mk (shut_string Try.underlying9 w0) trodAll_mk0), rfl, bel.frame _, fun h => by cases h⟩

theorem over : Rows.fnExactDelimRow.holds Try.pinned (OpenSpec.ofChange Rows.fnExactDelimSpec) :=
  OpenClaim.holds_of_wide 3 Try.f3 rfl rfl rfl rfl rfl rfl rfl ⟨rfl, rfl, rfl, rfl, rfl⟩ rfl rfl rfl rfl rfl (by kernel_rfl) Try.func3 (by kernel_rfl)
    (of_decide_eq_true (by kernel_rfl)) (by unfold Func.isWrapper; first | (rw [if_pos (by decide +kernel)]; kernel_rfl) | (rw [if_neg (by decide +kernel)]; exact ⟨rfl, rfl⟩))
    (fun os started H enc _ => lifted os started H enc)

theorem proved : Rows.FnExactDelimSaid := over
#print axioms proved
end Go.Proofs.Ytmgjbhlcejcjeaa.fnExactDelim
