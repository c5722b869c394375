/- FnGrid: for every input the given law returns true and leaves its arguments as they were. No condition. -/
import Derived.Test.YtokbomfmkllghaaFnGridWalkA
import Derived.Test.YtokbomfmkllghaaRows
import Derived.WalkKit
import Derived.ProofKit
import Derived.OpenShut
import Derived.ShutString
set_option linter.unusedVariables false
set_option linter.unusedSimpArgs false
namespace Go.Eng
open Go Go.Proofs

theorem bindO_of {α β : Type} {m : Option α} {k : α → Option β} {y : α} (h : m = some y) : bindO m k = k y := by rw [h]; rfl

theorem bindO_ret {α β : Type} (y : α) (k : α → Option β) : bindO (some y) k = k y := rfl

theorem callO_pos {α β : Type} {c : Prop} [Decidable c] {x d : α} {k : α → Option β} (h : c) : callO c (some x) d k = k x := by
  unfold callO; rw [if_pos h]; rfl
theorem in_eq (a b c : Int) : M_i_in a b c = some (decide (b ≤ a ∧ a ≤ c)) := by
  unfold M_i_in
  congr 1
  by_cases h1 : b ≤ a <;> by_cases h2 : a ≤ c <;> simp [h1, h2]

def pr (r : Int) : Bool := decide ((0 ≤ r ∧ r ≤ 1114111 ∧ (r < 55296 ∨ 57343 < r)) ∧ 32 ≤ r ∧ (r < 127 ∨ 159 < r))

theorem callO_of {α β : Type} {c : Prop} [Decidable c] {x d : α} {k : α → Option β} : callO c (some x) d k = k (if c then x else d) := by
  unfold callO
  split <;> simp [bindO, *]

theorem printable_s (r : Int) : M_s_Printable r = some (pr r) := by
  unfold M_s_Printable pr M_s_RuneOk
  simp only [bindO]
  congr 1
  by_cases h1 : 0 ≤ r <;> by_cases h2 : r ≤ 1114111 <;> by_cases h3 : r < 55296 <;> by_cases h4 : 57343 < r <;> by_cases h5 : 32 ≤ r <;> by_cases h6 : r < 127 <;> simp [h1, h2, h3, h4, h5, h6]

theorem printable_i (r : Int) : M_i_Printable r = some (pr r) := by
  unfold M_i_Printable pr M_i_RuneOk
  simp only [in_eq, callO_of, bindO]
  congr 1
  by_cases h1 : 0 ≤ r ∧ r ≤ 1114111
  · by_cases h2 : 55296 ≤ r ∧ r ≤ 57343
    · have : ¬ (r < 55296 ∨ 57343 < r) := by omega
      simp [h1, h2, this]
    · have : (r < 55296 ∨ 57343 < r) := by omega
      by_cases h5 : 32 ≤ r
      · by_cases h6 : 127 ≤ r ∧ r ≤ 159
        · have : ¬ (r < 127 ∨ 159 < r) := by omega
          simp [h1, h2, h5, h6, this]
        · have : (r < 127 ∨ 159 < r) := by omega
          simp [h1, h2, h5, h6, *]
      · simp [h1, h2, h5]
  · have : ¬ (0 ≤ r ∧ r ≤ 1114111 ∧ (r < 55296 ∨ 57343 < r)) := fun h => h1 ⟨h.1, h.2.1⟩
    simp [h1, this]

theorem drop_at {α : Type} [Inhabited α] {l : List α} {k : Int} (h0 : 0 ≤ k) (h : k < (l.length : Int)) : l.drop k.toNat = at' l k :: l.drop (k + 1).toNat := by
  have hlt : k.toNat < l.length := by omega
  rw [List.drop_eq_getElem_cons hlt]
  have : (k + 1).toNat = k.toNat + 1 := by omega
  rw [this]
  congr 1
  simp [at', List.getD_eq_getElem?_getD, hlt]

theorem sub_all {α : Type} {l : List α} {k : Int} (h0 : 0 ≤ k) : sub' l k (l.length : Int) = l.drop k.toNat := by
  unfold sub'
  rw [List.take_of_length_le]
  simp

def wtab : List (Int × Int) := [(4352, 4447), (11904, 42191), (44032, 55203), (63744, 64255), (65280, 65376), (65504, 65510), (127744, 129791), (131072, 262141)]
def wflat : List Int := [4352, 4447, 11904, 42191, 44032, 55203, 63744, 64255, 65280, 65376, 65504, 65510, 127744, 129791, 131072, 262141]
def wide (r : Int) (l : List (Int × Int)) : Bool := l.any fun p => decide (p.1 ≤ r ∧ r ≤ p.2)
/-- The columns of a rune. -/
def wd (r : Int) : Int := if pr r = true then (if wide r wtab = true then 2 else 1) else 0

theorem width_i_loop (r : Int) (j : Unit → Option Int) : ∀ (m : Nat) (k : Int), 0 ≤ k → k ≤ 8 → 8 - k < m →
    fixF (M_i_Width_L1 r j) m k = if wide r (wtab.drop k.toNat) = true then some 2 else j () := by
  intro m
  induction m with
  | zero => intro k _ _ h; omega
  | succ m ih =>
    intro k h0 h8 hm
    have hl : (wtab.length : Int) = 8 := rfl
    have hstep : fixF (M_i_Width_L1 r j) (m + 1) k = (bif decide (k < (wtab.length : Int)) then guardO (0 ≤ k ∧ k < (wtab.length : Int)) (bindO (M_i_in r (at' wtab k).1 (at' wtab k).2) fun y => bif y then some 2 else fixF (M_i_Width_L1 r j) m (W (k + 1))) else j ()) := rfl
    rw [hstep]
    by_cases h : k < (wtab.length : Int)
    · rw [decide_eq_true h, cond_true, guardO, if_pos ⟨h0, h⟩, in_eq, bindO_of rfl, drop_at h0 h]
      unfold wide
      rw [List.any_cons]
      by_cases hc : (at' wtab k).1 ≤ r ∧ r ≤ (at' wtab k).2
      · simp [hc]
      · rw [decide_eq_false hc, cond_false, Bool.false_or, W_eq (by omega) (by omega)]
        exact ih (k + 1) (by omega) (by omega) (by omega)
    · have h' : k.toNat = 8 := by omega
      rw [decide_eq_false h, cond_false, h']
      rfl

theorem width_i (r : Int) : M_i_Width r = some (wd r) := by
  unfold M_i_Width wd
  rw [bindO_of (printable_i r)]
  cases pr r with
  | false => rfl
  | true =>
    simp only [Bool.not_true, cond_false, joinO, if_true]
    rw [width_i_loop r _ FUEL 0 (by omega) (by omega) (by rw [fuel_eq]; omega)]
    simp only [Int.toNat_zero, List.drop_zero]
    split <;> rfl

theorem wflat_at : ∀ k : Fin 8, (at' wflat (2 * (k.val : Int)), at' wflat (2 * (k.val : Int) + 1)) = at' wtab (k.val : Int) := by decide

theorem width_s_loop (r : Int) (j : Unit → Option Int) : ∀ (m : Nat) (k : Int), 0 ≤ k → k ≤ 8 → 8 - k < m →
    fixF (M_s_Width_L1 r wflat j) m (2 * k) = if wide r (wtab.drop k.toNat) = true then some 2 else j () := by
  intro m
  induction m with
  | zero => intro k _ _ h; omega
  | succ m ih =>
    intro k h0 h8 hm
    have hl : (wflat.length : Int) = 16 := rfl
    have hl' : (wtab.length : Int) = 8 := rfl
    simp only [fixF, M_s_Width_L1, guardO]
    by_cases h : k < (wtab.length : Int)
    · have hw := wflat_at ⟨k.toNat, by omega⟩
      have hk : ((k.toNat : Nat) : Int) = k := by omega
      simp only [hk] at hw
      have e1 : at' wflat (2 * k) = (at' wtab k).1 := congrArg Prod.fst hw
      have e2 : at' wflat (2 * k + 1) = (at' wtab k).2 := congrArg Prod.snd hw
      rw [decide_eq_true (by omega), cond_true, if_pos (by omega), W_eq (x := 2 * k + 1) (by omega) (by omega), if_pos (by intro _; omega), drop_at h0 h]
      unfold wide
      rw [List.any_cons, e1, e2]
      by_cases hc : (at' wtab k).1 ≤ r
      · by_cases hd : r ≤ (at' wtab k).2
        · simp [hc, hd]
        · simp only [hc, hd, decide_true, cond_true, decide_false, cond_false, and_false, Bool.false_or]
          rw [W_eq (by omega) (by omega), show 2 * k + 2 = 2 * (k + 1) by omega]
          exact ih (k + 1) (by omega) (by omega) (by omega)
      · simp only [hc, decide_false, cond_false, false_and, Bool.false_or]
        rw [W_eq (by omega) (by omega), show 2 * k + 2 = 2 * (k + 1) by omega]
        exact ih (k + 1) (by omega) (by omega) (by omega)
    · have h' : k.toNat = 8 := by omega
      rw [decide_eq_false (by omega), cond_false, h']
      rfl

theorem width_s (r : Int) : M_s_Width r = some (wd r) := by
  unfold M_s_Width wd M_s_l02Wide
  rw [bindO_of (printable_s r)]
  cases pr r with
  | false => rfl
  | true =>
    simp only [Bool.not_true, cond_false, joinO, if_true, bindO]
    have := width_s_loop r (fun _ => some 1) FUEL 0 (by omega) (by omega) (by rw [fuel_eq]; omega)
    simp only [Int.mul_zero, Int.toNat_zero, List.drop_zero] at this
    refine Eq.trans this ?_
    split <;> rfl

theorem wd_cases (r : Int) : wd r = 0 ∨ wd r = 1 ∨ wd r = 2 := by
  unfold wd
  split
  · split <;> simp
  · simp
theorem wd_half : wd (-1) = 0 := by decide
theorem wd_blank : wd 32 = 1 := by decide

theorem at_nat {α : Type} [Inhabited α] (l : List α) (i : Int) (h0 : 0 ≤ i) (h : i < (l.length : Int)) : at' l i = l[i.toNat]'(by omega) := by
  have := at_some ⟨h0, h⟩
  rw [List.getElem?_eq_getElem (by omega)] at this
  exact (Option.some.inj this).symm

theorem at_set {α : Type} [Inhabited α] (l : List α) (k i : Int) (v : α) (h0 : 0 ≤ i) (h : i < (l.length : Int)) (hk : 0 ≤ k) : at' (List.set l k.toNat v) i = if k = i then v else at' l i := by
  rw [at_nat _ i h0 (by simpa using h), at_nat _ i h0 h, List.getElem_set]
  by_cases he : k = i
  · rw [if_pos he, if_pos (by omega)]
  · rw [if_neg he, if_neg (by omega)]

theorem ext_at {α : Type} [Inhabited α] {l l' : List α} (hl : l.length = l'.length) (h : ∀ i : Int, 0 ≤ i → i < (l.length : Int) → at' l i = at' l' i) : l = l' := by
  apply List.ext_getElem hl
  intro i h1 h2
  have := h (i : Int) (by omega) (by omega)
  rw [at_nat l i (by omega) (by omega), at_nat l' i (by omega) (by omega)] at this
  simpa using this

def tab {α : Type} (n : Nat) (f : Int → α) : List α := (List.range n).map fun (i : Nat) => f (i : Int)
theorem tab_len {α : Type} (n : Nat) (f : Int → α) : (tab n f).length = n := by simp [tab]
theorem tab_at {α : Type} [Inhabited α] (n : Nat) (f : Int → α) (i : Int) (h0 : 0 ≤ i) (h : i < (n : Int)) : at' (tab n f) i = f i := by
  rw [at_nat _ i h0 (by rw [tab_len]; exact h)]
  simp only [tab, List.getElem_map, List.getElem_range]
  congr 1; omega
theorem eq_tab {α : Type} [Inhabited α] {l : List α} {n : Nat} {f : Int → α} (hl : l.length = n) (h : ∀ i : Int, 0 ≤ i → i < (n : Int) → at' l i = f i) : l = tab n f := by
  refine ext_at (by rw [tab_len]; exact hl) fun i h0 h1 => ?_
  rw [h i h0 (by omega), tab_at n f i h0 (by omega)]
theorem at_app_l {α : Type} [Inhabited α] (l l' : List α) (i : Int) (h0 : 0 ≤ i) (h : i < (l.length : Int)) : at' (l ++ l') i = at' l i := by
  rw [at_nat _ i h0 (by simp; omega), at_nat _ i h0 h, List.getElem_append_left]
theorem at_app_r {α : Type} [Inhabited α] (l l' : List α) (i : Int) (h0 : (l.length : Int) ≤ i) (h : i < (l.length : Int) + (l'.length : Int)) : at' (l ++ l') i = at' l' (i - l.length) := by
  rw [at_nat _ i (by omega) (by simp; omega), at_nat _ (i - l.length) (by omega) (by omega), List.getElem_append_right (by omega)]
  congr 1; omega
theorem at_drop' {α : Type} [Inhabited α] (l : List α) (k i : Int) (hk : 0 ≤ k) (h0 : 0 ≤ i) (h : k + i < (l.length : Int)) : at' (l.drop k.toNat) i = at' l (k + i) := by
  rw [at_nat _ i h0 (by simp; omega), at_nat _ (k + i) (by omega) h, List.getElem_drop]
  congr 1; omega
theorem at_rep {α : Type} [Inhabited α] (n : Nat) (v : α) (i : Int) (h0 : 0 ≤ i) (h : i < (n : Int)) : at' (List.replicate n v) i = v := by
  rw [at_nat _ i h0 (by simpa using h)]; simp

abbrev Gd := Int × Int × List Int × Int × Int × Bool

def cOk (w : Int) (cs : List Int) (i : Int) : Prop :=
  if at' cs i = -1 then i % w ≠ 0 ∧ wd (at' cs (i - 1)) = 2 else wd (at' cs i) = 1 ∨ (wd (at' cs i) = 2 ∧ i % w ≠ w - 1 ∧ at' cs (i + 1) = -1)

/-- The size is right. -/
def gsz (g : Gd) : Prop := 2 ≤ g.1 ∧ g.1 ≤ 200 ∧ 1 ≤ g.2.1 ∧ g.2.1 ≤ 200 ∧ g.1 * g.2.1 ≤ 8000 ∧ (g.2.2.1.length : Int) = g.1 * g.2.1
/-- The cursor is right. -/
def gcur (g : Gd) : Prop := 0 ≤ g.2.2.2.1 ∧ g.2.2.2.1 < g.1 ∧ 0 ≤ g.2.2.2.2.1 ∧ g.2.2.2.2.1 < g.2.1 ∧ (g.2.2.2.2.2 = true → g.2.2.2.1 = g.1 - 1)
def gcells (g : Gd) : Prop := ∀ i : Int, 0 ≤ i → i < (g.2.2.1.length : Int) → cOk g.1 g.2.2.1 i
structure Gok (g : Gd) : Prop where
  sz : gsz g
  cur : gcur g
  cells : gcells g

theorem next_lt {w h i : Int} (hw : 0 < w) (h0 : 0 ≤ i) (hi : i < w * h) (hm : i % w ≠ w - 1) : i + 1 < w * h := by
  have h1 := Int.emod_add_mul_ediv i w
  have h2 : i / w < h := Int.ediv_lt_of_lt_mul hw (by rw [Int.mul_comm]; exact hi)
  have h3 : w * (i / w + 1) ≤ w * h := Int.mul_le_mul_of_nonneg_left (by omega) (by omega)
  rw [Int.mul_add, Int.mul_one] at h3
  have h4 := Int.emod_lt_of_pos i hw
  omega

theorem gsz_bounds {g : Gd} (h : gsz g) : 2 ≤ g.1 ∧ g.1 ≤ 200 ∧ 1 ≤ g.2.1 ∧ g.2.1 ≤ 200 ∧ (g.2.2.1.length : Int) ≤ 8000 ∧ (g.2.2.1.length : Int) = g.1 * g.2.1 := by
  obtain ⟨h1, h2, h3, h4, h5, h6⟩ := h
  exact ⟨h1, h2, h3, h4, by omega, h6⟩

theorem gridOk_s_loop (g : Gd) (hs : gsz g) (j : Unit → Option Bool) : ∀ (m : Nat) (k : Int), 0 ≤ k → k ≤ (g.2.2.1.length : Int) → (g.2.2.1.length : Int) - k < m →
    ((∀ i, k ≤ i → i < (g.2.2.1.length : Int) → cOk g.1 g.2.2.1 i) → fixF (M_s_GridOk_L1 g j) m k = j ()) ∧
    ((¬ ∀ i, k ≤ i → i < (g.2.2.1.length : Int) → cOk g.1 g.2.2.1 i) → fixF (M_s_GridOk_L1 g j) m k = some false) := by
  obtain ⟨s1, s2, s3, s4, s5, s6⟩ := gsz_bounds hs
  intro m
  induction m with
  | zero => intro k _ _ h; omega
  | succ m ih =>
    intro k h0 hk hm
    by_cases h : k < (g.2.2.1.length : Int)
    · have hstep : (cOk g.1 g.2.2.1 k → fixF (M_s_GridOk_L1 g j) (m + 1) k = fixF (M_s_GridOk_L1 g j) m (k + 1)) ∧ (¬ cOk g.1 g.2.2.1 k → fixF (M_s_GridOk_L1 g j) (m + 1) k = some false) := by
        have hmod : Int.tmod k g.1 = k % g.1 := Int.tmod_eq_emod_of_nonneg h0
        have hm0 := Int.emod_nonneg k (show g.1 ≠ 0 by omega)
        have hm1 := Int.emod_lt_of_pos k (show 0 < g.1 by omega)
        have hk0 : k % g.1 ≠ 0 → 1 ≤ k := by
          intro hh
          rcases Int.lt_or_eq_of_le h0 with h1 | h1
          · omega
          · exfalso; apply hh; rw [← h1]; simp
        have hnx : k % g.1 ≠ g.1 - 1 → k + 1 < (g.2.2.1.length : Int) := fun hh => by rw [s6]; exact next_lt (by omega) h0 (by omega) hh
        simp only [fixF, M_s_GridOk_L1, guardO, joinO, hmod]
        rw [decide_eq_true h, cond_true, if_pos ⟨h0, h⟩, if_pos (by omega), W_eq (x := k + 1) (by omega) (by omega), W_eq (x := k - 1) (by omega) (by omega), W_eq (x := g.1 - 1) (by omega) (by omega), width_s, width_s, bindO_of rfl]
        unfold cOk
        by_cases hh : at' g.2.2.1 k = -1
        · rw [decide_eq_true hh, cond_true, if_pos hh, if_pos (show g.1 ≠ 0 by omega)]
          rw [if_pos (by intro hz; have := hk0 (by simpa using hz); omega), callO_of]
          by_cases hz : k % g.1 = 0
          · simp [hz]
          · by_cases hw : wd (at' g.2.2.1 (k - 1)) = 2 <;> simp [hz, hw]
        · rw [decide_eq_false hh, cond_false, if_neg hh]
          rw [if_pos (by intro hz _ _; have := hnx (by simpa using hz); omega)]
          rcases wd_cases (at' g.2.2.1 k) with hw | hw | hw
          · simp [hw]
          · simp [hw]
          · by_cases hz : k % g.1 = g.1 - 1
            · simp [hw, hz]
            · by_cases hx : at' g.2.2.1 (k + 1) = -1 <;> simp [hw, hz, hx]
      obtain ⟨i1, i2⟩ := ih (k + 1) (by omega) (by omega) (by omega)
      by_cases hc : cOk g.1 g.2.2.1 k
      · rw [hstep.1 hc]
        refine ⟨fun hall => i1 fun i hi => hall i (by omega), fun hn => i2 fun hall => hn fun i hi hil => ?_⟩
        by_cases he : i = k
        · rw [he]; exact hc
        · exact hall i (by omega) hil
      · exact ⟨fun hall => absurd (hall k (by omega) h) hc, fun _ => hstep.2 hc⟩
    · refine ⟨fun _ => ?_, fun hn => absurd (fun i hi hil => by omega) hn⟩
      simp only [fixF, M_s_GridOk_L1]
      rw [decide_eq_false h, cond_false]

theorem mul_bound {a b : Int} (h1 : 2 ≤ a) (h2 : a ≤ 200) (h3 : 1 ≤ b) (h4 : b ≤ 200) : W (a * b) = a * b := by
  have h5 : a * b ≤ 200 * b := Int.mul_le_mul_of_nonneg_right h2 (by omega)
  have h6 : 0 ≤ a * b := Int.mul_nonneg (by omega) (by omega)
  exact W_eq (by omega) (by omega)

theorem gridOk_s (g : Gd) : (Gok g → M_s_GridOk g = some true) ∧ (¬ Gok g → M_s_GridOk g = some false) := by
  unfold M_s_GridOk
  by_cases hs : gsz g
  · obtain ⟨s1, s2, s3, s4, s5, s6⟩ := hs
    have e := mul_bound s1 s2 s3 s4
    rw [e, decide_eq_false (show ¬ g.1 < 2 by omega), decide_eq_false (show ¬ 200 < g.1 by omega), decide_eq_false (show ¬ g.2.1 < 1 by omega), decide_eq_false (show ¬ 200 < g.2.1 by omega), decide_eq_false (show ¬ 8000 < g.1 * g.2.1 by omega), decide_eq_true s6]
    simp only [cond_false, Bool.not_true, joinO]
    obtain ⟨l1, l2⟩ := gridOk_s_loop g ⟨s1, s2, s3, s4, s5, s6⟩ (fun _ => some (bif (bif (bif (bif (decide (0 ≤ g.2.2.2.1)) then (decide (g.2.2.2.1 < g.1)) else false) then (decide (0 ≤ g.2.2.2.2.1)) else false) then (decide (g.2.2.2.2.1 < g.2.1)) else false) then (bif (!g.2.2.2.2.2) then true else (decide (g.2.2.2.1 = (W (g.1 - 1))))) else false)) FUEL 0 (by omega) (by omega) (by rw [fuel_eq]; omega)
    rw [W_eq (x := g.1 - 1) (by omega) (by omega)] at l1 l2 ⊢
    by_cases hc : gcells g
    · have l3 := l1 fun i h0 h1 => hc i h0 h1
      rw [l3]
      by_cases hcur : gcur g
      · refine ⟨fun _ => ?_, fun hn => absurd ⟨⟨s1, s2, s3, s4, s5, s6⟩, hcur, hc⟩ hn⟩
        obtain ⟨c1, c2, c3, c4, c5⟩ := hcur
        cases hw : g.2.2.2.2.2 with
        | false => simp [c1, c2, c3, c4]
        | true => simp [c2, c3, c4, ← c5 hw, c1]
      · refine ⟨fun hg => absurd hg.cur hcur, fun _ => ?_⟩
        congr 1
        by_cases c1 : 0 ≤ g.2.2.2.1 <;> by_cases c2 : g.2.2.2.1 < g.1 <;> by_cases c3 : 0 ≤ g.2.2.2.2.1 <;> by_cases c4 : g.2.2.2.2.1 < g.2.1 <;> simp only [c1, c2, c3, c4, decide_true, decide_false, cond_true, cond_false]
        cases hw : g.2.2.2.2.2 with
        | false => exact absurd ⟨c1, c2, c3, c4, fun h => by rw [hw] at h; cases h⟩ hcur
        | true =>
          simp only [Bool.not_true, cond_false, decide_eq_false_iff_not]
          exact fun h => hcur ⟨c1, c2, c3, c4, fun _ => h⟩
    · have l3 := l2 fun hall => hc fun i h0 h1 => hall i h0 h1
      rw [l3]
      exact ⟨fun hg => absurd hg.cells hc, fun _ => rfl⟩
  · refine ⟨fun hg => absurd hg.sz hs, fun _ => ?_⟩
    by_cases s1 : g.1 < 2
    · simp [s1]
    by_cases s2 : 200 < g.1
    · simp [s2]
    by_cases s3 : g.2.1 < 1
    · simp [s3]
    by_cases s4 : 200 < g.2.1
    · simp [s4]
    have e := mul_bound (a := g.1) (b := g.2.1) (by omega) (by omega) (by omega) (by omega)
    rw [e]
    by_cases s5 : 8000 < g.1 * g.2.1
    · simp [s5]
    by_cases s6 : (g.2.2.1.length : Int) = g.1 * g.2.1
    · exact absurd ⟨by omega, by omega, by omega, by omega, by omega, s6⟩ hs
    · simp [s6]

theorem cellOk_i (g : Gd) (hs : gsz g) (k : Int) (h0 : 0 ≤ k) (h : k < (g.2.2.1.length : Int)) :
    (cOk g.1 g.2.2.1 k → M_i_cellOk g k = some true) ∧ (¬ cOk g.1 g.2.2.1 k → M_i_cellOk g k = some false) := by
  obtain ⟨s1, s2, s3, s4, s5, s6⟩ := gsz_bounds hs
  have hmod : Int.tmod k g.1 = k % g.1 := Int.tmod_eq_emod_of_nonneg h0
  have hm0 := Int.emod_nonneg k (show g.1 ≠ 0 by omega)
  have hm1 := Int.emod_lt_of_pos k (show 0 < g.1 by omega)
  have hk0 : k % g.1 ≠ 0 → 1 ≤ k := by
    intro hh
    rcases Int.lt_or_eq_of_le h0 with h1 | h1
    · omega
    · exfalso; apply hh; rw [← h1]; simp
  have hnx : k % g.1 ≠ g.1 - 1 → k + 1 < (g.2.2.1.length : Int) := fun hh => by rw [s6]; exact next_lt (by omega) h0 (by omega) hh
  simp only [M_i_cellOk, guardO, hmod]
  rw [if_pos ⟨h0, h⟩, if_pos (by omega), W_eq (x := k + 1) (by omega) (by omega), W_eq (x := k - 1) (by omega) (by omega), W_eq (x := k % g.1 + 1) (by omega) (by omega), width_i, width_i, bindO_of rfl]
  unfold cOk
  by_cases hh : at' g.2.2.1 k = -1
  · rw [decide_eq_true hh, cond_true, if_pos hh]
    have hk1 : decide (0 < k % g.1) = true → 0 ≤ k - 1 ∧ k - 1 < (g.2.2.1.length : Int) := by
      intro hz
      have hz' := of_decide_eq_true hz
      have := hk0 (by omega)
      omega
    rw [if_pos hk1, callO_of]
    by_cases hz : k % g.1 = 0
    · simp [hz]
    · have hz' : 0 < k % g.1 := by omega
      by_cases hw : wd (at' g.2.2.1 (k - 1)) = 2 <;> simp [hz, hz', hw]
  · rw [decide_eq_false hh, cond_false, if_neg hh]
    rcases wd_cases (at' g.2.2.1 k) with hw | hw | hw
    · simp [hw, bindO]
    · simp [hw, bindO]
    · rw [decide_eq_true hw, cond_true]
      by_cases hz : k % g.1 = g.1 - 1
      · have hz' : ¬ (k % g.1 + 1 < g.1) := by omega
        simp [hw, hz, hz']
      · have hz' : (k % g.1 + 1 < g.1) := by omega
        rw [if_pos (by intro _; have := hnx hz; omega)]
        by_cases hx : at' g.2.2.1 (k + 1) = -1 <;> simp [hw, hz, hz', hx]

theorem gridOk_i_loop (g : Gd) (hs : gsz g) (j : Unit → Option Bool) : ∀ (m : Nat) (k : Int), 0 ≤ k → k ≤ (g.2.2.1.length : Int) → (g.2.2.1.length : Int) - k < m →
    ((∀ i, k ≤ i → i < (g.2.2.1.length : Int) → cOk g.1 g.2.2.1 i) → fixF (M_i_GridOk_L1 g j) m k = j ()) ∧
    ((¬ ∀ i, k ≤ i → i < (g.2.2.1.length : Int) → cOk g.1 g.2.2.1 i) → fixF (M_i_GridOk_L1 g j) m k = some false) := by
  obtain ⟨s1, s2, s3, s4, s5, s6⟩ := gsz_bounds hs
  intro m
  induction m with
  | zero => intro k _ _ h; omega
  | succ m ih =>
    intro k h0 hk hm
    simp only [fixF, M_i_GridOk_L1]
    by_cases h : k < (g.2.2.1.length : Int)
    · rw [decide_eq_true h, cond_true, W_eq (by omega) (by omega)]
      obtain ⟨c1, c2⟩ := cellOk_i g hs k h0 h
      obtain ⟨i1, i2⟩ := ih (k + 1) (by omega) (by omega) (by omega)
      by_cases hc : cOk g.1 g.2.2.1 k
      · rw [bindO_of (c1 hc), Bool.not_true, cond_false]
        refine ⟨fun hall => i1 fun i hi => hall i (by omega), fun hn => i2 fun hall => hn fun i hi hil => ?_⟩
        by_cases he : i = k
        · rw [he]; exact hc
        · exact hall i (by omega) hil
      · rw [bindO_of (c2 hc)]
        exact ⟨fun hall => absurd (hall k (by omega) h) hc, fun _ => rfl⟩
    · refine ⟨fun _ => ?_, fun hn => absurd (fun i hi hil => by omega) hn⟩
      rw [decide_eq_false h, cond_false]

theorem gridOk_i (g : Gd) : (Gok g → M_i_GridOk g = some true) ∧ (¬ Gok g → M_i_GridOk g = some false) := by
  unfold M_i_GridOk
  rw [in_eq, in_eq, in_eq, in_eq, bindO_of rfl, callO_of, bindO_of rfl, callO_of]
  by_cases hs : gsz g
  · obtain ⟨s1, s2, s3, s4, s5, s6⟩ := hs
    have e := mul_bound s1 s2 s3 s4
    rw [e, W_eq (x := g.1 - 1) (by omega) (by omega), W_eq (x := g.2.1 - 1) (by omega) (by omega), decide_eq_true (show 2 ≤ g.1 ∧ g.1 ≤ 200 from ⟨s1, s2⟩), decide_eq_true (show 1 ≤ g.2.1 ∧ g.2.1 ≤ 200 from ⟨s3, s4⟩), decide_eq_false (show ¬ 8000 < g.1 * g.2.1 by omega), decide_eq_true s6]
    simp only [cond_false, Bool.not_true, joinO, if_true]
    by_cases hcur : gcur g
    · obtain ⟨c1, c2, c3, c4, c5⟩ := id hcur
      rw [decide_eq_true (show 0 ≤ g.2.2.2.1 ∧ g.2.2.2.1 ≤ g.1 - 1 by omega), decide_eq_true (show 0 ≤ g.2.2.2.2.1 ∧ g.2.2.2.2.1 ≤ g.2.1 - 1 by omega)]
      have hw : (bif g.2.2.2.2.2 then (!(decide (g.2.2.2.1 = g.1 - 1))) else false) = false := by
        cases hw : g.2.2.2.2.2 with
        | false => rfl
        | true => simp [← c5 hw]
      simp only [Bool.not_true, cond_false, if_true, hw]
      obtain ⟨l1, l2⟩ := gridOk_i_loop g ⟨s1, s2, s3, s4, s5, s6⟩ (fun _ => some true) FUEL 0 (by omega) (by omega) (by rw [fuel_eq]; omega)
      by_cases hc : gcells g
      · rw [l1 fun i h0 h1 => hc i h0 h1]
        exact ⟨fun _ => rfl, fun hn => absurd ⟨⟨s1, s2, s3, s4, s5, s6⟩, hcur, hc⟩ hn⟩
      · rw [l2 fun hall => hc fun i h0 h1 => hall i h0 h1]
        exact ⟨fun hg => absurd hg.cells hc, fun _ => rfl⟩
    · refine ⟨fun hg => absurd hg.cur hcur, fun _ => ?_⟩
      by_cases c1 : 0 ≤ g.2.2.2.1 ∧ g.2.2.2.1 ≤ g.1 - 1
      · by_cases c2 : 0 ≤ g.2.2.2.2.1 ∧ g.2.2.2.2.1 ≤ g.2.1 - 1
        · cases hw : g.2.2.2.2.2 with
          | false => exact absurd ⟨by omega, by omega, by omega, by omega, fun h => by rw [hw] at h; cases h⟩ hcur
          | true =>
            by_cases c3 : g.2.2.2.1 = g.1 - 1
            · exact absurd ⟨by omega, by omega, by omega, by omega, fun _ => c3⟩ hcur
            · rw [decide_eq_true c1, decide_eq_true c2, decide_eq_false c3]; rfl
        · rw [decide_eq_true c1, decide_eq_false c2]; rfl
      · rw [decide_eq_false c1]; rfl
  · refine ⟨fun hg => absurd hg.sz hs, fun _ => ?_⟩
    by_cases s1 : 2 ≤ g.1 ∧ g.1 ≤ 200
    · by_cases s3 : 1 ≤ g.2.1 ∧ g.2.1 ≤ 200
      · have e := mul_bound s1.1 s1.2 s3.1 s3.2
        rw [e]
        by_cases s5 : 8000 < g.1 * g.2.1
        · simp [s1, s3, s5]
        by_cases s6 : (g.2.2.1.length : Int) = g.1 * g.2.1
        · exact absurd ⟨s1.1, s1.2, s3.1, s3.2, by omega, s6⟩ hs
        · simp [s1, s3, s6]
      · simp [s1, s3]
    · simp [s1]

theorem clamp_eq (a n : Int) (hn : 0 ≤ n) : M_s_l08Clamp a n = some (max 0 (min a n)) := by
  simp only [M_s_l08Clamp, Bool.cond_decide]
  split
  · congr 1; omega
  · split <;> (congr 1; omega)

theorem gcopy_s (g : Gd) (h : g.2.2.1.length ≤ 100000000) : M_s_l08Copy g = some g := by
  unfold M_s_l08Copy guardO
  rw [if_pos (by simp; omega)]
  rfl
theorem copyInts_i (l : List Int) (h : l.length ≤ 100000000) : M_i_copyInts l = some l := by
  unfold M_i_copyInts guardO
  rw [if_pos (by simp; omega)]
  rfl
theorem gcopy_i (g : Gd) (h : g.2.2.1.length ≤ 100000000) : M_i_copyGrid g = some g := by
  unfold M_i_copyGrid
  rw [bindO_of (copyInts_i _ h)]

theorem len_ge {g : Gd} (hs : gsz g) : g.1 ≤ (g.2.2.1.length : Int) := by
  obtain ⟨s1, s2, s3, s4, s5, s6⟩ := hs
  have : g.1 * 1 ≤ g.1 * g.2.1 := Int.mul_le_mul_of_nonneg_left s3 (by omega)
  omega

def scrL (w : Int) (cs : List Int) : List Int := cs.drop w.toNat ++ List.replicate w.toNat 32
theorem scr_len (w : Int) (cs : List Int) (h0 : 0 ≤ w) (h : w ≤ (cs.length : Int)) : (scrL w cs).length = cs.length := by
  simp [scrL]; omega
theorem scr_at (w : Int) (cs : List Int) (h0 : 0 ≤ w) (h : w ≤ (cs.length : Int)) (i : Int) (i0 : 0 ≤ i) (i1 : i < (cs.length : Int)) : at' (scrL w cs) i = if i + w < (cs.length : Int) then at' cs (w + i) else 32 := by
  unfold scrL
  have hd : ((cs.drop w.toNat).length : Int) = (cs.length : Int) - w := by simp; omega
  by_cases hi : i + w < (cs.length : Int)
  · rw [if_pos hi, at_app_l _ _ i i0 (by omega), at_drop' _ w i h0 i0 (by omega)]
  · rw [if_neg hi, at_app_r _ _ i (by omega) (by simp; omega), at_rep _ _ _ (by omega) (by omega)]
/-- The grid, scrolled. -/
def gscr (g : Gd) : Gd := (g.1, g.2.1, scrL g.1 g.2.2.1, g.2.2.2.1, g.2.2.2.2.1, g.2.2.2.2.2)
theorem gscr_ok {g : Gd} (h : Gok g) : Gok (gscr g) := by
  obtain ⟨hs, hc, hcl⟩ := h
  have hw := len_ge hs
  obtain ⟨s1, s2, s3, s4, s5, s6⟩ := id hs
  have hl := scr_len g.1 g.2.2.1 (by omega) hw
  refine ⟨⟨s1, s2, s3, s4, s5, by simp only [gscr]; rw [hl]; exact s6⟩, hc, ?_⟩
  intro i i0 i1
  simp only [gscr] at i1 ⊢
  rw [hl] at i1
  have A : ∀ q, 0 ≤ q → q < (g.2.2.1.length : Int) → at' (scrL g.1 g.2.2.1) q = if q + g.1 < (g.2.2.1.length : Int) then at' g.2.2.1 (g.1 + q) else 32 := fun q q0 q1 => scr_at _ _ (by omega) hw q q0 q1
  have hmod : (g.1 + i) % g.1 = i % g.1 := by rw [Int.add_comm]; exact Int.add_emod_right i g.1
  have hk0 : i % g.1 ≠ 0 → 1 ≤ i := by
    intro hh
    rcases Int.lt_or_eq_of_le i0 with h1 | h1
    · omega
    · exfalso; apply hh; rw [← h1]; simp
  unfold cOk
  rw [A i i0 i1]
  by_cases hi : i + g.1 < (g.2.2.1.length : Int)
  · have hci := hcl (g.1 + i) (by omega) (by omega)
    unfold cOk at hci
    rw [hmod] at hci
    rw [if_pos hi]
    by_cases hh : at' g.2.2.1 (g.1 + i) = -1
    · rw [if_pos hh] at hci ⊢
      obtain ⟨z1, z2⟩ := hci
      have := hk0 z1
      refine ⟨z1, ?_⟩
      rw [A (i - 1) (by omega) (by omega), if_pos (by omega), show g.1 + (i - 1) = g.1 + i - 1 by omega]
      exact z2
    · rw [if_neg hh] at hci ⊢
      rcases hci with z | ⟨z1, z2, z3⟩
      · exact .inl z
      · have hn := next_lt (w := g.1) (h := g.2.1) (i := g.1 + i) (by omega) (by omega) (by omega) (by rw [hmod]; exact z2)
        refine .inr ⟨z1, z2, ?_⟩
        rw [A (i + 1) (by omega) (by omega), if_pos (by omega), show g.1 + (i + 1) = g.1 + i + 1 by omega]
        exact z3
  · rw [if_neg hi, if_neg (by decide)]
    exact .inl wd_blank

theorem scroll_i_loop (g : Gd) (hs : gsz g) (j : List Int → Option Gd) : ∀ (m : Nat) (l : List Int) (k : Int), 0 ≤ k → k ≤ g.1 → (l.length : Int) + (g.1 - k) ≤ 10000 → g.1 - k < m →
    fixF (M_i_Grid_scroll_L1 g j) m (l, k) = j (l ++ List.replicate (g.1 - k).toNat 32) := by
  obtain ⟨s1, s2, s3, s4, s5, s6⟩ := hs
  intro m
  induction m with
  | zero => intro l k _ _ _ h; omega
  | succ m ih =>
    intro l k h0 hk hl hm
    simp only [fixF, M_i_Grid_scroll_L1, guardO]
    by_cases h : k < g.1
    · rw [decide_eq_true h, cond_true, if_pos (by simp; omega), W_eq (by omega) (by omega)]
      rw [ih _ (k + 1) (by omega) (by omega) (by simp; omega) (by omega)]
      congr 1
      have : (g.1 - k).toNat = (g.1 - (k + 1)).toNat + 1 := by omega
      rw [this, List.replicate_succ]
      simp
    · have : (g.1 - k).toNat = 0 := by omega
      rw [decide_eq_false h, cond_false, this]
      simp

theorem scroll_i (g : Gd) (hs : gsz g) : M_i_Grid_scroll g = some (gscr g) := by
  have hw := len_ge hs
  obtain ⟨s1, s2, s3, s4, s5, s6⟩ := gsz_bounds hs
  unfold M_i_Grid_scroll guardO
  rw [if_pos (by omega), sub_all (by omega), bindO_of (copyInts_i _ (by simp; omega))]
  simp only [joinO]
  rw [scroll_i_loop g hs _ FUEL _ 0 (by omega) (by omega) (by simp; omega) (by rw [fuel_eq]; omega), show g.1 - 0 = g.1 by omega]
  rfl

theorem scroll_s_loop (g : Gd) (hs : gsz g) (y : Gd) (hy : y.2.2.1.length = g.2.2.1.length) (j : List Int → Option Gd) : ∀ (m : Nat) (k : Int) (l : List Int), 0 ≤ k → k ≤ (g.2.2.1.length : Int) → l.length = g.2.2.1.length →
    (∀ q, 0 ≤ q → q < k → at' l q = at' (scrL g.1 g.2.2.1) q) → (g.2.2.1.length : Int) - k < m → fixF (M_s_GridScroll_L1 g y j) m (k, l) = j (scrL g.1 g.2.2.1) := by
  have hw := len_ge hs
  obtain ⟨s1, s2, s3, s4, s5, s6⟩ := gsz_bounds hs
  intro m
  induction m with
  | zero => intro k l _ _ _ _ h; omega
  | succ m ih =>
    intro k l h0 hk hl hq hm
    simp only [fixF, M_s_GridScroll_L1, guardO, joinO, hy]
    by_cases h : k < (g.2.2.1.length : Int)
    · rw [decide_eq_true h, cond_true, if_pos (by omega), W_eq (x := k + g.1) (by omega) (by omega), W_eq (x := k + 1) (by omega) (by omega)]
      have hsk := scr_at g.1 g.2.2.1 (by omega) hw k h0 h
      by_cases hi : k + g.1 < (g.2.2.1.length : Int)
      · rw [decide_eq_true hi, cond_true, if_pos (by omega), if_pos (by omega)]
        rw [if_pos hi] at hsk
        refine ih (k + 1) _ (by omega) (by omega) (by simpa using hl) (fun q q0 q1 => ?_) (by omega)
        rw [at_set _ k q _ q0 (by simp; omega) h0]
        by_cases he : k = q
        · rw [if_pos he, ← he, hsk, Int.add_comm]
        · rw [if_neg he, at_set _ k q _ q0 (by omega) h0, if_neg he]
          exact hq q q0 (by omega)
      · rw [decide_eq_false hi, cond_false]
        rw [if_neg hi] at hsk
        refine ih (k + 1) _ (by omega) (by omega) (by simpa using hl) (fun q q0 q1 => ?_) (by omega)
        rw [at_set _ k q _ q0 (by omega) h0]
        by_cases he : k = q
        · rw [if_pos he, ← he, hsk]
        · rw [if_neg he]
          exact hq q q0 (by omega)
    · rw [decide_eq_false h, cond_false]
      congr 1
      refine ext_at (by rw [scr_len _ _ (by omega) hw]; exact hl) fun i i0 i1 => hq i i0 (by omega)

theorem scroll_s (g : Gd) (h : Gok g) : M_s_GridScroll g = some (gscr g) := by
  obtain ⟨s1, s2, s3, s4, s5, s6⟩ := gsz_bounds h.sz
  unfold M_s_GridScroll
  rw [bindO_of ((gridOk_s g).1 h), Bool.not_true, cond_false, bindO_of (gcopy_s g (by omega))]
  simp only [joinO]
  rw [scroll_s_loop g h.sz g rfl _ FUEL 0 _ (by omega) (by omega) rfl (fun q q0 q1 => by omega) (by rw [fuel_eq]; omega)]
  rfl

def ggo (g : Gd) (x y : Int) : Gd := (g.1, g.2.1, g.2.2.1, max 0 (min x (g.1 - 1)), max 0 (min y (g.2.1 - 1)), false)
theorem ggo_ok {g : Gd} (h : Gok g) (x y : Int) : Gok (ggo g x y) := by
  obtain ⟨hs, hc, hcl⟩ := h
  obtain ⟨s1, s2, s3, s4, s5, s6⟩ := id hs
  refine ⟨hs, ?_, hcl⟩
  unfold gcur ggo
  simp only
  exact ⟨by omega, by omega, by omega, by omega, fun h => by cases h⟩
theorem go_s (g : Gd) (h : Gok g) (x y : Int) : M_s_GridGo g x y = some (ggo g x y) := by
  obtain ⟨s1, s2, s3, s4, s5, s6⟩ := gsz_bounds h.sz
  unfold M_s_GridGo ggo
  rw [bindO_of ((gridOk_s g).1 h), Bool.not_true, cond_false, bindO_of (gcopy_s g (by omega)), W_eq (x := g.1 - 1) (by omega) (by omega), W_eq (x := g.2.1 - 1) (by omega) (by omega), clamp_eq _ _ (by omega), clamp_eq _ _ (by omega)]
  rfl

def oth (cs : List Int) (i : Int) : Int := if wd (at' cs i) = 2 then i + 1 else if at' cs i = -1 then i - 1 else i
def erC (cs : List Int) (a b i : Int) : Bool := decide (a ≤ i ∧ i < b) || decide (a ≤ oth cs i ∧ oth cs i < b)
def er (cs : List Int) (a b : Int) : List Int := tab cs.length fun i => if erC cs a b i = true then 32 else at' cs i
theorem er_len (cs : List Int) (a b : Int) : (er cs a b).length = cs.length := tab_len _ _
theorem er_at (cs : List Int) (a b i : Int) (i0 : 0 ≤ i) (i1 : i < (cs.length : Int)) : at' (er cs a b) i = if erC cs a b i = true then 32 else at' cs i := tab_at _ _ i i0 i1
def ger (g : Gd) (a b : Int) : Gd := (g.1, g.2.1, er g.2.2.1 a b, g.2.2.2.1, g.2.2.2.2.1, g.2.2.2.2.2)

theorem pos_of_mod {w i : Int} (i0 : 0 ≤ i) (h : i % w ≠ 0) : 1 ≤ i := by
  rcases Int.lt_or_eq_of_le i0 with h1 | h1
  · omega
  · exfalso; apply h; rw [← h1]; simp

/-- The halves of a wide rune. -/
theorem half_of {g : Gd} (hs : gsz g) (hc : gcells g) {i : Int} (i0 : 0 ≤ i) (i1 : i < (g.2.2.1.length : Int)) (h : at' g.2.2.1 i = -1) : 1 ≤ i ∧ wd (at' g.2.2.1 (i - 1)) = 2 := by
  have := hc i i0 i1
  unfold cOk at this
  rw [if_pos h] at this
  exact ⟨pos_of_mod i0 this.1, this.2⟩
theorem wide_of {g : Gd} (hs : gsz g) (hc : gcells g) {i : Int} (i0 : 0 ≤ i) (i1 : i < (g.2.2.1.length : Int)) (h : wd (at' g.2.2.1 i) = 2) : i + 1 < (g.2.2.1.length : Int) ∧ at' g.2.2.1 (i + 1) = -1 := by
  have hne : at' g.2.2.1 i ≠ -1 := fun he => by rw [he, wd_half] at h; cases h
  have := hc i i0 i1
  unfold cOk at this
  rw [if_neg hne] at this
  rcases this with z | ⟨_, z2, z3⟩
  · omega
  · obtain ⟨s1, s2, s3, s4, s5, s6⟩ := hs
    have := next_lt (w := g.1) (h := g.2.1) (i := i) (by omega) i0 (by omega) z2
    exact ⟨by omega, z3⟩

theorem erC_half {g : Gd} (hs : gsz g) (hc : gcells g) (a b : Int) {i : Int} (i0 : 0 ≤ i) (i1 : i < (g.2.2.1.length : Int)) (h : wd (at' g.2.2.1 i) = 2) : erC g.2.2.1 a b (i + 1) = erC g.2.2.1 a b i := by
  obtain ⟨h1, h2⟩ := wide_of hs hc i0 i1 h
  have o1 : oth g.2.2.1 i = i + 1 := by unfold oth; rw [if_pos h]
  have o2 : oth g.2.2.1 (i + 1) = i := by
    unfold oth
    rw [h2, wd_half, if_neg (by decide), if_pos rfl]; omega
  unfold erC
  rw [o1, o2, Bool.or_comm]

theorem ger_ok {g : Gd} (h : Gok g) (a b : Int) : Gok (ger g a b) := by
  obtain ⟨hs, hcu, hc⟩ := h
  obtain ⟨s1, s2, s3, s4, s5, s6⟩ := id hs
  refine ⟨⟨s1, s2, s3, s4, s5, by simp only [ger]; rw [er_len]; exact s6⟩, hcu, ?_⟩
  intro i i0 i1
  simp only [ger] at i1 ⊢
  rw [er_len] at i1
  unfold cOk
  rw [er_at _ _ _ _ i0 i1]
  by_cases he : erC g.2.2.1 a b i = true
  · rw [if_pos he, if_neg (by decide)]
    exact .inl wd_blank
  · rw [if_neg he]
    have hci := hc i i0 i1
    unfold cOk at hci
    by_cases hh : at' g.2.2.1 i = -1
    · rw [if_pos hh] at hci ⊢
      obtain ⟨h1, h2⟩ := half_of hs hc i0 i1 hh
      refine ⟨hci.1, ?_⟩
      have := erC_half hs hc a b (i := i - 1) (by omega) (by omega) h2
      rw [show i - 1 + 1 = i by omega] at this
      rw [er_at _ _ _ _ (by omega) (by omega), ← this, if_neg he]
      exact h2
    · rw [if_neg hh] at hci ⊢
      rcases hci with z | ⟨z1, z2, z3⟩
      · exact .inl z
      · obtain ⟨h1, h2⟩ := wide_of hs hc i0 i1 z1
        have := erC_half hs hc a b i0 i1 z1
        refine .inr ⟨z1, z2, ?_⟩
        rw [er_at _ _ _ _ (by omega) (by omega), this, if_neg he]
        exact z3

theorem oth_in {g : Gd} (hs : gsz g) (hc : gcells g) {i : Int} (i0 : 0 ≤ i) (i1 : i < (g.2.2.1.length : Int)) : 0 ≤ oth g.2.2.1 i ∧ oth g.2.2.1 i < (g.2.2.1.length : Int) := by
  unfold oth
  split
  · rename_i h
    have := wide_of hs hc i0 i1 h
    omega
  · split
    · rename_i h
      have := half_of hs hc i0 i1 h
      omega
    · omega

theorem er_none {g : Gd} (hs : gsz g) (hc : gcells g) (a b : Int) (h : min b (g.2.2.1.length : Int) ≤ max a 0) : er g.2.2.1 a b = g.2.2.1 := by
  refine (eq_tab rfl fun i i0 i1 => ?_).symm
  have ho := oth_in hs hc i0 i1
  rw [if_neg]
  unfold erC
  rw [decide_eq_false (by omega), decide_eq_false (by omega)]
  simp

theorem erase_loop (g : Gd) (b : Int) (j : List Int → Option Gd) : ∀ (m : Nat) (k : Int) (l : List Int), 0 ≤ k → k ≤ min b (g.2.2.1.length : Int) → l.length = g.2.2.1.length → (g.2.2.1.length : Int) ≤ 100000000 → (g.2.2.1.length : Int) - k < m →
    fixF (M_i_Grid_erase_L1 g b j) m (k, l) = j (tab g.2.2.1.length fun q => if k ≤ q ∧ q < min b (g.2.2.1.length : Int) then 32 else at' l q) := by
  intro m
  induction m with
  | zero => intro k l _ _ _ _ h; omega
  | succ m ih =>
    intro k l h0 hk hl hb hm
    simp only [fixF, M_i_Grid_erase_L1, guardO]
    by_cases h : k < min b (g.2.2.1.length : Int)
    · rw [decide_eq_true h, cond_true, if_pos (by omega), W_eq (by omega) (by omega)]
      rw [ih (k + 1) _ (by omega) (by omega) (by simpa using hl) hb (by omega)]
      congr 1
      refine eq_tab (tab_len _ _) fun i i0 i1 => ?_
      rw [tab_at _ _ i i0 i1, at_set _ k i _ i0 (by omega) h0]
      by_cases e1 : k + 1 ≤ i ∧ i < min b (g.2.2.1.length : Int)
      · rw [if_pos e1, if_pos (by omega)]
      · rw [if_neg e1]
        by_cases e2 : k = i
        · rw [if_pos e2, if_pos (by omega)]
        · rw [if_neg e2, if_neg (by omega)]
    · rw [decide_eq_false h, cond_false]
      congr 1
      refine eq_tab hl fun i i0 i1 => ?_
      rw [if_neg (by omega)]

theorem erase_i (g : Gd) (hs : gsz g) (hc : gcells g) (a b : Int) : M_i_Grid_erase g a b = some (ger g a b) := by
  obtain ⟨s1, s2, s3, s4, s5, s6⟩ := gsz_bounds hs
  unfold M_i_Grid_erase
  by_cases hle : min b (g.2.2.1.length : Int) ≤ max a 0
  · rw [decide_eq_true hle, cond_true]
    unfold ger
    rw [er_none hs hc a b hle]
  rw [decide_eq_false hle, cond_false]
  simp only [joinO, guardO]
  have fin : ∀ l : List Int, l.length = g.2.2.1.length → (∀ q, 0 ≤ q → q < (g.2.2.1.length : Int) → at' l q = if (q = max a 0 - 1 ∧ at' g.2.2.1 (max a 0) = -1) ∨ (q = min b (g.2.2.1.length : Int) ∧ at' g.2.2.1 (min b (g.2.2.1.length : Int)) = -1) then 32 else at' g.2.2.1 q) →
      fixF (M_i_Grid_erase_L1 g b fun x64 => some (g.1, g.2.1, x64, g.2.2.2.1, g.2.2.2.2.1, g.2.2.2.2.2)) FUEL (max a 0, l) = some (ger g a b) := by
    intro l hl hq
    rw [erase_loop g b _ FUEL _ l (by omega) (by omega) hl (by omega) (by rw [fuel_eq]; omega)]
    have key : (tab g.2.2.1.length fun q => if max a 0 ≤ q ∧ q < min b (g.2.2.1.length : Int) then 32 else at' l q) = er g.2.2.1 a b := ?_
    · rw [key]; rfl
    unfold er
    refine eq_tab (tab_len _ _) fun i i0 i1 => ?_
    rw [tab_at _ _ i i0 i1, hq i i0 i1]
    by_cases e1 : max a 0 ≤ i ∧ i < min b (g.2.2.1.length : Int)
    · rw [if_pos e1, if_pos]
      unfold erC
      rw [decide_eq_true (show a ≤ i ∧ i < b by omega)]; rfl
    · rw [if_neg e1]
      by_cases e2 : (i = max a 0 - 1 ∧ at' g.2.2.1 (max a 0) = -1) ∨ (i = min b (g.2.2.1.length : Int) ∧ at' g.2.2.1 (min b (g.2.2.1.length : Int)) = -1)
      · rw [if_pos e2, if_pos]
        unfold erC oth
        rcases e2 with ⟨z1, z2⟩ | ⟨z1, z2⟩
        · obtain ⟨h1, h2⟩ := half_of hs hc (i := max a 0) (by omega) (by omega) z2
          rw [← z1] at h2
          rw [if_pos h2, decide_eq_true (show a ≤ i + 1 ∧ i + 1 < b by omega)]
          simp
        · rw [← z1] at z2
          rw [z2, wd_half, if_neg (by decide), if_pos rfl, decide_eq_true (show a ≤ i - 1 ∧ i - 1 < b by omega)]
          simp
      · rw [if_neg e2, if_neg]
        unfold erC oth
        rw [decide_eq_false (show ¬ (a ≤ i ∧ i < b) by omega), Bool.false_or, decide_eq_true_iff]
        by_cases e3 : wd (at' g.2.2.1 i) = 2
        · rw [if_pos e3]
          intro hx
          obtain ⟨h1, h2⟩ := wide_of hs hc i0 i1 e3
          have hq : i + 1 = max a 0 := by omega
          rw [hq] at h2
          exact e2 (.inl ⟨by omega, h2⟩)
        · rw [if_neg e3]
          by_cases e4 : at' g.2.2.1 i = -1
          · rw [if_pos e4]
            intro hx
            have hq : i = min b (g.2.2.1.length : Int) := by omega
            refine e2 (.inr ⟨hq, ?_⟩)
            rw [← hq]; exact e4
          · rw [if_neg e4]; omega
  rw [if_pos (by omega)]
  by_cases h1 : at' g.2.2.1 (max a 0) = -1
  · obtain ⟨z1, z2⟩ := half_of hs hc (i := max a 0) (by omega) (by omega) h1
    rw [decide_eq_true h1, cond_true, W_eq (by omega) (by omega), if_pos (by omega)]
    have hla : ∀ q, 0 ≤ q → q < (g.2.2.1.length : Int) → at' (List.set g.2.2.1 (Int.toNat (max a 0 - 1)) 32) q = if max a 0 - 1 = q then 32 else at' g.2.2.1 q := fun q q0 q1 => at_set _ _ q _ q0 q1 (by omega)
    rw [if_pos (by intro hh; have := of_decide_eq_true hh; omega), List.length_set]
    by_cases h2 : min b (g.2.2.1.length : Int) < (g.2.2.1.length : Int)
    · rw [decide_eq_true h2, cond_true, hla _ (by omega) (by omega), if_neg (by omega)]
      by_cases h3 : at' g.2.2.1 (min b (g.2.2.1.length : Int)) = -1
      · rw [decide_eq_true h3, cond_true, if_pos (by omega)]
        refine fin _ (by simp) fun q q0 q1 => ?_
        rw [at_set _ _ q _ q0 (by simp; omega) (by omega), hla q q0 q1]
        by_cases e1 : min b (g.2.2.1.length : Int) = q
        · rw [if_pos e1, if_pos (.inr ⟨e1.symm, h3⟩)]
        · rw [if_neg e1]
          by_cases e2 : max a 0 - 1 = q
          · rw [if_pos e2, if_pos (.inl ⟨e2.symm, h1⟩)]
          · rw [if_neg e2, if_neg (by omega)]
      · rw [decide_eq_false h3, cond_false]
        refine fin _ (by simp) fun q q0 q1 => ?_
        rw [hla q q0 q1]
        by_cases e2 : max a 0 - 1 = q
        · rw [if_pos e2, if_pos (.inl ⟨e2.symm, h1⟩)]
        · rw [if_neg e2, if_neg]
          rintro (h | h)
          · omega
          · exact h3 h.2
    · rw [decide_eq_false h2, cond_false, cond_false]
      refine fin _ (by simp) fun q q0 q1 => ?_
      rw [hla q q0 q1]
      by_cases e2 : max a 0 - 1 = q
      · rw [if_pos e2, if_pos (.inl ⟨e2.symm, h1⟩)]
      · rw [if_neg e2, if_neg (by omega)]
  · rw [decide_eq_false h1, cond_false]
    rw [if_pos (by intro hh; have := of_decide_eq_true hh; omega)]
    by_cases h2 : min b (g.2.2.1.length : Int) < (g.2.2.1.length : Int)
    · rw [decide_eq_true h2, cond_true]
      by_cases h3 : at' g.2.2.1 (min b (g.2.2.1.length : Int)) = -1
      · rw [decide_eq_true h3, cond_true, if_pos (by omega)]
        refine fin _ (by simp) fun q q0 q1 => ?_
        rw [at_set _ _ q _ q0 (by omega) (by omega)]
        by_cases e1 : min b (g.2.2.1.length : Int) = q
        · rw [if_pos e1, if_pos (.inr ⟨e1.symm, h3⟩)]
        · rw [if_neg e1, if_neg]
          rintro (h | h)
          · exact h1 h.2
          · omega
      · rw [decide_eq_false h3, cond_false]
        refine fin _ rfl fun q q0 q1 => ?_
        rw [if_neg]
        rintro (h | h)
        · exact h1 h.2
        · exact h3 h.2
    · rw [decide_eq_false h2, cond_false, cond_false]
      refine fin _ rfl fun q q0 q1 => ?_
      rw [if_neg]
      rintro (h | h)
      · exact h1 h.2
      · omega

theorem clear_s_loop (g : Gd) (hs : gsz g) (a b : Int) (j : List Int → Option Gd) : ∀ (m : Nat) (k : Int) (l : List Int), 0 ≤ k → k ≤ (g.2.2.1.length : Int) → l.length = g.2.2.1.length →
    (∀ q, 0 ≤ q → q < (g.2.2.1.length : Int) → at' l q = if q < k ∧ erC g.2.2.1 a b q = true then 32 else at' g.2.2.1 q) → (g.2.2.1.length : Int) - k < m →
    fixF (M_s_GridClear_L1 g a b j) m (k, l) = j (er g.2.2.1 a b) := by
  obtain ⟨s1, s2, s3, s4, s5, s6⟩ := gsz_bounds hs
  intro m
  induction m with
  | zero => intro k l _ _ _ _ h; omega
  | succ m ih =>
    intro k l h0 hk hl hq hm
    simp only [fixF, M_s_GridClear_L1, guardO, joinO]
    by_cases h : k < (g.2.2.1.length : Int)
    · rw [decide_eq_true h, cond_true, if_pos ⟨h0, h⟩, width_s, W_eq (x := k + 1) (by omega) (by omega), W_eq (x := k - 1) (by omega) (by omega), if_pos (by omega)]
      simp only [bindO_ret]
      have key : (bif (bif (bif decide (a ≤ k) then decide (k < b) else false) then true else bif decide (a ≤ oth g.2.2.1 k) then decide (oth g.2.2.1 k < b) else false) then fixF (M_s_GridClear_L1 g a b j) m (k + 1, List.set l k.toNat 32) else fixF (M_s_GridClear_L1 g a b j) m (k + 1, l)) = j (er g.2.2.1 a b) := by
        have hE : (bif (bif decide (a ≤ k) then decide (k < b) else false) then true else bif decide (a ≤ oth g.2.2.1 k) then decide (oth g.2.2.1 k < b) else false) = erC g.2.2.1 a b k := by
          unfold erC
          generalize oth g.2.2.1 k = o
          by_cases x1 : a ≤ k <;> by_cases x2 : k < b <;> by_cases x3 : a ≤ o <;> by_cases x4 : o < b <;> simp [x1, x2, x3, x4]
        rw [hE]
        cases he : erC g.2.2.1 a b k with
        | true =>
          rw [cond_true]
          refine ih (k + 1) _ (by omega) (by omega) (by simpa using hl) (fun q q0 q1 => ?_) (by omega)
          rw [at_set _ k q _ q0 (by omega) h0]
          by_cases e1 : k = q
          · rw [if_pos e1, if_pos ⟨by omega, by rw [← e1]; exact he⟩]
          · rw [if_neg e1, hq q q0 q1]
            by_cases e2 : q < k ∧ erC g.2.2.1 a b q = true
            · rw [if_pos e2, if_pos ⟨by omega, e2.2⟩]
            · rw [if_neg e2, if_neg (fun h => e2 ⟨by omega, h.2⟩)]
        | false =>
          rw [cond_false]
          refine ih (k + 1) _ (by omega) (by omega) hl (fun q q0 q1 => ?_) (by omega)
          rw [hq q q0 q1]
          by_cases e2 : q < k ∧ erC g.2.2.1 a b q = true
          · rw [if_pos e2, if_pos ⟨by omega, e2.2⟩]
          · rw [if_neg e2, if_neg]
            rintro ⟨z1, z2⟩
            by_cases e3 : q = k
            · rw [e3, he] at z2; cases z2
            · exact e2 ⟨by omega, z2⟩
      unfold oth at key
      by_cases w1 : at' g.2.2.1 k = -1
      · have w2 : ¬ wd (at' g.2.2.1 k) = 2 := by rw [w1, wd_half]; decide
        rw [if_neg w2, if_pos w1] at key
        rw [decide_eq_true w1, cond_true, decide_eq_false w2, cond_false]
        exact key
      · rw [decide_eq_false w1, cond_false]
        by_cases w2 : wd (at' g.2.2.1 k) = 2
        · rw [if_pos w2] at key
          rw [decide_eq_true w2, cond_true]
          exact key
        · rw [if_neg w2, if_neg w1] at key
          rw [decide_eq_false w2, cond_false]
          exact key
    · rw [decide_eq_false h, cond_false]
      congr 1
      unfold er
      refine eq_tab hl fun i i0 i1 => ?_
      rw [hq i i0 i1]
      by_cases e2 : erC g.2.2.1 a b i = true
      · rw [if_pos e2, if_pos ⟨by omega, e2⟩]
      · rw [if_neg e2, if_neg (fun h => e2 h.2)]

theorem clear_s (g : Gd) (h : Gok g) (a b : Int) : M_s_GridClear g a b = some (ger g a b) := by
  obtain ⟨s1, s2, s3, s4, s5, s6⟩ := gsz_bounds h.sz
  unfold M_s_GridClear
  rw [bindO_of ((gridOk_s g).1 h), Bool.not_true, cond_false, bindO_of (gcopy_s g (by omega))]
  simp only [joinO]
  rw [clear_s_loop g h.sz a b _ FUEL 0 _ (by omega) (by omega) rfl (fun q q0 q1 => by rw [if_neg (by omega)]) (by rw [fuel_eq]; omega)]
  rfl

def gnext (g : Gd) (n : Int) : Gd :=
  if g.2.2.2.2.2 = true ∨ (n = 2 ∧ g.2.2.2.1 = g.1 - 1) then (if g.2.2.2.2.1 = g.2.1 - 1 then ggo (gscr g) 0 (g.2.2.2.2.1 + 1) else ggo g 0 (g.2.2.2.2.1 + 1)) else g
def gat (g : Gd) : Int := g.2.2.2.2.1 * g.1 + g.2.2.2.1
def gcel (g : Gd) (n r : Int) : List Int :=
  let c := List.set (er g.2.2.1 (gat g) (gat g + n)) (gat g).toNat r
  if n = 2 then List.set c (gat g + 1).toNat (-1) else c
def gwr (g : Gd) (n r : Int) : Gd :=
  if g.1 ≤ g.2.2.2.1 + n then (g.1, g.2.1, gcel g n r, g.1 - 1, g.2.2.2.2.1, true) else (g.1, g.2.1, gcel g n r, g.2.2.2.1 + n, g.2.2.2.2.1, g.2.2.2.2.2)
/-- The grid, a rune written. -/
def gput (g : Gd) (r : Int) : Gd := if wd r = 0 then g else gwr (gnext g (wd r)) (wd r) r

theorem gnext_w (g : Gd) (n : Int) : (gnext g n).1 = g.1 := by
  unfold gnext
  split
  · split <;> rfl
  · rfl
theorem gnext_ok {g : Gd} (h : Gok g) (n : Int) : Gok (gnext g n) := by
  unfold gnext
  split
  · split
    · exact ggo_ok (gscr_ok h) _ _
    · exact ggo_ok h _ _
  · exact h
theorem gnext_fit {g : Gd} (h : Gok g) (n : Int) (hn : n = 1 ∨ n = 2) : (gnext g n).2.2.2.1 + n ≤ (gnext g n).1 := by
  obtain ⟨c1, c2, c3, c4, c5⟩ := h.cur
  obtain ⟨s1, s2, s3, s4, s5, s6⟩ := h.sz
  unfold gnext
  split
  · split <;> simp only [ggo, gscr] <;> omega
  · rename_i hx
    have : ¬ (n = 2 ∧ g.2.2.2.1 = g.1 - 1) := fun h => hx (.inr h)
    omega

theorem gat_bounds {g : Gd} (h : Gok g) {n : Int} (hn : n = 1 ∨ n = 2) (hf : g.2.2.2.1 + n ≤ g.1) : 0 ≤ g.2.2.2.2.1 * g.1 ∧ 0 ≤ gat g ∧ gat g + n ≤ (g.2.2.1.length : Int) ∧ (g.2.2.1.length : Int) ≤ 8000 ∧ gat g % g.1 = g.2.2.2.1 := by
  obtain ⟨c1, c2, c3, c4, c5⟩ := h.cur
  obtain ⟨s1, s2, s3, s4, s5, s6⟩ := h.sz
  have h1 : 0 ≤ g.2.2.2.2.1 * g.1 := Int.mul_nonneg c3 (by omega)
  have h2 : (g.2.2.2.2.1 + 1) * g.1 ≤ g.2.1 * g.1 := Int.mul_le_mul_of_nonneg_right (by omega) (by omega)
  rw [Int.add_mul, Int.one_mul, Int.mul_comm g.2.1 g.1] at h2
  refine ⟨h1, ?_, ?_, by omega, ?_⟩
  · unfold gat; omega
  · unfold gat; omega
  · unfold gat
    rw [Int.add_comm, Int.add_mul_emod_self_right, Int.emod_eq_of_lt c1 c2]

theorem gcel_len (g : Gd) (n r : Int) : (gcel g n r).length = g.2.2.1.length := by
  unfold gcel
  simp only
  split <;> simp [er_len]

theorem er_mid (cs : List Int) (a b i : Int) (h : a ≤ i ∧ i < b) (i0 : 0 ≤ i) (i1 : i < (cs.length : Int)) : at' (er cs a b) i = 32 := by
  rw [er_at _ _ _ _ i0 i1, if_pos]
  unfold erC
  rw [decide_eq_true h]; rfl

theorem gwr_ok {g : Gd} (h : Gok g) {r : Int} (hn : wd r = 1 ∨ wd r = 2) (hf : g.2.2.2.1 + wd r ≤ g.1) : Gok (gwr g (wd r) r) := by
  obtain ⟨b0, b1, b2, b3, b4⟩ := gat_bounds h hn hf
  have hok := ger_ok h (gat g) (gat g + wd r)
  obtain ⟨c1, c2, c3, c4, c5⟩ := h.cur
  obtain ⟨s1, s2, s3, s4, s5, s6⟩ := id h.sz
  have hr : r ≠ -1 := fun he => by rw [he, wd_half] at hn; omega
  have hcl : ∀ i : Int, 0 ≤ i → i < (g.2.2.1.length : Int) → cOk g.1 (gcel g (wd r) r) i := by
    intro i i0 i1
    have hE := hok.cells
    have hci := hE i i0 (by simp only [ger]; rw [er_len]; exact i1)
    simp only [ger] at hci
    have m0 := er_mid g.2.2.1 (gat g) (gat g + wd r) (gat g) (by omega) b1 (by omega)
    -- the cells
    have A : ∀ q, 0 ≤ q → q < (g.2.2.1.length : Int) → at' (gcel g (wd r) r) q = if q = gat g then r else if wd r = 2 ∧ q = gat g + 1 then -1 else at' (er g.2.2.1 (gat g) (gat g + wd r)) q := by
      intro q q0 q1
      unfold gcel
      simp only
      by_cases w : wd r = 2
      · rw [if_pos w, at_set _ _ q _ q0 (by simp [er_len]; omega) (by omega), at_set _ _ q _ q0 (by rw [er_len]; omega) b1]
        by_cases e1 : gat g + 1 = q
        · rw [if_pos e1, if_neg (by omega), if_pos ⟨w, e1.symm⟩]
        · rw [if_neg e1]
          by_cases e2 : gat g = q
          · rw [if_pos e2, if_pos e2.symm]
          · rw [if_neg e2, if_neg (by omega), if_neg (by omega)]
      · rw [if_neg w, at_set _ _ q _ q0 (by rw [er_len]; omega) b1]
        by_cases e2 : gat g = q
        · rw [if_pos e2, if_pos e2.symm]
        · rw [if_neg e2, if_neg (by omega), if_neg (by omega)]
    by_cases e1 : i = gat g
    · unfold cOk
      rw [A i i0 i1, if_pos e1, if_neg hr]
      rcases hn with w | w
      · exact .inl w
      · refine .inr ⟨w, by rw [e1, b4]; omega, ?_⟩
        rw [A (i + 1) (by omega) (by omega), if_neg (by omega), if_pos ⟨w, by omega⟩]
    · by_cases e2 : wd r = 2 ∧ i = gat g + 1
      · unfold cOk
        rw [A i i0 i1, if_neg e1, if_pos e2, if_pos rfl]
        obtain ⟨w, e2⟩ := e2
        refine ⟨?_, ?_⟩
        · rw [e2, Int.add_emod, b4, Int.emod_eq_of_lt (a := 1) (by omega) (by omega), Int.emod_eq_of_lt (by omega) (by omega)]
          omega
        · rw [A (i - 1) (by omega) (by omega), if_pos (by omega)]; exact w
      · unfold cOk at hci ⊢
        rw [A i i0 i1, if_neg e1, if_neg e2]
        by_cases hh : at' (er g.2.2.1 (gat g) (gat g + wd r)) i = -1
        · rw [if_pos hh] at hci ⊢
          obtain ⟨z1, z2⟩ := hci
          have := pos_of_mod i0 z1
          have n1 : i - 1 ≠ gat g := fun he => by rw [he, m0, wd_blank] at z2; cases z2
          have n2 : ¬ (wd r = 2 ∧ i - 1 = gat g + 1) := fun he => by
            have m1 := er_mid g.2.2.1 (gat g) (gat g + wd r) (i - 1) (by omega) (by omega) (by omega)
            rw [m1, wd_blank] at z2; cases z2
          refine ⟨z1, ?_⟩
          rw [A (i - 1) (by omega) (by omega), if_neg n1, if_neg n2]
          exact z2
        · rw [if_neg hh] at hci ⊢
          rcases hci with z | ⟨z1, z2, z3⟩
          · exact .inl z
          · have hnx := next_lt (w := g.1) (h := g.2.1) (i := i) (by omega) i0 (by omega) z2
            have n1 : i + 1 ≠ gat g := fun he => by rw [he, m0] at z3; cases z3
            have n2 : ¬ (wd r = 2 ∧ i + 1 = gat g + 1) := fun he => e1 (by omega)
            refine .inr ⟨z1, z2, ?_⟩
            rw [A (i + 1) (by omega) (by omega), if_neg n1, if_neg n2]
            exact z3
  unfold gwr
  split
  · refine ⟨⟨s1, s2, s3, s4, s5, by simp only; rw [gcel_len]; exact s6⟩, ?_, ?_⟩
    · unfold gcur; simp only; exact ⟨by omega, by omega, c3, c4, fun _ => trivial⟩
    · intro i i0 i1
      simp only at i1 ⊢
      rw [gcel_len] at i1
      exact hcl i i0 i1
  · refine ⟨⟨s1, s2, s3, s4, s5, by simp only; rw [gcel_len]; exact s6⟩, ?_, ?_⟩
    · unfold gcur; simp only; exact ⟨by omega, by omega, c3, c4, fun hw => by have := c5 hw; omega⟩
    · intro i i0 i1
      simp only at i1 ⊢
      rw [gcel_len] at i1
      exact hcl i i0 i1

theorem gput_ok {g : Gd} (h : Gok g) (r : Int) : Gok (gput g r) := by
  unfold gput
  by_cases h0 : wd r = 0
  · rw [if_pos h0]; exact h
  · rw [if_neg h0]
    have hn : wd r = 1 ∨ wd r = 2 := by have := wd_cases r; omega
    exact gwr_ok (gnext_ok h _) hn (gnext_fit h _ hn)

theorem put_s (g : Gd) (h : Gok g) (r : Int) : M_s_GridPut g r = some (gput g r) := by
  obtain ⟨s1, s2, s3, s4, s5, s6⟩ := gsz_bounds h.sz
  obtain ⟨c1, c2, c3, c4, c5⟩ := h.cur
  unfold M_s_GridPut gput
  rw [bindO_of ((gridOk_s g).1 h), Bool.not_true, cond_false, width_s, bindO_of rfl, bindO_of (gcopy_s g (by omega))]
  by_cases h0 : wd r = 0
  · rw [decide_eq_true h0, cond_true, if_pos h0]
  rw [decide_eq_false h0, cond_false, if_neg h0]
  have hn : wd r = 1 ∨ wd r = 2 := by have := wd_cases r; omega
  have fin : ∀ g1 : Gd, Gok g1 → g1.1 = g.1 → g1.2.2.2.1 + wd r ≤ g1.1 →
    (bindO (M_s_GridClear (g1.1, g1.2.1, g1.2.2.1, g1.2.2.2.1, g1.2.2.2.2.1, g1.2.2.2.2.2) (W ((W (g1.2.2.2.2.1 * g.1)) + g1.2.2.2.1)) (W ((W ((W (g1.2.2.2.2.1 * g.1)) + g1.2.2.2.1)) + wd r))) fun (y52 : Gd) =>
    (guardO (0 ≤ (W ((W (g1.2.2.2.2.1 * g.1)) + g1.2.2.2.1)) ∧ (W ((W (g1.2.2.2.2.1 * g.1)) + g1.2.2.2.1)) < (y52.2.2.1.length : Int)) <|
    (joinO (fun (x60 : List Int) =>
    (joinO (fun ((x66, x67) : Int × Bool) =>
    some (y52.1, y52.2.1, x60, x66, y52.2.2.2.2.1, x67)) fun j68 =>
    (bif (decide (g.1 ≤ (W (y52.2.2.2.1 + wd r)))) then
    j68 ((W (g.1 - 1)), true)
    else
    j68 ((W (y52.2.2.2.1 + wd r)), y52.2.2.2.2.2)))) fun j63 =>
    (bif (decide (wd r = 2)) then
    (guardO (0 ≤ (W ((W ((W (g1.2.2.2.2.1 * g.1)) + g1.2.2.2.1)) + 1)) ∧ (W ((W ((W (g1.2.2.2.2.1 * g.1)) + g1.2.2.2.1)) + 1)) < (y52.2.2.1.length : Int)) <|
    j63 (List.set (List.set y52.2.2.1 (Int.toNat (W ((W (g1.2.2.2.2.1 * g.1)) + g1.2.2.2.1))) r) (Int.toNat (W ((W ((W (g1.2.2.2.2.1 * g.1)) + g1.2.2.2.1)) + 1))) (-1)))
    else
    j63 (List.set y52.2.2.1 (Int.toNat (W ((W (g1.2.2.2.2.1 * g.1)) + g1.2.2.2.1))) r))))) = some (gwr g1 (wd r) r) := by
    intro g1 ok1 hw hf
    obtain ⟨b0, b1, b2, b3, b4⟩ := gat_bounds ok1 hn hf
    obtain ⟨d1, d2, d3, d4, d5⟩ := ok1.cur
    rw [← hw]
    have e0 : g1.2.2.2.2.1 * g1.1 = gat g1 - g1.2.2.2.1 := by unfold gat; omega
    have e1 : W (g1.2.2.2.2.1 * g1.1) = gat g1 - g1.2.2.2.1 := by rw [W_eq (by omega) (by omega)]; exact e0
    rw [e1, show gat g1 - g1.2.2.2.1 + g1.2.2.2.1 = gat g1 by omega, W_eq (x := gat g1) (by omega) (by omega), W_eq (x := gat g1 + wd r) (by omega) (by omega), W_eq (x := gat g1 + 1) (by omega) (by omega)]
    have ec : M_s_GridClear (g1.1, g1.2.1, g1.2.2.1, g1.2.2.2.1, g1.2.2.2.2.1, g1.2.2.2.2.2) (gat g1) (gat g1 + wd r) = some (ger g1 (gat g1) (gat g1 + wd r)) := clear_s g1 ok1 _ _
    rw [bindO_of ec]
    simp only [guardO, joinO]
    have hl : ((ger g1 (gat g1) (gat g1 + wd r)).2.2.1.length : Int) = (g1.2.2.1.length : Int) := by simp only [ger]; rw [er_len]
    rw [hl, if_pos (by omega)]
    have hx : (ger g1 (gat g1) (gat g1 + wd r)).2.2.2.1 = g1.2.2.2.1 := rfl
    rw [hx, W_eq (x := g1.2.2.2.1 + wd r) (by omega) (by omega), W_eq (x := g1.1 - 1) (by omega) (by omega)]
    unfold gwr gcel
    rcases hn with w | w
    · have w2 : ¬ wd r = 2 := by omega
      rw [decide_eq_false w2, cond_false, if_neg w2]
      by_cases hle : g1.1 ≤ g1.2.2.2.1 + wd r
      · rw [decide_eq_true hle, cond_true, if_pos hle]; rfl
      · rw [decide_eq_false hle, cond_false, if_neg hle]; rfl
    · rw [decide_eq_true w, cond_true, if_pos w, if_pos (by omega)]
      by_cases hle : g1.1 ≤ g1.2.2.2.1 + wd r
      · rw [decide_eq_true hle, cond_true, if_pos hle]; rfl
      · rw [decide_eq_false hle, cond_false, if_neg hle]; rfl
  have fin2 := fin (gnext g (wd r)) (gnext_ok h _) (gnext_w g _) (gnext_fit h _ hn)
  simp only [joinO] at fin2 ⊢
  rw [W_eq (x := g.1 - 1) (by omega) (by omega), W_eq (x := g.2.1 - 1) (by omega) (by omega), W_eq (x := g.2.2.2.2.1 + 1) (by omega) (by omega)]
  rw [W_eq (x := g.1 - 1) (by omega) (by omega)] at fin2
  have hcond : (bif g.2.2.2.2.2 then true else bif decide (wd r = 2) then decide (g.2.2.2.1 = g.1 - 1) else false) = decide (g.2.2.2.2.2 = true ∨ (wd r = 2 ∧ g.2.2.2.1 = g.1 - 1)) := by
    cases g.2.2.2.2.2 <;> by_cases x1 : wd r = 2 <;> by_cases x2 : g.2.2.2.1 = g.1 - 1 <;> simp [x1, x2]
  rw [hcond]
  unfold gnext at fin2 ⊢
  by_cases hc : g.2.2.2.2.2 = true ∨ (wd r = 2 ∧ g.2.2.2.1 = g.1 - 1)
  · rw [decide_eq_true hc, cond_true]
    rw [if_pos hc] at fin2 ⊢
    by_cases hy : g.2.2.2.2.1 = g.2.1 - 1
    · rw [decide_eq_true hy, cond_true, bindO_of (scroll_s g h)]
      rw [if_pos hy] at fin2 ⊢
      have eg : M_s_GridGo ((gscr g).1, (gscr g).2.1, (gscr g).2.2.1, (gscr g).2.2.2.1, (gscr g).2.2.2.2.1, (gscr g).2.2.2.2.2) 0 (g.2.2.2.2.1 + 1) = some (ggo (gscr g) 0 (g.2.2.2.2.1 + 1)) := go_s _ (gscr_ok h) _ _
      rw [bindO_of eg]
      exact fin2
    · rw [decide_eq_false hy, cond_false]
      rw [if_neg hy] at fin2 ⊢
      have eg : M_s_GridGo (g.1, g.2.1, g.2.2.1, g.2.2.2.1, g.2.2.2.2.1, g.2.2.2.2.2) 0 (g.2.2.2.2.1 + 1) = some (ggo g 0 (g.2.2.2.2.1 + 1)) := go_s _ h _ _
      rw [bindO_of eg]
      exact fin2
  · rw [decide_eq_false hc, cond_false]
    rw [if_neg hc] at fin2 ⊢
    exact fin2

theorem put_i (g : Gd) (h : Gok g) (r : Int) : M_i_Grid_put g r = some (gput g r) := by
  obtain ⟨s1, s2, s3, s4, s5, s6⟩ := gsz_bounds h.sz
  obtain ⟨c1, c2, c3, c4, c5⟩ := h.cur
  unfold M_i_Grid_put gput
  rw [width_i, bindO_of rfl]
  by_cases h0 : wd r = 0
  · rw [decide_eq_true h0, cond_true, if_pos h0]
  rw [decide_eq_false h0, cond_false, if_neg h0]
  have hn : wd r = 1 ∨ wd r = 2 := by have := wd_cases r; omega
  have fin : ∀ g1 : Gd, Gok g1 → g1.2.2.2.1 + wd r ≤ g1.1 →
    (bindO (M_i_Grid_erase (g1.1, g1.2.1, g1.2.2.1, g1.2.2.2.1, g1.2.2.2.2.1, g1.2.2.2.2.2) (W ((W (g1.2.2.2.2.1 * g1.1)) + g1.2.2.2.1)) (W ((W ((W (g1.2.2.2.2.1 * g1.1)) + g1.2.2.2.1)) + wd r))) fun (y89 : Gd) =>
    (guardO (0 ≤ (W ((W (g1.2.2.2.2.1 * g1.1)) + g1.2.2.2.1)) ∧ (W ((W (g1.2.2.2.2.1 * g1.1)) + g1.2.2.2.1)) < (y89.2.2.1.length : Int)) <|
    (joinO (fun (x97 : List Int) =>
    (bif (decide (y89.1 ≤ (W (y89.2.2.2.1 + wd r)))) then
    some (y89.1, y89.2.1, x97, (W (y89.1 - 1)), y89.2.2.2.2.1, true)
    else
    some (y89.1, y89.2.1, x97, (W (y89.2.2.2.1 + wd r)), y89.2.2.2.2.1, y89.2.2.2.2.2))) fun j100 =>
    (bif (decide (wd r = 2)) then
    (guardO (0 ≤ (W ((W ((W (g1.2.2.2.2.1 * g1.1)) + g1.2.2.2.1)) + 1)) ∧ (W ((W ((W (g1.2.2.2.2.1 * g1.1)) + g1.2.2.2.1)) + 1)) < (y89.2.2.1.length : Int)) <|
    j100 (List.set (List.set y89.2.2.1 (Int.toNat (W ((W (g1.2.2.2.2.1 * g1.1)) + g1.2.2.2.1))) r) (Int.toNat (W ((W ((W (g1.2.2.2.2.1 * g1.1)) + g1.2.2.2.1)) + 1))) (-1)))
    else
    j100 (List.set y89.2.2.1 (Int.toNat (W ((W (g1.2.2.2.2.1 * g1.1)) + g1.2.2.2.1))) r))))) = some (gwr g1 (wd r) r) := by
    intro g1 ok1 hf
    obtain ⟨b0, b1, b2, b3, b4⟩ := gat_bounds ok1 hn hf
    obtain ⟨d1, d2, d3, d4, d5⟩ := ok1.cur
    obtain ⟨t1, t2, t3, t4, t5, t6⟩ := gsz_bounds ok1.sz
    have e0 : g1.2.2.2.2.1 * g1.1 = gat g1 - g1.2.2.2.1 := by unfold gat; omega
    have e1 : W (g1.2.2.2.2.1 * g1.1) = gat g1 - g1.2.2.2.1 := by rw [W_eq (by omega) (by omega)]; exact e0
    rw [e1, show gat g1 - g1.2.2.2.1 + g1.2.2.2.1 = gat g1 by omega, W_eq (x := gat g1) (by omega) (by omega), W_eq (x := gat g1 + wd r) (by omega) (by omega), W_eq (x := gat g1 + 1) (by omega) (by omega)]
    have ec : M_i_Grid_erase (g1.1, g1.2.1, g1.2.2.1, g1.2.2.2.1, g1.2.2.2.2.1, g1.2.2.2.2.2) (gat g1) (gat g1 + wd r) = some (ger g1 (gat g1) (gat g1 + wd r)) := erase_i g1 ok1.sz ok1.cells _ _
    rw [bindO_of ec]
    simp only [guardO, joinO]
    have hl : ((ger g1 (gat g1) (gat g1 + wd r)).2.2.1.length : Int) = (g1.2.2.1.length : Int) := by simp only [ger]; rw [er_len]
    rw [hl, if_pos (by omega)]
    have hx : (ger g1 (gat g1) (gat g1 + wd r)).2.2.2.1 = g1.2.2.2.1 := rfl
    have hx1 : (ger g1 (gat g1) (gat g1 + wd r)).1 = g1.1 := rfl
    rw [hx, hx1, W_eq (x := g1.2.2.2.1 + wd r) (by omega) (by omega), W_eq (x := g1.1 - 1) (by omega) (by omega)]
    unfold gwr gcel
    rcases hn with w | w
    · have w2 : ¬ wd r = 2 := by omega
      rw [decide_eq_false w2, cond_false, if_neg w2]
      by_cases hle : g1.1 ≤ g1.2.2.2.1 + wd r
      · rw [decide_eq_true hle, cond_true, if_pos hle]; rfl
      · rw [decide_eq_false hle, cond_false, if_neg hle]; rfl
    · rw [decide_eq_true w, cond_true, if_pos w, if_pos (by omega)]
      by_cases hle : g1.1 ≤ g1.2.2.2.1 + wd r
      · rw [decide_eq_true hle, cond_true, if_pos hle]; rfl
      · rw [decide_eq_false hle, cond_false, if_neg hle]; rfl
  have fin2 := fin (gnext g (wd r)) (gnext_ok h _) (gnext_fit h _ hn)
  simp only [joinO] at fin2 ⊢
  rw [W_eq (x := g.1 - 1) (by omega) (by omega), W_eq (x := g.2.1 - 1) (by omega) (by omega), W_eq (x := g.2.2.2.2.1 + 1) (by omega) (by omega)]
  have hcond : (bif g.2.2.2.2.2 then true else bif decide (wd r = 2) then decide (g.2.2.2.1 = g.1 - 1) else false) = decide (g.2.2.2.2.2 = true ∨ (wd r = 2 ∧ g.2.2.2.1 = g.1 - 1)) := by
    cases g.2.2.2.2.2 <;> by_cases x1 : wd r = 2 <;> by_cases x2 : g.2.2.2.1 = g.1 - 1 <;> simp [x1, x2]
  rw [hcond]
  have hx0 : max 0 (min 0 (g.1 - 1)) = 0 := by omega
  unfold gnext at fin2 ⊢
  by_cases hc : g.2.2.2.2.2 = true ∨ (wd r = 2 ∧ g.2.2.2.1 = g.1 - 1)
  · rw [decide_eq_true hc, cond_true]
    rw [if_pos hc] at fin2 ⊢
    by_cases hy : g.2.2.2.2.1 = g.2.1 - 1
    · rw [decide_eq_true hy, cond_true, bindO_of (scroll_i (g.1, g.2.1, g.2.2.1, 0, g.2.2.2.2.1, false) h.sz)]
      rw [if_pos hy] at fin2 ⊢
      have hy0 : max 0 (min (g.2.2.2.2.1 + 1) (g.2.1 - 1)) = g.2.2.2.2.1 := by omega
      have eg : ggo (gscr g) 0 (g.2.2.2.2.1 + 1) = gscr (g.1, g.2.1, g.2.2.1, 0, g.2.2.2.2.1, false) := by
        simp only [ggo, gscr, hx0, hy0]
      rw [eg] at fin2 ⊢
      exact fin2
    · rw [decide_eq_false hy, cond_false]
      rw [if_neg hy] at fin2 ⊢
      have hy0 : max 0 (min (g.2.2.2.2.1 + 1) (g.2.1 - 1)) = g.2.2.2.2.1 + 1 := by omega
      have eg : ggo g 0 (g.2.2.2.2.1 + 1) = (g.1, g.2.1, g.2.2.1, 0, g.2.2.2.2.1 + 1, false) := by
        simp only [ggo, hx0, hy0]
      rw [eg] at fin2 ⊢
      exact fin2
  · rw [decide_eq_false hc, cond_false]
    rw [if_neg hc] at fin2 ⊢
    exact fin2

def g0 : Gd := (0, 0, [], 0, 0, false)
open Classical in
noncomputable def gputE (g : Gd) (r : Int) : Gd := if Gok g then gput g r else g0
theorem gridPut_i (g : Gd) (r : Int) : M_i_GridPut g r = some (gputE g r) := by
  unfold gputE M_i_GridPut
  split
  · rename_i h
    obtain ⟨s1, s2, s3, s4, s5, s6⟩ := gsz_bounds h.sz
    rw [bindO_of ((gridOk_i g).1 h), Bool.not_true, cond_false, bindO_of (gcopy_i g (by omega)), bindO_of (put_i g h r)]
  · rename_i h
    rw [bindO_of ((gridOk_i g).2 h)]
    rfl
def CurOk (c : List UInt8 × Int × Int) : Prop := 0 ≤ c.2.1 ∧ c.2.1 ≤ (c.1.length : Int) ∧ (c.1.length : Int) ≤ 1048576

theorem and_bound (x : BitVec 64) (n : Nat) (hn : n < 2 ^ 64) : (x &&& BitVec.ofInt 64 (n : Int)).toNat ≤ n := by
  rw [BitVec.toNat_and]
  have : (BitVec.ofInt 64 (n : Int)).toNat = n := by
    rw [BitVec.toNat_ofInt]
    have h : ((n : Int) % ((2 ^ 64 : Nat) : Int)) = n := Int.emod_eq_of_lt (by omega) (by exact_mod_cast hn)
    rw [h]; rfl
  rw [this]
  exact Nat.and_le_right

theorem and255 (x : BitVec 64) : 0 ≤ W (((x &&& BitVec.ofInt 64 255).toNat : Nat) : Int) ∧ W (((x &&& BitVec.ofInt 64 255).toNat : Nat) : Int) ≤ 255 := by
  have h := and_bound x 255 (by decide)
  have h' : (x &&& BitVec.ofInt 64 255).toNat ≤ 255 := h
  rw [W_eq (by omega) (by omega)]
  omega

theorem byte_ok (c : List UInt8 × Int × Int) (hc : CurOk c) : ∃ y i h, M_s_l01Byte c = some (y, (c.1, i, h)) ∧ CurOk (c.1, i, h) ∧ 0 ≤ y ∧ y ≤ 255 := by
  obtain ⟨h1, h2, h3⟩ := hc
  unfold M_s_l01Byte
  simp only [joinO, Bool.cond_decide, guardO]
  split
  · rw [if_pos ⟨h1, by assumption⟩]
    exact ⟨_, _, _, rfl, ⟨by simp only; rw [W_eq (by omega) (by omega)]; omega, by simp only; rw [W_eq (by omega) (by omega)]; omega, h3⟩, and255 _⟩
  · exact ⟨_, _, _, rfl, ⟨h1, h2, h3⟩, and255 _⟩

theorem below_ok (c : List UInt8 × Int × Int) (hc : CurOk c) (n : Int) : ∃ y i h, M_s_l01Below c n = some (y, (c.1, i, h)) ∧ CurOk (c.1, i, h) ∧ 0 ≤ y ∧ (0 < n → y < n) ∧ (n ≤ 0 → y = 0) := by
  unfold M_s_l01Below
  simp only [Bool.cond_decide]
  split
  · exact ⟨0, c.2.1, c.2.2, rfl, hc, by omega, by omega, by omega⟩
  · split
    · obtain ⟨y, i, h, e, ho, y0, y1⟩ := byte_ok _ hc
      have e' : M_s_l01Byte (c.1, c.2.1, c.2.2) = _ := e
      rw [bindO_of e']
      simp only [guardO]
      rw [if_pos (by omega)]
      exact ⟨_, i, h, rfl, ho, Int.tmod_nonneg _ y0, fun hn => Int.tmod_lt_of_pos _ hn, by omega⟩
    · obtain ⟨ya, ia, ha, e1, o1, a0, a1⟩ := byte_ok _ hc
      obtain ⟨yb, ib, hb, e2, o2, b0, b1⟩ := byte_ok _ o1
      obtain ⟨yc, ic, hcc, e3, o3, c0, c1⟩ := byte_ok _ o2
      obtain ⟨yd, id, hd, e4, o4, d0, d1⟩ := byte_ok _ o3
      have e1' : M_s_l01Byte (c.1, c.2.1, c.2.2) = _ := e1
      rw [bindO_of e1', bindO_of e2, bindO_of e3, bindO_of e4]
      simp only [guardO]
      rw [if_pos (by omega)]
      rw [W_eq (x := ya * 16777216) (by omega) (by omega), W_eq (x := yb * 65536) (by omega) (by omega), W_eq (x := yc * 256) (by omega) (by omega), W_eq (x := ya * 16777216 + yb * 65536) (by omega) (by omega),
        W_eq (x := ya * 16777216 + yb * 65536 + yc * 256) (by omega) (by omega), W_eq (x := ya * 16777216 + yb * 65536 + yc * 256 + yd) (by omega) (by omega)]
      exact ⟨_, id, hd, rfl, o4, Int.tmod_nonneg _ (by omega), fun hn => Int.tmod_lt_of_pos _ hn, by omega⟩

theorem new_loop (l : List UInt8) (hl : (l.length : Int) ≤ 1048576) : ∀ (m : Nat) (h k : Int), 0 ≤ k → k ≤ 4000 → 4000 - k < m → ∃ v, fixF (M_s_l01New_L1 l fun x15 => some (l, 0, x15)) m (h, k) = some (l, 0, v) := by
  intro m
  induction m with
  | zero => intro h k _ _ h'; omega
  | succ m ih =>
    intro h k hk hk' hm
    simp only [fixF, M_s_l01New_L1, guardO, Bool.cond_decide]
    by_cases h1 : k < (l.length : Int)
    · by_cases h2 : k < 4000
      · simp only [h1, h2, hk, if_true, and_self, decide_true]
        rw [W_eq (x := k + 1) (by omega) (by omega)]
        exact ih _ _ (by omega) (by omega) (by omega)
      · simp only [h1, h2, if_true, decide_false, Bool.false_eq_true, if_false]
        exact ⟨h, rfl⟩
    · simp only [h1, if_false, cond_false]
      exact ⟨h, rfl⟩

theorem new_ok (l : List UInt8) (hl : (l.length : Int) ≤ 1048576) : ∃ h, M_s_l01New l = some (l, 0, h) ∧ CurOk (l, 0, h) := by
  unfold M_s_l01New
  simp only [joinO]
  obtain ⟨v, hv⟩ := new_loop l hl FUEL (W (600128 + (l.length : Int))) 0 (by omega) (by omega) (by rw [fuel_eq]; omega)
  exact ⟨v, hv, ⟨by simp, by simp, hl⟩⟩

/-- The runes that are drawn. -/
def Drawn (r : Int) : Prop := r ∈ ([97, 98, 99, 120, 49, 50, 32, 32, 46, 45, 95, 233, 4352, 20013, 128512, 47] : List Int) ∨ (33 ≤ r ∧ r ≤ 126) ∨ (160 ≤ r ∧ r ≤ 459) ∨ (19968 ≤ r ∧ r ≤ 21967)

theorem rune_ok (c : List UInt8 × Int × Int) (hc : CurOk c) : ∃ y i h, M_s_l02Rune c = some (y, (c.1, i, h)) ∧ CurOk (c.1, i, h) ∧ Drawn y := by
  unfold M_s_l02Rune
  obtain ⟨y, i, h, e, ho, y0, y1, _⟩ := below_ok _ hc 12
  have e' : M_s_l01Below (c.1, c.2.1, c.2.2) 12 = _ := e
  rw [bindO_of e']
  simp only [Bool.cond_decide]
  have two : ∀ n, 0 < n → ∃ y2 i2 h2, M_s_l01Below (c.1, i, h) n = some (y2, (c.1, i2, h2)) ∧ CurOk (c.1, i2, h2) ∧ 0 ≤ y2 ∧ y2 < n := by
    intro n hn
    obtain ⟨y2, i2, h2, e2, o2, p0, p1, _⟩ := below_ok _ ho n
    exact ⟨y2, i2, h2, e2, o2, p0, p1 hn⟩
  split
  · obtain ⟨y2, i2, h2, e2, o2, p0, p1⟩ := two 16 (by omega)
    rw [bindO_of e2]
    simp only [guardO]
    rw [if_pos ⟨p0, p1⟩]
    exact ⟨_, i2, h2, rfl, o2, .inl (List.mem_of_getElem? (at_some ⟨p0, p1⟩))⟩
  · split
    · obtain ⟨y2, i2, h2, e2, o2, p0, p1⟩ := two 94 (by omega)
      rw [bindO_of e2]
      simp only
      rw [W_eq (by omega) (by omega)]
      exact ⟨_, i2, h2, rfl, o2, .inr (.inl ⟨by omega, by omega⟩)⟩
    · split
      · obtain ⟨y2, i2, h2, e2, o2, p0, p1⟩ := two 300 (by omega)
        rw [bindO_of e2]
        simp only
        rw [W_eq (by omega) (by omega)]
        exact ⟨_, i2, h2, rfl, o2, .inr (.inr (.inl ⟨by omega, by omega⟩))⟩
      · obtain ⟨y2, i2, h2, e2, o2, p0, p1⟩ := two 2000 (by omega)
        rw [bindO_of e2]
        simp only
        rw [W_eq (by omega) (by omega)]
        exact ⟨_, i2, h2, rfl, o2, .inr (.inr (.inr ⟨by omega, by omega⟩))⟩

theorem drawn_wd {r : Int} (h : Drawn r) : wd r = 1 ∨ wd r = 2 := by
  have hp : pr r = true := by
    unfold pr
    rw [decide_eq_true_iff]
    rcases h with h | h | h | h
    · simp only [List.mem_cons, List.not_mem_nil, or_false] at h
      omega
    · omega
    · omega
    · omega
  unfold wd
  rw [if_pos hp]
  split
  · exact .inr rfl
  · exact .inl rfl

theorem gput_wh (g : Gd) (r : Int) : (gput g r).1 = g.1 ∧ (gput g r).2.1 = g.2.1 := by
  have h1 : ∀ n, (gnext g n).2.1 = g.2.1 := by
    intro n
    unfold gnext
    split
    · split <;> rfl
    · rfl
  unfold gput
  split
  · exact ⟨rfl, rfl⟩
  · unfold gwr
    split <;> exact ⟨gnext_w g _, h1 _⟩

def gblank (w h : Int) : Gd := (w, h, List.replicate (w * h).toNat 32, 0, 0, false)
theorem gblank_ok {w h : Int} (h1 : 2 ≤ w) (h2 : w ≤ 200) (h3 : 1 ≤ h) (h4 : h ≤ 200) (h5 : w * h ≤ 8000) : Gok (gblank w h) := by
  have h6 : 0 ≤ w * h := Int.mul_nonneg (by omega) (by omega)
  refine ⟨⟨h1, h2, h3, h4, h5, by simp only [gblank, List.length_replicate]; omega⟩, ?_, ?_⟩
  · unfold gcur gblank; simp only; exact ⟨by omega, by omega, by omega, by omega, fun h => by cases h⟩
  · intro i i0 i1
    simp only [gblank, List.length_replicate] at i1 ⊢
    unfold cOk
    rw [at_rep _ _ i i0 i1, if_neg (by decide)]
    exact .inl wd_blank

theorem new_s_loop (w h : Int) (hb : 0 ≤ w * h ∧ w * h ≤ 8000) (j : List Int → Option (Gd × Bool)) : ∀ (m : Nat) (k : Int) (l : List Int), 0 ≤ k → k ≤ w * h → l = List.replicate k.toNat 32 → w * h - k < m →
    fixF (M_s_GridNew_L1 w h j) m (k, l) = j (List.replicate (w * h).toNat 32) := by
  intro m
  induction m with
  | zero => intro k l _ _ _ hm; omega
  | succ m ih =>
    intro k l h0 hk hl hm
    simp only [fixF, M_s_GridNew_L1, guardO]
    rw [W_eq (x := w * h) (by omega) (by omega)]
    by_cases hlt : k < w * h
    · rw [decide_eq_true hlt, cond_true, if_pos (by rw [hl]; simp; omega), W_eq (by omega) (by omega)]
      refine ih (k + 1) _ (by omega) (by omega) ?_ (by omega)
      rw [hl, show (k + 1).toNat = k.toNat + 1 by omega, List.replicate_succ']
    · rw [decide_eq_false hlt, cond_false, hl, show k = w * h by omega]

theorem new_s {w h : Int} (h1 : 2 ≤ w) (h2 : w ≤ 200) (h3 : 1 ≤ h) (h4 : h ≤ 200) (h5 : w * h ≤ 8000) : M_s_GridNew w h = some (gblank w h, true) := by
  have h6 : 0 ≤ w * h := Int.mul_nonneg (by omega) (by omega)
  unfold M_s_GridNew
  rw [W_eq (x := w * h) (by omega) (by omega), decide_eq_false (show ¬ w < 2 by omega), decide_eq_false (show ¬ 200 < w by omega), decide_eq_false (show ¬ h < 1 by omega), decide_eq_false (show ¬ 200 < h by omega), decide_eq_false (show ¬ 8000 < w * h by omega)]
  simp only [cond_false, joinO]
  rw [new_s_loop w h ⟨h6, h5⟩ _ FUEL 0 [] (by omega) h6 rfl (by rw [fuel_eq]; omega)]
  rfl

theorem fill_loop (c : List UInt8 × Int × Int) : ∀ (m : Nat) (n : Int) (g : Gd) (i h : Int), CurOk (c.1, i, h) → Gok g → 0 ≤ n → n ≤ 100000 → n < m →
    ∃ g' i' h', fixF (M_s_l08Fill_L1 c fun (x86, x87, x88, x91, x92, x93, x94, x95) => some ((x86, x87, x88, x91, x92, x93), (c.1, x94, x95))) m (n, g.1, g.2.1, g.2.2.1, g.2.2.2.1, g.2.2.2.2.1, g.2.2.2.2.2, i, h) = some (g', (c.1, i', h')) ∧ CurOk (c.1, i', h') ∧ Gok g' ∧ g'.1 = g.1 ∧ g'.2.1 = g.2.1 := by
  intro m
  induction m with
  | zero => intro n g i h _ _ _ _ hm; omega
  | succ m ih =>
    intro n g i h hc hg hn hn' hm
    simp only [fixF, M_s_l08Fill_L1, joinO]
    by_cases h1 : 0 < n
    · rw [decide_eq_true h1, cond_true]
      obtain ⟨r, i2, h2, e, o2, dr⟩ := rune_ok _ hc
      have e' : M_s_l02Rune (c.1, i, h) = some (r, (c.1, i2, h2)) := e
      rw [bindO_of e']
      have ep : M_s_GridPut (g.1, g.2.1, g.2.2.1, g.2.2.2.1, g.2.2.2.2.1, g.2.2.2.2.2) r = some (gput g r) := put_s g hg r
      simp only
      rw [bindO_of ep, W_eq (x := n - 1) (by omega) (by omega)]
      have hp := gput_ok hg r
      obtain ⟨w1, w2⟩ := gput_wh g r
      obtain ⟨y3, i3, h3, e3, o3, _, _, _⟩ := below_ok _ o2 5
      have e3' : M_s_l01Below (c.1, i2, h2) 5 = some (y3, (c.1, i3, h3)) := e3
      rw [bindO_of e3']
      simp only
      by_cases hz : y3 = 0
      · rw [decide_eq_true hz, cond_true]
        obtain ⟨y4, i4, h4, e4, o4, _, _, _⟩ := below_ok _ o3 (gput g r).1
        have e4' : M_s_l01Below (c.1, i3, h3) (gput g r).1 = some (y4, (c.1, i4, h4)) := e4
        rw [bindO_of e4']
        obtain ⟨y5, i5, h5, e5, o5, _, _, _⟩ := below_ok _ o4 (gput g r).2.1
        have e5' : M_s_l01Below (c.1, i4, h4) (gput g r).2.1 = some (y5, (c.1, i5, h5)) := e5
        simp only
        rw [bindO_of e5']
        simp only
        rw [bindO_of (go_s _ hp _ _)]
        obtain ⟨g', i', h', r1, r2, r3, r4, r5⟩ := ih (n - 1) (ggo (gput g r) y4 y5) i5 h5 o5 (ggo_ok hp _ _) (by omega) (by omega) (by omega)
        exact ⟨g', i', h', r1, r2, r3, r4.trans w1, r5.trans w2⟩
      · rw [decide_eq_false hz, cond_false]
        obtain ⟨g', i', h', r1, r2, r3, r4, r5⟩ := ih (n - 1) (gput g r) i3 h3 o3 hp (by omega) (by omega) (by omega)
        exact ⟨g', i', h', r1, r2, r3, r4.trans w1, r5.trans w2⟩
    · rw [decide_eq_false h1, cond_false]
      exact ⟨g, i, h, rfl, hc, hg, rfl, rfl⟩

theorem fill_ok (c : List UInt8 × Int × Int) (hc : CurOk c) (g : Gd) (hg : Gok g) (most : Int) (hm : 0 ≤ most) (hm' : most ≤ 1000) :
    ∃ g' i h, M_s_l08Fill c g most = some (g', (c.1, i, h)) ∧ CurOk (c.1, i, h) ∧ Gok g' ∧ g'.1 = g.1 ∧ g'.2.1 = g.2.1 := by
  unfold M_s_l08Fill
  rw [W_eq (by omega) (by omega)]
  obtain ⟨y, i, h, e, ho, y0, y1, _⟩ := below_ok _ hc (most + 1)
  have e' : M_s_l01Below c (most + 1) = _ := e
  rw [bindO_of e']
  simp only [joinO]
  have := y1 (by omega)
  exact fill_loop c FUEL y g i h ho hg y0 (by omega) (by rw [fuel_eq]; omega)

theorem sized_ok (c : List UInt8 × Int × Int) (hc : CurOk c) : ∃ g i h, M_s_l08Sized c = some (g, (c.1, i, h)) ∧ CurOk (c.1, i, h) ∧ Gok g := by
  unfold M_s_l08Sized
  obtain ⟨y, i, h, e, ho, y0, y1, _⟩ := below_ok _ hc 9
  have e' : M_s_l01Below c 9 = _ := e
  rw [bindO_of e']
  obtain ⟨y2, i2, h2, e2, ho2, y20, y21, _⟩ := below_ok _ ho 4
  have e2' : M_s_l01Below (c.1, i, h) 4 = _ := e2
  have := y1 (by omega)
  have := y21 (by omega)
  simp only
  rw [bindO_of e2', W_eq (x := 2 + y) (by omega) (by omega), W_eq (x := 1 + y2) (by omega) (by omega)]
  have hb : (2 + y) * (1 + y2) ≤ 10 * (1 + y2) := Int.mul_le_mul_of_nonneg_right (by omega) (by omega)
  rw [bindO_of (new_s (by omega) (by omega) (by omega) (by omega) (by omega))]
  exact ⟨_, i2, h2, rfl, ho2, gblank_ok (by omega) (by omega) (by omega) (by omega) (by omega)⟩

theorem gdraw_ok (c : List UInt8 × Int × Int) (hc : CurOk c) : ∃ g i h, M_s_l08Draw c = some (g, (c.1, i, h)) ∧ CurOk (c.1, i, h) ∧ Gok g := by
  unfold M_s_l08Draw
  obtain ⟨g, i, h, e, ho, hg⟩ := sized_ok c hc
  rw [bindO_of e]
  obtain ⟨g', i', h', e', ho', hg', _, _⟩ := fill_ok _ ho g hg 24 (by omega) (by omega)
  have e'' : M_s_l08Fill (c.1, i, h) g 24 = _ := e'
  simp only
  rw [bindO_of e'']
  exact ⟨g', i', h', rfl, ho', hg'⟩

theorem grids_ok (l : List UInt8) (hl : (l.length : Int) ≤ 1048576) : ∃ a b, M_s_MakeGrids l = some (a, b) ∧ Gok a ∧ Gok b ∧ b.2.2.2.2.2 = false ∧ b.1 = a.1 ∧ b.2.1 = a.2.1 := by
  unfold M_s_MakeGrids
  obtain ⟨h0, e0, o0⟩ := new_ok l hl
  rw [bindO_of e0]
  obtain ⟨a, i, h, e, ho, ha⟩ := gdraw_ok _ o0
  have e' : M_s_l08Draw (l, 0, h0) = some (a, (l, i, h)) := e
  simp only
  rw [bindO_of e']
  obtain ⟨s1, s2, s3, s4, s5, s6⟩ := gsz_bounds ha.sz
  simp only
  rw [bindO_of (gcopy_s a (by omega))]
  have fin : ∀ (g : Gd) (i h : Int), Gok g → CurOk (l, i, h) → g.1 = a.1 → g.2.1 = a.2.1 → ∃ b,
      (bindO (M_s_l08Fill (l, i, h) (g.1, g.2.1, g.2.2.1, g.2.2.2.1, g.2.2.2.2.1, g.2.2.2.2.2) 12) fun (y39, y40) =>
      (bindO (M_s_l01Below (l, y40.2.1, y40.2.2) y39.1) fun (y44, y45) =>
      (bindO (M_s_l01Below (l, y45.2.1, y45.2.2) y39.2.1) fun (y47, y48) =>
      (bindO (M_s_GridGo y39 y44 y47) fun (y50 : Int × Int × List Int × Int × Int × Bool) =>
      some (a, y50))))) = some (a, b) ∧ Gok b ∧ b.2.2.2.2.2 = false ∧ b.1 = a.1 ∧ b.2.1 = a.2.1 := by
    intro g i h hg hc q1 q2
    obtain ⟨g', i', h', f1, f2, f3, f4, f5⟩ := fill_ok _ hc g hg 12 (by omega) (by omega)
    have f1' : M_s_l08Fill (l, i, h) (g.1, g.2.1, g.2.2.1, g.2.2.2.1, g.2.2.2.2.1, g.2.2.2.2.2) 12 = some (g', (l, i', h')) := f1
    rw [bindO_of f1']
    obtain ⟨y4, i4, h4, e4, o4, _, _, _⟩ := below_ok _ f2 g'.1
    have e4' : M_s_l01Below (l, i', h') g'.1 = some (y4, (l, i4, h4)) := e4
    simp only
    rw [bindO_of e4']
    obtain ⟨y5, i5, h5, e5, o5, _, _, _⟩ := below_ok _ o4 g'.2.1
    have e5' : M_s_l01Below (l, i4, h4) g'.2.1 = some (y5, (l, i5, h5)) := e5
    simp only
    rw [bindO_of e5']
    simp only
    rw [bindO_of (go_s _ f3 _ _)]
    exact ⟨_, rfl, ggo_ok f3 _ _, rfl, f4.trans q1, f5.trans q2⟩
  obtain ⟨y2, i2, h2, e2, o2, _, _, _⟩ := below_ok _ ho 3
  have e2' : M_s_l01Below (l, i, h) 3 = some (y2, (l, i2, h2)) := e2
  simp only [joinO]
  rw [bindO_of e2']
  simp only
  by_cases hz : y2 = 0
  · rw [decide_eq_true hz, cond_true, bindO_of (new_s s1 s2 s3 s4 (by omega))]
    obtain ⟨b, b1, b2, b3, b4, b5⟩ := fin (gblank a.1 a.2.1) i2 h2 (gblank_ok s1 s2 s3 s4 (by omega)) o2 rfl rfl
    exact ⟨a, b, b1, ha, b2, b3, b4, b5⟩
  · rw [decide_eq_false hz, cond_false]
    obtain ⟨b, b1, b2, b3, b4, b5⟩ := fin a i2 h2 ha o2 rfl rfl
    exact ⟨a, b, b1, ha, b2, b3, b4, b5⟩

theorem at_sub {α : Type} [Inhabited α] (l : List α) (a b i : Int) (ha : 0 ≤ a) (hb : b ≤ (l.length : Int)) (i0 : 0 ≤ i) (i1 : i < b - a) : at' (sub' l a b) i = at' l (a + i) := by
  unfold sub'
  rw [at_nat _ i i0 (by simp; omega), at_nat _ (a + i) (by omega) (by omega), List.getElem_take, List.getElem_drop]
  congr 1; omega
theorem sub_lenI {α : Type} (l : List α) (a b : Int) (ha : 0 ≤ a) (hab : a ≤ b) (hb : b ≤ (l.length : Int)) : ((sub' l a b).length : Int) = b - a := by
  unfold sub'; simp; omega

theorem gridAt_i (g : Gd) (h : Gok g) (x y : Int) (hx : 0 ≤ x ∧ x < g.1) (hy : 0 ≤ y ∧ y < g.2.1) : M_i_GridAt g x y = some (at' g.2.2.1 (y * g.1 + x)) := by
  obtain ⟨s1, s2, s3, s4, s5, s6⟩ := gsz_bounds h.sz
  have h1 : 0 ≤ y * g.1 := Int.mul_nonneg hy.1 (by omega)
  have h2 : (y + 1) * g.1 ≤ g.2.1 * g.1 := Int.mul_le_mul_of_nonneg_right (by omega) (by omega)
  rw [Int.add_mul, Int.one_mul, Int.mul_comm g.2.1 g.1] at h2
  unfold M_i_GridAt
  rw [bindO_of ((gridOk_i g).1 h), W_eq (x := g.1 - 1) (by omega) (by omega), W_eq (x := g.2.1 - 1) (by omega) (by omega), in_eq, in_eq, callO_of, Bool.not_true, if_pos rfl, decide_eq_true (show 0 ≤ x ∧ x ≤ g.1 - 1 by omega), callO_of, decide_eq_true (show 0 ≤ y ∧ y ≤ g.2.1 - 1 by omega)]
  simp only [Bool.not_true, cond_false, if_true, guardO]
  rw [W_eq (x := y * g.1) (by omega) (by omega), W_eq (x := y * g.1 + x) (by omega) (by omega), if_pos (by omega)]

theorem gridScroll_i (g : Gd) (h : Gok g) : M_i_GridScroll g = some (gscr g) := by
  obtain ⟨s1, s2, s3, s4, s5, s6⟩ := gsz_bounds h.sz
  unfold M_i_GridScroll
  rw [bindO_of ((gridOk_i g).1 h), Bool.not_true, cond_false, bindO_of (gcopy_i g (by omega)), bindO_of (scroll_i g h.sz)]
theorem gridClear_i (g : Gd) (h : Gok g) (a b : Int) : M_i_GridClear g a b = some (ger g a b) := by
  obtain ⟨s1, s2, s3, s4, s5, s6⟩ := gsz_bounds h.sz
  unfold M_i_GridClear
  rw [bindO_of ((gridOk_i g).1 h), Bool.not_true, cond_false, bindO_of (gcopy_i g (by omega)), bindO_of (erase_i g h.sz h.cells _ _)]

theorem row_loop (g : Gd) (y : Int) (j : Int → Option (List UInt8)) (hb : ∀ i, 0 ≤ i → i < ((sub' g.2.2.1 (W (y * g.1)) (W ((W (y + 1)) * g.1))).length : Int) → at' (sub' g.2.2.1 (W (y * g.1)) (W ((W (y + 1)) * g.1))) i = 32) (hl : ((sub' g.2.2.1 (W (y * g.1)) (W ((W (y + 1)) * g.1))).length : Int) ≤ 100000) :
    ∀ (m : Nat) (k : Int), 0 ≤ k → k ≤ ((sub' g.2.2.1 (W (y * g.1)) (W ((W (y + 1)) * g.1))).length : Int) → k < m → fixF (M_i_GridRow_L1 g y j) m k = j 0 := by
  intro m
  induction m with
  | zero => intro k _ _ h; omega
  | succ m ih =>
    intro k h0 hk hm
    simp only [fixF, M_i_GridRow_L1, guardO]
    rw [W_eq (x := k - 1) (by omega) (by omega)]
    by_cases h : 0 < k
    · rw [if_pos (by intro _; omega), hb (k - 1) (by omega) (by omega), decide_eq_true h, decide_eq_true rfl, cond_true, cond_true]
      exact ih (k - 1) (by omega) (by omega) (by omega)
    · have : k = 0 := by omega
      subst this
      rw [if_pos (by intro hz; exact absurd (of_decide_eq_true hz) h), decide_eq_false h, cond_false, cond_false]

theorem textOf_nil : M_i_TextOf [] = some [] := by
  unfold M_i_TextOf joinO
  obtain ⟨m, hm⟩ : ∃ m, FUEL = m + 1 := ⟨FUEL - 1, by rw [fuel_eq]⟩
  rw [hm]
  simp [fixF, M_i_TextOf_L1]

theorem row_blank (g : Gd) (h : Gok g) (y : Int) (hy : 0 ≤ y ∧ y < g.2.1) (hb : ∀ x, 0 ≤ x → x < g.1 → at' g.2.2.1 (y * g.1 + x) = 32) : M_i_GridRow g y = some [] := by
  obtain ⟨s1, s2, s3, s4, s5, s6⟩ := gsz_bounds h.sz
  have h1 : 0 ≤ y * g.1 := Int.mul_nonneg hy.1 (by omega)
  have h2 : (y + 1) * g.1 ≤ g.2.1 * g.1 := Int.mul_le_mul_of_nonneg_right (by omega) (by omega)
  rw [Int.add_mul, Int.one_mul, Int.mul_comm g.2.1 g.1] at h2
  have e1 : W (y * g.1) = y * g.1 := W_eq (by omega) (by omega)
  have e2 : W ((W (y + 1)) * g.1) = y * g.1 + g.1 := by
    rw [W_eq (x := y + 1) (by omega) (by omega), Int.add_mul, Int.one_mul, W_eq (by omega) (by omega)]
  have hl := sub_lenI g.2.2.1 (y * g.1) (y * g.1 + g.1) h1 (by omega) (by omega)
  have hbl : ∀ i, 0 ≤ i → i < ((sub' g.2.2.1 (W (y * g.1)) (W ((W (y + 1)) * g.1))).length : Int) → at' (sub' g.2.2.1 (W (y * g.1)) (W ((W (y + 1)) * g.1))) i = 32 := by
    rw [e1, e2, hl]
    intro i i0 i1
    rw [at_sub _ _ _ _ h1 (by omega) i0 i1]
    exact hb i i0 (by omega)
  unfold M_i_GridRow
  rw [bindO_of ((gridOk_i g).1 h), W_eq (x := g.2.1 - 1) (by omega) (by omega), in_eq, callO_of, Bool.not_true, if_pos rfl, decide_eq_true (show 0 ≤ y ∧ y ≤ g.2.1 - 1 by omega)]
  simp only [Bool.not_true, cond_false, guardO, joinO]
  rw [row_loop g y _ hbl (by rw [e1, e2, hl]; omega) FUEL _ (by omega) (by omega) (by rw [e1, e2, hl, fuel_eq]; omega)]
  rw [e1, e2, hl]
  rw [if_pos (by omega), if_pos (by omega)]
  show bindO (M_i_TextOf (sub' _ 0 0)) _ = _
  have e3 : ∀ l : List Int, sub' l 0 0 = [] := by intro l; simp [sub']
  rw [e3, bindO_of textOf_nil]

theorem law_FnGrid (code : List UInt8) : M_l_FnGrid code = some true := by
  unfold M_l_FnGrid
  by_cases hl : 1048576 < (code.length : Int)
  · rw [decide_eq_true hl]; rfl
  rw [decide_eq_false hl, cond_false]
  obtain ⟨a, b, e, ha, hb, hw, w1, w2⟩ := grids_ok code (by omega)
  rw [bindO_of e]
  obtain ⟨h0, e0, o0⟩ := new_ok code (by omega)
  obtain ⟨r, i, h, er, _, dr⟩ := rune_ok _ o0
  have em : M_s_MakeRune code = some r := by
    unfold M_s_MakeRune
    have er' : M_s_l02Rune (code, 0, h0) = some (r, (code, i, h)) := er
    rw [bindO_of e0]
    simp only
    rw [bindO_of er']
  simp only
  rw [bindO_of em]
  have ep : M_i_GridPut b r = some (gput b r) := by
    rw [gridPut_i]; unfold gputE; rw [if_pos hb]
  rw [bindO_of ep]
  have hn := drawn_wd dr
  have hp := gput_ok hb r
  obtain ⟨p1, p2⟩ := gput_wh b r
  obtain ⟨s1, s2, s3, s4, s5, s6⟩ := gsz_bounds hb.sz
  obtain ⟨c1, c2, c3, c4, c5⟩ := hb.cur
  -- the number
  have en : ∃ n, M_s_MakeNum code 30 = some n ∧ 0 ≤ n ∧ n < 30 := by
    unfold M_s_MakeNum
    rw [bindO_of e0]
    obtain ⟨y, i, h, e, ho, y0, y1, _⟩ := below_ok (code, 0, W (h0 + 777)) ⟨o0.1, o0.2.1, o0.2.2⟩ 30
    have e' : M_s_l01Below (code, 0, W (h0 + 777)) 30 = some (y, (code, i, h)) := e
    simp only
    rw [bindO_of e']
    exact ⟨y, rfl, y0, y1 (by omega)⟩
  obtain ⟨n, en, n0, n1⟩ := en
  -- where the rune stands
  have hg := gnext_ok hb (wd r)
  have hf := gnext_fit hb (wd r) hn
  obtain ⟨b0, b1, b2, b3, b4⟩ := gat_bounds hg hn hf
  have hcell : at' (gput b r).2.2.1 (gat (gnext b (wd r))) = r := by
    have hc : (gput b r).2.2.1 = gcel (gnext b (wd r)) (wd r) r := by
      unfold gput
      rw [if_neg (by omega)]
      unfold gwr
      split <;> rfl
    rw [hc]
    unfold gcel
    simp only
    by_cases w : wd r = 2
    · rw [if_pos w, at_set _ _ _ _ b1 (by simp [er_len]; omega) (by omega), if_neg (by omega), at_set _ _ _ _ b1 (by rw [er_len]; omega) b1, if_pos rfl]
    · rw [if_neg w, at_set _ _ _ _ b1 (by rw [er_len]; omega) b1, if_pos rfl]
  have hfin : ∀ x y : Int, gat (gnext b (wd r)) = y * b.1 + x → 0 ≤ x ∧ x < b.1 → 0 ≤ y ∧ y < b.2.1 →
    (bindO (M_s_MakeNum code 30) fun (y30 : Int) =>
    (bindO (M_i_GridOk (gput b r)) fun (y32 : Bool) =>
    (callO (y32 = true) (M_i_GridAt (gput b r) x y) (0 : Int) fun (y34 : Int) =>
    (callO ((bif y32 then (decide (y34 = r)) else false) = true) (M_i_GridScroll a) ((0 : Int), (0 : Int), [], (0 : Int), (0 : Int), false) fun (y37 : Int × Int × List Int × Int × Int × Bool) =>
    (callO ((bif y32 then (decide (y34 = r)) else false) = true) (M_i_GridOk y37) false fun (y45 : Bool) =>
    (callO ((bif (bif y32 then (decide (y34 = r)) else false) then y45 else false) = true) (M_i_GridClear a y30 (W (y30 + 3))) ((0 : Int), (0 : Int), [], (0 : Int), (0 : Int), false) fun (y49 : Int × Int × List Int × Int × Int × Bool) =>
    (callO ((bif (bif y32 then (decide (y34 = r)) else false) then y45 else false) = true) (M_i_GridOk y49) false fun (y57 : Bool) =>
    (callO ((bif (bif (bif y32 then (decide (y34 = r)) else false) then y45 else false) then y57 else false) = true) (M_i_GridScroll a) ((0 : Int), (0 : Int), [], (0 : Int), (0 : Int), false) fun (y60 : Int × Int × List Int × Int × Int × Bool) =>
    (callO ((bif (bif (bif y32 then (decide (y34 = r)) else false) then y45 else false) then y57 else false) = true) (M_i_GridRow y60 (W (a.2.1 - 1))) [] fun (y69 : List UInt8) =>
    some (bif (bif (bif (bif y32 then (decide (y34 = r)) else false) then y45 else false) then y57 else false) then (decide (y69 = [])) else false)))))))))) = some true := by
    intro x y hxy hx hy
    have eat : M_i_GridAt (gput b r) x y = some r := by
      rw [gridAt_i _ hp x y (by rw [p1]; exact hx) (by rw [p2]; exact hy), p1, ← hxy, hcell]
    have hs := gscr_ok ha
    obtain ⟨t1, t2, t3, t4, t5, t6⟩ := gsz_bounds ha.sz
    have hrow : M_i_GridRow (gscr a) (a.2.1 - 1) = some [] := by
      refine row_blank _ hs _ (by simp only [gscr]; omega) fun x x0 x1 => ?_
      simp only [gscr] at x1 ⊢
      have h2 : (a.2.1 - 1) * a.1 = a.1 * a.2.1 - a.1 := by rw [Int.sub_mul, Int.one_mul, Int.mul_comm]
      have hq := len_ge ha.sz
      rw [h2, scr_at _ _ (by omega) (by omega) _ (by omega) (by omega), if_neg (by omega)]
    rw [bindO_of en, bindO_of ((gridOk_i _).1 hp), eat, callO_pos rfl, gridScroll_i a ha, callO_pos (by simp), (gridOk_i _).1 hs, callO_pos (by simp), gridClear_i a ha, callO_pos (by simp), (gridOk_i _).1 (ger_ok ha _ _), callO_pos (by simp), callO_pos (by simp), W_eq (x := a.2.1 - 1) (by omega) (by omega), hrow, callO_pos (by simp)]
    simp
  simp only [joinO] at hfin ⊢
  rw [width_i, bindO_of rfl, W_eq (x := b.1 - 1) (by omega) (by omega), W_eq (x := b.2.1 - 1) (by omega) (by omega), W_eq (x := b.2.2.2.2.1 + 1) (by omega) (by omega)]
  by_cases w : wd r = 2 ∧ b.2.2.2.1 = b.1 - 1
  · rw [decide_eq_true w.1, decide_eq_true w.2, cond_true, cond_true]
    have hgn : gnext b (wd r) = if b.2.2.2.2.1 = b.2.1 - 1 then ggo (gscr b) 0 (b.2.2.2.2.1 + 1) else ggo b 0 (b.2.2.2.2.1 + 1) := by
      unfold gnext; rw [if_pos (.inr w)]
    by_cases hy : b.2.2.2.2.1 < b.2.1 - 1
    · rw [decide_eq_true hy, cond_true]
      refine hfin 0 (b.2.2.2.2.1 + 1) ?_ (by omega) (by omega)
      rw [hgn, if_neg (by omega)]
      simp only [gat, ggo]
      rw [show max 0 (min 0 (b.1 - 1)) = 0 by omega, show max 0 (min (b.2.2.2.2.1 + 1) (b.2.1 - 1)) = b.2.2.2.2.1 + 1 by omega]
    · rw [decide_eq_false hy, cond_false]
      refine hfin 0 b.2.2.2.2.1 ?_ (by omega) (by omega)
      rw [hgn, if_pos (by omega)]
      simp only [gat, ggo, gscr]
      rw [show max 0 (min 0 (b.1 - 1)) = 0 by omega, show max 0 (min (b.2.2.2.2.1 + 1) (b.2.1 - 1)) = b.2.2.2.2.1 by omega]
  · have hc : (bif (decide (wd r = 2)) then (decide (b.2.2.2.1 = b.1 - 1)) else false) = false := by
      by_cases z : wd r = 2
      · have : ¬ b.2.2.2.1 = b.1 - 1 := fun h => w ⟨z, h⟩
        simp [z, this]
      · simp [z]
    rw [hc, cond_false]
    refine hfin b.2.2.2.1 b.2.2.2.2.1 ?_ ⟨c1, c2⟩ ⟨c3, c4⟩
    unfold gnext
    rw [if_neg]
    · rfl
    · rintro (h | h)
      · rw [hw] at h; cases h
      · exact w h

end Go.Eng

namespace Go.Proofs.Ytokbomfmkllghaa.fnGrid
open Go.ChangeShapes Go.WideShapes Go.ChangeAt Go.RowKit Go.Eng
open Go.ChangeMaps (open_string shut_string)

theorem own : ownKnob Try.prog.godebug = none := by kernel_rfl
theorem laidOut : laidOutB Try.prog = true := by kernel_rfl

theorem walk (a0 : Option Addr) (len0 cap0 : Nat) (z0 : List Int) (w : World) (w0 : IsRow .u8 w a0 len0 cap0 z0) :
    Calls Try.prog 4 #[.slice a0 len0 cap0] w fun e w' => e = .returned (.bool true) ∧ Below w.heap.size w w' := by
  obtain ⟨l0, f0⟩ := w0.byteFact
  have h := ok_l_FnGrid (bytesOf (z0.take len0)) a0 cap0 len0 l0 true (law_FnGrid (bytesOf (z0.take len0)) )
  refine Calls.mono (h.calls w ?_) ?_
  · intro x hx
    rcases List.mem_cons.1 hx with rfl | hx
    · exact ⟨_, f0.choose_spec⟩
    cases hx
  · rintro e w' ⟨r, -, he, hk, -⟩
    exact ⟨he, hk.below⟩

set_option maxRecDepth 100000 in
theorem lifted (os : Os) (started : os.Started) (H : Type) (enc : TypeId × Value → H) :
    ReturnsInHanded {} Try.checked os 4 .any (Rows.fnGridSpec.pre6 enc Try.prog Try.f4 Rows.fnGridRow.domain false) (Rows.fnGridSpec.post enc Try.prog Try.f4 false true false false) := by
  refine returnsInHanded_of_change (C := Try.checked) own started (by kernel_rfl) Try.func4
    (ChangeSpec.witness6 (enc := enc) (C := Try.checked) false ⟨#[], #[.slice none 0 0], []⟩ 8 (by kernel_rfl) (by kernel_rfl) (by kernel_rfl) (by kernel_rfl)) ?_
  intro W base args ds gs before hval0 hW hcnd _
  have hval : ∀ (j : Nat) t v, Try.f4.params[j]? = some t → args[j]? = some v → Value.okWide Try.prog W .any base t v := hval0
  have hW' := hW
  obtain ⟨p, q, hA0, hV, rfl, hfz, hnd⟩ := hW
  have hA : DataW.TrodAll enc Try.prog W 0 (fun _ => true) true Try.f4.params.toList args.toList ds p := hA0
  rw [Try.params4] at hA hval
  obtain ⟨v0, vs0, d0, ds0, p0, q0, hargs, rfl, rfl, h0, r0⟩ := trodAll_cons hA
  obtain ⟨rfl, rfl, rfl⟩ := trodAll_nil r0
  obtain rfl : args = #[v0] := by cases args; simp_all
  obtain ⟨rfl, rfl⟩ := trodVars_none hV
  obtain ⟨a0, len0, cap0, rfl⟩ := okWide_slice Try.underlying32 (hval 0 32 v0 rfl rfl)
  have k0 := h0
  have lt0 : ∀ x ∈ p0, x.block < W.heap.size := by obtain ⟨m, hm⟩ := k0; exact DataW.trod_lt m _ _ _ hm
  obtain ⟨z0, w0⟩ : ∃ zs, IsRow .u8 W a0 len0 cap0 zs := by
    obtain ⟨fuel, hf⟩ := h0
    rcases open_ints Try.underlying32 Try.underlying5 (by kernel_rfl) hf with ⟨hcs, _⟩ | ⟨x, l, c, zs, hcs, _, hl, hm, hz, _, hcell, hwz⟩
    · simp [Value.cells] at hcs
      obtain ⟨rfl, rfl, rfl⟩ := hcs
      exact ⟨[], .inl ⟨rfl, rfl, rfl, rfl⟩⟩
    · simp [Value.cells] at hcs
      obtain ⟨rfl, rfl, rfl⟩ := hcs
      exact ⟨zs, .inr ⟨_, rfl, hl, hm, by simpa using hz, hcell, hwz⟩⟩
  clear hA0 hval0
  simp only [List.append_nil] at hW'
  refine (walk a0 len0 cap0 z0 W w0).mono fun e W' ⟨he, bel⟩ => ?_
  subst he
  exact ⟨_, rfl, _, _, _, [], _, [], hW', trodAll_mk1 (shut_bool Try.underlying4 _), (trodAll_cons_mk (Below.trod laidOut (by kernel_rfl) (of_decide_eq_true (by kernel_rfl)) k0 bel lt0) trodAll_mk0), rfl, bel.frame _, fun h => by cases h⟩

theorem andI {a b : Bool} (ha : a = true) (hb : b = true) : (a && b) = true := by rw [ha, hb]; rfl
set_option maxHeartbeats 8000000 in
theorem closed : joinedFacts Try.checked.prog 4 Try.f4 Rows.fnGridSpec Rows.fnGridRow = true := by
  unfold joinedFacts
  (repeat' with_reducible refine andI ?_ ?_) <;> as_aux_lemma => kernel_rfl

theorem over : Rows.fnGridRow.holds Try.pinned (OpenSpec.ofChange Rows.fnGridSpec) :=
  OpenClaim.holds_of_wide 4 Try.f4 rfl rfl rfl rfl rfl rfl rfl ⟨rfl, rfl, rfl, rfl, rfl⟩ rfl rfl rfl rfl rfl (by kernel_rfl) Try.func4 closed
    (of_decide_eq_true (by kernel_rfl)) (by unfold Func.isWrapper; first | (rw [if_pos (by decide +kernel)]; kernel_rfl) | (rw [if_neg (by decide +kernel)]; exact ⟨rfl, rfl⟩))
    (fun os started H enc _ => lifted os started H enc)

theorem proved : Rows.FnGridSaid := over
#print axioms proved
end Go.Proofs.Ytokbomfmkllghaa.fnGrid
