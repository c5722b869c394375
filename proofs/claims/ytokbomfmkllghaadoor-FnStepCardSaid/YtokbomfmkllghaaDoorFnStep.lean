/- FnStep: for every input the given law returns true and leaves its arguments as they were. No condition. -/
import Derived.Test.YtokbomfmkllghaaDoorFnStepWalkB
import Derived.Test.YtokbomfmkllghaaDoorRows
import Derived.WalkKit
import Derived.ProofKit
import Derived.OpenShut
import Derived.ShutString
import Derived.Test.YtokbomfmkllghaaDoorTie
import Derived.Test.YtokbomfmkllghaaDoorCards
import Derived.Handy
import Derived.Lay
import Derived.SevenTiedAt
set_option linter.unusedVariables false
set_option linter.unusedSimpArgs false
namespace Go.Eng
open Go Go.Proofs

theorem bindO_of {α β : Type} {m : Option α} {k : α → Option β} {y : α} (h : m = some y) : bindO m k = k y := by rw [h]; rfl

theorem bindO_ret {α β : Type} (y : α) (k : α → Option β) : bindO (some y) k = k y := rfl

theorem callO_pos {α β : Type} {c : Prop} [Decidable c] {x d : α} {k : α → Option β} (h : c) : callO c (some x) d k = k x := by
  unfold callO; rw [if_pos h]; rfl
theorem callO_neg {α β : Type} {c : Prop} [Decidable c] {m : Option α} {d : α} {k : α → Option β} (h : ¬ c) : callO c m d k = k d := by
  unfold callO; rw [if_neg h]

theorem in_eq (a b c : Int) : M_i_in a b c = some (decide (b ≤ a ∧ a ≤ c)) := by
  unfold M_i_in
  congr 1
  by_cases h1 : b ≤ a <;> by_cases h2 : a ≤ c <;> simp [h1, h2]

def pr (r : Int) : Bool := decide ((0 ≤ r ∧ r ≤ 1114111 ∧ (r < 55296 ∨ 57343 < r)) ∧ 32 ≤ r ∧ (r < 127 ∨ 159 < r))

theorem callO_of {α β : Type} {c : Prop} [Decidable c] {x d : α} {k : α → Option β} : callO c (some x) d k = k (if c then x else d) := by
  unfold callO
  split <;> simp [bindO, *]

theorem printable_s (r : Int) : M_s_Printable r = some (pr r) := by
  unfold M_s_Printable pr M_s_RuneOk
  simp only [bindO]
  congr 1
  by_cases h1 : 0 ≤ r <;> by_cases h2 : r ≤ 1114111 <;> by_cases h3 : r < 55296 <;> by_cases h4 : 57343 < r <;> by_cases h5 : 32 ≤ r <;> by_cases h6 : r < 127 <;> simp [h1, h2, h3, h4, h5, h6]

theorem printable_i (r : Int) : M_i_Printable r = some (pr r) := by
  unfold M_i_Printable pr M_i_RuneOk
  simp only [in_eq, callO_of, bindO]
  congr 1
  by_cases h1 : 0 ≤ r ∧ r ≤ 1114111
  · by_cases h2 : 55296 ≤ r ∧ r ≤ 57343
    · have : ¬ (r < 55296 ∨ 57343 < r) := by omega
      simp [h1, h2, this]
    · have : (r < 55296 ∨ 57343 < r) := by omega
      by_cases h5 : 32 ≤ r
      · by_cases h6 : 127 ≤ r ∧ r ≤ 159
        · have : ¬ (r < 127 ∨ 159 < r) := by omega
          simp [h1, h2, h5, h6, this]
        · have : (r < 127 ∨ 159 < r) := by omega
          simp [h1, h2, h5, h6, *]
      · simp [h1, h2, h5]
  · have : ¬ (0 ≤ r ∧ r ≤ 1114111 ∧ (r < 55296 ∨ 57343 < r)) := fun h => h1 ⟨h.1, h.2.1⟩
    simp [h1, this]

theorem drop_at {α : Type} [Inhabited α] {l : List α} {k : Int} (h0 : 0 ≤ k) (h : k < (l.length : Int)) : l.drop k.toNat = at' l k :: l.drop (k + 1).toNat := by
  have hlt : k.toNat < l.length := by omega
  rw [List.drop_eq_getElem_cons hlt]
  have : (k + 1).toNat = k.toNat + 1 := by omega
  rw [this]
  congr 1
  simp [at', List.getD_eq_getElem?_getD, hlt]

theorem sub_all {α : Type} {l : List α} {k : Int} (h0 : 0 ≤ k) : sub' l k (l.length : Int) = l.drop k.toNat := by
  unfold sub'
  rw [List.take_of_length_le]
  simp

def wtab : List (Int × Int) := [(4352, 4447), (11904, 42191), (44032, 55203), (63744, 64255), (65280, 65376), (65504, 65510), (127744, 129791), (131072, 262141)]
def wflat : List Int := [4352, 4447, 11904, 42191, 44032, 55203, 63744, 64255, 65280, 65376, 65504, 65510, 127744, 129791, 131072, 262141]
def wide (r : Int) (l : List (Int × Int)) : Bool := l.any fun p => decide (p.1 ≤ r ∧ r ≤ p.2)
/-- The columns of a rune. -/
def wd (r : Int) : Int := if pr r = true then (if wide r wtab = true then 2 else 1) else 0

theorem width_i_loop (r : Int) (j : Unit → Option Int) : ∀ (m : Nat) (k : Int), 0 ≤ k → k ≤ 8 → 8 - k < m →
    fixF (M_i_Width_L1 r j) m k = if wide r (wtab.drop k.toNat) = true then some 2 else j () := by
  intro m
  induction m with
  | zero => intro k _ _ h; omega
  | succ m ih =>
    intro k h0 h8 hm
    have hl : (wtab.length : Int) = 8 := rfl
    have hstep : fixF (M_i_Width_L1 r j) (m + 1) k = (bif decide (k < (wtab.length : Int)) then guardO (0 ≤ k ∧ k < (wtab.length : Int)) (bindO (M_i_in r (at' wtab k).1 (at' wtab k).2) fun y => bif y then some 2 else fixF (M_i_Width_L1 r j) m (W (k + 1))) else j ()) := rfl
    rw [hstep]
    by_cases h : k < (wtab.length : Int)
    · rw [decide_eq_true h, cond_true, guardO, if_pos ⟨h0, h⟩, in_eq, bindO_of rfl, drop_at h0 h]
      unfold wide
      rw [List.any_cons]
      by_cases hc : (at' wtab k).1 ≤ r ∧ r ≤ (at' wtab k).2
      · simp [hc]
      · rw [decide_eq_false hc, cond_false, Bool.false_or, W_eq (by omega) (by omega)]
        exact ih (k + 1) (by omega) (by omega) (by omega)
    · have h' : k.toNat = 8 := by omega
      rw [decide_eq_false h, cond_false, h']
      rfl

theorem width_i (r : Int) : M_i_Width r = some (wd r) := by
  unfold M_i_Width wd
  rw [bindO_of (printable_i r)]
  cases pr r with
  | false => rfl
  | true =>
    simp only [Bool.not_true, cond_false, joinO, if_true]
    rw [width_i_loop r _ FUEL 0 (by omega) (by omega) (by rw [fuel_eq]; omega)]
    simp only [Int.toNat_zero, List.drop_zero]
    split <;> rfl

theorem wflat_at : ∀ k : Fin 8, (at' wflat (2 * (k.val : Int)), at' wflat (2 * (k.val : Int) + 1)) = at' wtab (k.val : Int) := by decide

theorem width_s_loop (r : Int) (j : Unit → Option Int) : ∀ (m : Nat) (k : Int), 0 ≤ k → k ≤ 8 → 8 - k < m →
    fixF (M_s_Width_L1 r wflat j) m (2 * k) = if wide r (wtab.drop k.toNat) = true then some 2 else j () := by
  intro m
  induction m with
  | zero => intro k _ _ h; omega
  | succ m ih =>
    intro k h0 h8 hm
    have hl : (wflat.length : Int) = 16 := rfl
    have hl' : (wtab.length : Int) = 8 := rfl
    simp only [fixF, M_s_Width_L1, guardO]
    by_cases h : k < (wtab.length : Int)
    · have hw := wflat_at ⟨k.toNat, by omega⟩
      have hk : ((k.toNat : Nat) : Int) = k := by omega
      simp only [hk] at hw
      have e1 : at' wflat (2 * k) = (at' wtab k).1 := congrArg Prod.fst hw
      have e2 : at' wflat (2 * k + 1) = (at' wtab k).2 := congrArg Prod.snd hw
      rw [decide_eq_true (by omega), cond_true, if_pos (by omega), W_eq (x := 2 * k + 1) (by omega) (by omega), if_pos (by intro _; omega), drop_at h0 h]
      unfold wide
      rw [List.any_cons, e1, e2]
      by_cases hc : (at' wtab k).1 ≤ r
      · by_cases hd : r ≤ (at' wtab k).2
        · simp [hc, hd]
        · simp only [hc, hd, decide_true, cond_true, decide_false, cond_false, and_false, Bool.false_or]
          rw [W_eq (by omega) (by omega), show 2 * k + 2 = 2 * (k + 1) by omega]
          exact ih (k + 1) (by omega) (by omega) (by omega)
      · simp only [hc, decide_false, cond_false, false_and, Bool.false_or]
        rw [W_eq (by omega) (by omega), show 2 * k + 2 = 2 * (k + 1) by omega]
        exact ih (k + 1) (by omega) (by omega) (by omega)
    · have h' : k.toNat = 8 := by omega
      rw [decide_eq_false (by omega), cond_false, h']
      rfl

theorem width_s (r : Int) : M_s_Width r = some (wd r) := by
  unfold M_s_Width wd M_s_l02Wide
  rw [bindO_of (printable_s r)]
  cases pr r with
  | false => rfl
  | true =>
    simp only [Bool.not_true, cond_false, joinO, if_true, bindO]
    have := width_s_loop r (fun _ => some 1) FUEL 0 (by omega) (by omega) (by rw [fuel_eq]; omega)
    simp only [Int.mul_zero, Int.toNat_zero, List.drop_zero] at this
    refine Eq.trans this ?_
    split <;> rfl

theorem wd_cases (r : Int) : wd r = 0 ∨ wd r = 1 ∨ wd r = 2 := by
  unfold wd
  split
  · split <;> simp
  · simp
theorem wd_half : wd (-1) = 0 := by decide
theorem wd_blank : wd 32 = 1 := by decide

theorem at_nat {α : Type} [Inhabited α] (l : List α) (i : Int) (h0 : 0 ≤ i) (h : i < (l.length : Int)) : at' l i = l[i.toNat]'(by omega) := by
  have := at_some ⟨h0, h⟩
  rw [List.getElem?_eq_getElem (by omega)] at this
  exact (Option.some.inj this).symm

theorem at_set {α : Type} [Inhabited α] (l : List α) (k i : Int) (v : α) (h0 : 0 ≤ i) (h : i < (l.length : Int)) (hk : 0 ≤ k) : at' (List.set l k.toNat v) i = if k = i then v else at' l i := by
  rw [at_nat _ i h0 (by simpa using h), at_nat _ i h0 h, List.getElem_set]
  by_cases he : k = i
  · rw [if_pos he, if_pos (by omega)]
  · rw [if_neg he, if_neg (by omega)]

theorem ext_at {α : Type} [Inhabited α] {l l' : List α} (hl : l.length = l'.length) (h : ∀ i : Int, 0 ≤ i → i < (l.length : Int) → at' l i = at' l' i) : l = l' := by
  apply List.ext_getElem hl
  intro i h1 h2
  have := h (i : Int) (by omega) (by omega)
  rw [at_nat l i (by omega) (by omega), at_nat l' i (by omega) (by omega)] at this
  simpa using this

def tab {α : Type} (n : Nat) (f : Int → α) : List α := (List.range n).map fun (i : Nat) => f (i : Int)
theorem tab_len {α : Type} (n : Nat) (f : Int → α) : (tab n f).length = n := by simp [tab]
theorem tab_at {α : Type} [Inhabited α] (n : Nat) (f : Int → α) (i : Int) (h0 : 0 ≤ i) (h : i < (n : Int)) : at' (tab n f) i = f i := by
  rw [at_nat _ i h0 (by rw [tab_len]; exact h)]
  simp only [tab, List.getElem_map, List.getElem_range]
  congr 1; omega
theorem eq_tab {α : Type} [Inhabited α] {l : List α} {n : Nat} {f : Int → α} (hl : l.length = n) (h : ∀ i : Int, 0 ≤ i → i < (n : Int) → at' l i = f i) : l = tab n f := by
  refine ext_at (by rw [tab_len]; exact hl) fun i h0 h1 => ?_
  rw [h i h0 (by omega), tab_at n f i h0 (by omega)]
theorem at_app_l {α : Type} [Inhabited α] (l l' : List α) (i : Int) (h0 : 0 ≤ i) (h : i < (l.length : Int)) : at' (l ++ l') i = at' l i := by
  rw [at_nat _ i h0 (by simp; omega), at_nat _ i h0 h, List.getElem_append_left]
theorem at_app_r {α : Type} [Inhabited α] (l l' : List α) (i : Int) (h0 : (l.length : Int) ≤ i) (h : i < (l.length : Int) + (l'.length : Int)) : at' (l ++ l') i = at' l' (i - l.length) := by
  rw [at_nat _ i (by omega) (by simp; omega), at_nat _ (i - l.length) (by omega) (by omega), List.getElem_append_right (by omega)]
  congr 1; omega
theorem at_drop' {α : Type} [Inhabited α] (l : List α) (k i : Int) (hk : 0 ≤ k) (h0 : 0 ≤ i) (h : k + i < (l.length : Int)) : at' (l.drop k.toNat) i = at' l (k + i) := by
  rw [at_nat _ i h0 (by simp; omega), at_nat _ (k + i) (by omega) h, List.getElem_drop]
  congr 1; omega
theorem at_rep {α : Type} [Inhabited α] (n : Nat) (v : α) (i : Int) (h0 : 0 ≤ i) (h : i < (n : Int)) : at' (List.replicate n v) i = v := by
  rw [at_nat _ i h0 (by simpa using h)]; simp

abbrev Gd := Int × Int × List Int × Int × Int × Bool

def cOk (w : Int) (cs : List Int) (i : Int) : Prop :=
  if at' cs i = -1 then i % w ≠ 0 ∧ wd (at' cs (i - 1)) = 2 else wd (at' cs i) = 1 ∨ (wd (at' cs i) = 2 ∧ i % w ≠ w - 1 ∧ at' cs (i + 1) = -1)

/-- The size is right. -/
def gsz (g : Gd) : Prop := 2 ≤ g.1 ∧ g.1 ≤ 200 ∧ 1 ≤ g.2.1 ∧ g.2.1 ≤ 200 ∧ g.1 * g.2.1 ≤ 8000 ∧ (g.2.2.1.length : Int) = g.1 * g.2.1
/-- The cursor is right. -/
def gcur (g : Gd) : Prop := 0 ≤ g.2.2.2.1 ∧ g.2.2.2.1 < g.1 ∧ 0 ≤ g.2.2.2.2.1 ∧ g.2.2.2.2.1 < g.2.1 ∧ (g.2.2.2.2.2 = true → g.2.2.2.1 = g.1 - 1)
def gcells (g : Gd) : Prop := ∀ i : Int, 0 ≤ i → i < (g.2.2.1.length : Int) → cOk g.1 g.2.2.1 i
structure Gok (g : Gd) : Prop where
  sz : gsz g
  cur : gcur g
  cells : gcells g

theorem next_lt {w h i : Int} (hw : 0 < w) (h0 : 0 ≤ i) (hi : i < w * h) (hm : i % w ≠ w - 1) : i + 1 < w * h := by
  have h1 := Int.emod_add_mul_ediv i w
  have h2 : i / w < h := Int.ediv_lt_of_lt_mul hw (by rw [Int.mul_comm]; exact hi)
  have h3 : w * (i / w + 1) ≤ w * h := Int.mul_le_mul_of_nonneg_left (by omega) (by omega)
  rw [Int.mul_add, Int.mul_one] at h3
  have h4 := Int.emod_lt_of_pos i hw
  omega

theorem gsz_bounds {g : Gd} (h : gsz g) : 2 ≤ g.1 ∧ g.1 ≤ 200 ∧ 1 ≤ g.2.1 ∧ g.2.1 ≤ 200 ∧ (g.2.2.1.length : Int) ≤ 8000 ∧ (g.2.2.1.length : Int) = g.1 * g.2.1 := by
  obtain ⟨h1, h2, h3, h4, h5, h6⟩ := h
  exact ⟨h1, h2, h3, h4, by omega, h6⟩

theorem gridOk_s_loop (g : Gd) (hs : gsz g) (j : Unit → Option Bool) : ∀ (m : Nat) (k : Int), 0 ≤ k → k ≤ (g.2.2.1.length : Int) → (g.2.2.1.length : Int) - k < m →
    ((∀ i, k ≤ i → i < (g.2.2.1.length : Int) → cOk g.1 g.2.2.1 i) → fixF (M_s_GridOk_L1 g j) m k = j ()) ∧
    ((¬ ∀ i, k ≤ i → i < (g.2.2.1.length : Int) → cOk g.1 g.2.2.1 i) → fixF (M_s_GridOk_L1 g j) m k = some false) := by
  obtain ⟨s1, s2, s3, s4, s5, s6⟩ := gsz_bounds hs
  intro m
  induction m with
  | zero => intro k _ _ h; omega
  | succ m ih =>
    intro k h0 hk hm
    by_cases h : k < (g.2.2.1.length : Int)
    · have hstep : (cOk g.1 g.2.2.1 k → fixF (M_s_GridOk_L1 g j) (m + 1) k = fixF (M_s_GridOk_L1 g j) m (k + 1)) ∧ (¬ cOk g.1 g.2.2.1 k → fixF (M_s_GridOk_L1 g j) (m + 1) k = some false) := by
        have hmod : Int.tmod k g.1 = k % g.1 := Int.tmod_eq_emod_of_nonneg h0
        have hm0 := Int.emod_nonneg k (show g.1 ≠ 0 by omega)
        have hm1 := Int.emod_lt_of_pos k (show 0 < g.1 by omega)
        have hk0 : k % g.1 ≠ 0 → 1 ≤ k := by
          intro hh
          rcases Int.lt_or_eq_of_le h0 with h1 | h1
          · omega
          · exfalso; apply hh; rw [← h1]; simp
        have hnx : k % g.1 ≠ g.1 - 1 → k + 1 < (g.2.2.1.length : Int) := fun hh => by rw [s6]; exact next_lt (by omega) h0 (by omega) hh
        simp only [fixF, M_s_GridOk_L1, guardO, joinO, hmod]
        rw [decide_eq_true h, cond_true, if_pos ⟨h0, h⟩, if_pos (by omega), W_eq (x := k + 1) (by omega) (by omega), W_eq (x := k - 1) (by omega) (by omega), W_eq (x := g.1 - 1) (by omega) (by omega), width_s, width_s, bindO_of rfl]
        unfold cOk
        by_cases hh : at' g.2.2.1 k = -1
        · rw [decide_eq_true hh, cond_true, if_pos hh, if_pos (show g.1 ≠ 0 by omega)]
          rw [if_pos (by intro hz; have := hk0 (by simpa using hz); omega), callO_of]
          by_cases hz : k % g.1 = 0
          · simp [hz]
          · by_cases hw : wd (at' g.2.2.1 (k - 1)) = 2 <;> simp [hz, hw]
        · rw [decide_eq_false hh, cond_false, if_neg hh]
          rw [if_pos (by intro hz _ _; have := hnx (by simpa using hz); omega)]
          rcases wd_cases (at' g.2.2.1 k) with hw | hw | hw
          · simp [hw]
          · simp [hw]
          · by_cases hz : k % g.1 = g.1 - 1
            · simp [hw, hz]
            · by_cases hx : at' g.2.2.1 (k + 1) = -1 <;> simp [hw, hz, hx]
      obtain ⟨i1, i2⟩ := ih (k + 1) (by omega) (by omega) (by omega)
      by_cases hc : cOk g.1 g.2.2.1 k
      · rw [hstep.1 hc]
        refine ⟨fun hall => i1 fun i hi => hall i (by omega), fun hn => i2 fun hall => hn fun i hi hil => ?_⟩
        by_cases he : i = k
        · rw [he]; exact hc
        · exact hall i (by omega) hil
      · exact ⟨fun hall => absurd (hall k (by omega) h) hc, fun _ => hstep.2 hc⟩
    · refine ⟨fun _ => ?_, fun hn => absurd (fun i hi hil => by omega) hn⟩
      simp only [fixF, M_s_GridOk_L1]
      rw [decide_eq_false h, cond_false]

theorem mul_bound {a b : Int} (h1 : 2 ≤ a) (h2 : a ≤ 200) (h3 : 1 ≤ b) (h4 : b ≤ 200) : W (a * b) = a * b := by
  have h5 : a * b ≤ 200 * b := Int.mul_le_mul_of_nonneg_right h2 (by omega)
  have h6 : 0 ≤ a * b := Int.mul_nonneg (by omega) (by omega)
  exact W_eq (by omega) (by omega)

theorem gridOk_s (g : Gd) : (Gok g → M_s_GridOk g = some true) ∧ (¬ Gok g → M_s_GridOk g = some false) := by
  unfold M_s_GridOk
  by_cases hs : gsz g
  · obtain ⟨s1, s2, s3, s4, s5, s6⟩ := hs
    have e := mul_bound s1 s2 s3 s4
    rw [e, decide_eq_false (show ¬ g.1 < 2 by omega), decide_eq_false (show ¬ 200 < g.1 by omega), decide_eq_false (show ¬ g.2.1 < 1 by omega), decide_eq_false (show ¬ 200 < g.2.1 by omega), decide_eq_false (show ¬ 8000 < g.1 * g.2.1 by omega), decide_eq_true s6]
    simp only [cond_false, Bool.not_true, joinO]
    obtain ⟨l1, l2⟩ := gridOk_s_loop g ⟨s1, s2, s3, s4, s5, s6⟩ (fun _ => some (bif (bif (bif (bif (decide (0 ≤ g.2.2.2.1)) then (decide (g.2.2.2.1 < g.1)) else false) then (decide (0 ≤ g.2.2.2.2.1)) else false) then (decide (g.2.2.2.2.1 < g.2.1)) else false) then (bif (!g.2.2.2.2.2) then true else (decide (g.2.2.2.1 = (W (g.1 - 1))))) else false)) FUEL 0 (by omega) (by omega) (by rw [fuel_eq]; omega)
    rw [W_eq (x := g.1 - 1) (by omega) (by omega)] at l1 l2 ⊢
    by_cases hc : gcells g
    · have l3 := l1 fun i h0 h1 => hc i h0 h1
      rw [l3]
      by_cases hcur : gcur g
      · refine ⟨fun _ => ?_, fun hn => absurd ⟨⟨s1, s2, s3, s4, s5, s6⟩, hcur, hc⟩ hn⟩
        obtain ⟨c1, c2, c3, c4, c5⟩ := hcur
        cases hw : g.2.2.2.2.2 with
        | false => simp [c1, c2, c3, c4]
        | true => simp [c2, c3, c4, ← c5 hw, c1]
      · refine ⟨fun hg => absurd hg.cur hcur, fun _ => ?_⟩
        congr 1
        by_cases c1 : 0 ≤ g.2.2.2.1 <;> by_cases c2 : g.2.2.2.1 < g.1 <;> by_cases c3 : 0 ≤ g.2.2.2.2.1 <;> by_cases c4 : g.2.2.2.2.1 < g.2.1 <;> simp only [c1, c2, c3, c4, decide_true, decide_false, cond_true, cond_false]
        cases hw : g.2.2.2.2.2 with
        | false => exact absurd ⟨c1, c2, c3, c4, fun h => by rw [hw] at h; cases h⟩ hcur
        | true =>
          simp only [Bool.not_true, cond_false, decide_eq_false_iff_not]
          exact fun h => hcur ⟨c1, c2, c3, c4, fun _ => h⟩
    · have l3 := l2 fun hall => hc fun i h0 h1 => hall i h0 h1
      rw [l3]
      exact ⟨fun hg => absurd hg.cells hc, fun _ => rfl⟩
  · refine ⟨fun hg => absurd hg.sz hs, fun _ => ?_⟩
    by_cases s1 : g.1 < 2
    · simp [s1]
    by_cases s2 : 200 < g.1
    · simp [s2]
    by_cases s3 : g.2.1 < 1
    · simp [s3]
    by_cases s4 : 200 < g.2.1
    · simp [s4]
    have e := mul_bound (a := g.1) (b := g.2.1) (by omega) (by omega) (by omega) (by omega)
    rw [e]
    by_cases s5 : 8000 < g.1 * g.2.1
    · simp [s5]
    by_cases s6 : (g.2.2.1.length : Int) = g.1 * g.2.1
    · exact absurd ⟨by omega, by omega, by omega, by omega, by omega, s6⟩ hs
    · simp [s6]

theorem cellOk_i (g : Gd) (hs : gsz g) (k : Int) (h0 : 0 ≤ k) (h : k < (g.2.2.1.length : Int)) :
    (cOk g.1 g.2.2.1 k → M_i_cellOk g k = some true) ∧ (¬ cOk g.1 g.2.2.1 k → M_i_cellOk g k = some false) := by
  obtain ⟨s1, s2, s3, s4, s5, s6⟩ := gsz_bounds hs
  have hmod : Int.tmod k g.1 = k % g.1 := Int.tmod_eq_emod_of_nonneg h0
  have hm0 := Int.emod_nonneg k (show g.1 ≠ 0 by omega)
  have hm1 := Int.emod_lt_of_pos k (show 0 < g.1 by omega)
  have hk0 : k % g.1 ≠ 0 → 1 ≤ k := by
    intro hh
    rcases Int.lt_or_eq_of_le h0 with h1 | h1
    · omega
    · exfalso; apply hh; rw [← h1]; simp
  have hnx : k % g.1 ≠ g.1 - 1 → k + 1 < (g.2.2.1.length : Int) := fun hh => by rw [s6]; exact next_lt (by omega) h0 (by omega) hh
  simp only [M_i_cellOk, guardO, hmod]
  rw [if_pos ⟨h0, h⟩, if_pos (by omega), W_eq (x := k + 1) (by omega) (by omega), W_eq (x := k - 1) (by omega) (by omega), W_eq (x := k % g.1 + 1) (by omega) (by omega), width_i, width_i, bindO_of rfl]
  unfold cOk
  by_cases hh : at' g.2.2.1 k = -1
  · rw [decide_eq_true hh, cond_true, if_pos hh]
    have hk1 : decide (0 < k % g.1) = true → 0 ≤ k - 1 ∧ k - 1 < (g.2.2.1.length : Int) := by
      intro hz
      have hz' := of_decide_eq_true hz
      have := hk0 (by omega)
      omega
    rw [if_pos hk1, callO_of]
    by_cases hz : k % g.1 = 0
    · simp [hz]
    · have hz' : 0 < k % g.1 := by omega
      by_cases hw : wd (at' g.2.2.1 (k - 1)) = 2 <;> simp [hz, hz', hw]
  · rw [decide_eq_false hh, cond_false, if_neg hh]
    rcases wd_cases (at' g.2.2.1 k) with hw | hw | hw
    · simp [hw, bindO]
    · simp [hw, bindO]
    · rw [decide_eq_true hw, cond_true]
      by_cases hz : k % g.1 = g.1 - 1
      · have hz' : ¬ (k % g.1 + 1 < g.1) := by omega
        simp [hw, hz, hz']
      · have hz' : (k % g.1 + 1 < g.1) := by omega
        rw [if_pos (by intro _; have := hnx hz; omega)]
        by_cases hx : at' g.2.2.1 (k + 1) = -1 <;> simp [hw, hz, hz', hx]

theorem gridOk_i_loop (g : Gd) (hs : gsz g) (j : Unit → Option Bool) : ∀ (m : Nat) (k : Int), 0 ≤ k → k ≤ (g.2.2.1.length : Int) → (g.2.2.1.length : Int) - k < m →
    ((∀ i, k ≤ i → i < (g.2.2.1.length : Int) → cOk g.1 g.2.2.1 i) → fixF (M_i_GridOk_L1 g j) m k = j ()) ∧
    ((¬ ∀ i, k ≤ i → i < (g.2.2.1.length : Int) → cOk g.1 g.2.2.1 i) → fixF (M_i_GridOk_L1 g j) m k = some false) := by
  obtain ⟨s1, s2, s3, s4, s5, s6⟩ := gsz_bounds hs
  intro m
  induction m with
  | zero => intro k _ _ h; omega
  | succ m ih =>
    intro k h0 hk hm
    simp only [fixF, M_i_GridOk_L1]
    by_cases h : k < (g.2.2.1.length : Int)
    · rw [decide_eq_true h, cond_true, W_eq (by omega) (by omega)]
      obtain ⟨c1, c2⟩ := cellOk_i g hs k h0 h
      obtain ⟨i1, i2⟩ := ih (k + 1) (by omega) (by omega) (by omega)
      by_cases hc : cOk g.1 g.2.2.1 k
      · rw [bindO_of (c1 hc), Bool.not_true, cond_false]
        refine ⟨fun hall => i1 fun i hi => hall i (by omega), fun hn => i2 fun hall => hn fun i hi hil => ?_⟩
        by_cases he : i = k
        · rw [he]; exact hc
        · exact hall i (by omega) hil
      · rw [bindO_of (c2 hc)]
        exact ⟨fun hall => absurd (hall k (by omega) h) hc, fun _ => rfl⟩
    · refine ⟨fun _ => ?_, fun hn => absurd (fun i hi hil => by omega) hn⟩
      rw [decide_eq_false h, cond_false]

theorem gridOk_i (g : Gd) : (Gok g → M_i_GridOk g = some true) ∧ (¬ Gok g → M_i_GridOk g = some false) := by
  unfold M_i_GridOk
  rw [in_eq, in_eq, in_eq, in_eq, bindO_of rfl, callO_of, bindO_of rfl, callO_of]
  by_cases hs : gsz g
  · obtain ⟨s1, s2, s3, s4, s5, s6⟩ := hs
    have e := mul_bound s1 s2 s3 s4
    rw [e, W_eq (x := g.1 - 1) (by omega) (by omega), W_eq (x := g.2.1 - 1) (by omega) (by omega), decide_eq_true (show 2 ≤ g.1 ∧ g.1 ≤ 200 from ⟨s1, s2⟩), decide_eq_true (show 1 ≤ g.2.1 ∧ g.2.1 ≤ 200 from ⟨s3, s4⟩), decide_eq_false (show ¬ 8000 < g.1 * g.2.1 by omega), decide_eq_true s6]
    simp only [cond_false, Bool.not_true, joinO, if_true]
    by_cases hcur : gcur g
    · obtain ⟨c1, c2, c3, c4, c5⟩ := id hcur
      rw [decide_eq_true (show 0 ≤ g.2.2.2.1 ∧ g.2.2.2.1 ≤ g.1 - 1 by omega), decide_eq_true (show 0 ≤ g.2.2.2.2.1 ∧ g.2.2.2.2.1 ≤ g.2.1 - 1 by omega)]
      have hw : (bif g.2.2.2.2.2 then (!(decide (g.2.2.2.1 = g.1 - 1))) else false) = false := by
        cases hw : g.2.2.2.2.2 with
        | false => rfl
        | true => simp [← c5 hw]
      simp only [Bool.not_true, cond_false, if_true, hw]
      obtain ⟨l1, l2⟩ := gridOk_i_loop g ⟨s1, s2, s3, s4, s5, s6⟩ (fun _ => some true) FUEL 0 (by omega) (by omega) (by rw [fuel_eq]; omega)
      by_cases hc : gcells g
      · rw [l1 fun i h0 h1 => hc i h0 h1]
        exact ⟨fun _ => rfl, fun hn => absurd ⟨⟨s1, s2, s3, s4, s5, s6⟩, hcur, hc⟩ hn⟩
      · rw [l2 fun hall => hc fun i h0 h1 => hall i h0 h1]
        exact ⟨fun hg => absurd hg.cells hc, fun _ => rfl⟩
    · refine ⟨fun hg => absurd hg.cur hcur, fun _ => ?_⟩
      by_cases c1 : 0 ≤ g.2.2.2.1 ∧ g.2.2.2.1 ≤ g.1 - 1
      · by_cases c2 : 0 ≤ g.2.2.2.2.1 ∧ g.2.2.2.2.1 ≤ g.2.1 - 1
        · cases hw : g.2.2.2.2.2 with
          | false => exact absurd ⟨by omega, by omega, by omega, by omega, fun h => by rw [hw] at h; cases h⟩ hcur
          | true =>
            by_cases c3 : g.2.2.2.1 = g.1 - 1
            · exact absurd ⟨by omega, by omega, by omega, by omega, fun _ => c3⟩ hcur
            · rw [decide_eq_true c1, decide_eq_true c2, decide_eq_false c3]; rfl
        · rw [decide_eq_true c1, decide_eq_false c2]; rfl
      · rw [decide_eq_false c1]; rfl
  · refine ⟨fun hg => absurd hg.sz hs, fun _ => ?_⟩
    by_cases s1 : 2 ≤ g.1 ∧ g.1 ≤ 200
    · by_cases s3 : 1 ≤ g.2.1 ∧ g.2.1 ≤ 200
      · have e := mul_bound s1.1 s1.2 s3.1 s3.2
        rw [e]
        by_cases s5 : 8000 < g.1 * g.2.1
        · simp [s1, s3, s5]
        by_cases s6 : (g.2.2.1.length : Int) = g.1 * g.2.1
        · exact absurd ⟨s1.1, s1.2, s3.1, s3.2, by omega, s6⟩ hs
        · simp [s1, s3, s6]
      · simp [s1, s3]
    · simp [s1]

theorem clamp_eq (a n : Int) (hn : 0 ≤ n) : M_s_l08Clamp a n = some (max 0 (min a n)) := by
  simp only [M_s_l08Clamp, Bool.cond_decide]
  split
  · congr 1; omega
  · split <;> (congr 1; omega)

theorem gcopy_s (g : Gd) (h : g.2.2.1.length ≤ 100000000) : M_s_l08Copy g = some g := by
  unfold M_s_l08Copy guardO
  rw [if_pos (by simp; omega)]
  rfl
theorem copyInts_i (l : List Int) (h : l.length ≤ 100000000) : M_i_copyInts l = some l := by
  unfold M_i_copyInts guardO
  rw [if_pos (by simp; omega)]
  rfl
theorem gcopy_i (g : Gd) (h : g.2.2.1.length ≤ 100000000) : M_i_copyGrid g = some g := by
  unfold M_i_copyGrid
  rw [bindO_of (copyInts_i _ h)]

theorem len_ge {g : Gd} (hs : gsz g) : g.1 ≤ (g.2.2.1.length : Int) := by
  obtain ⟨s1, s2, s3, s4, s5, s6⟩ := hs
  have : g.1 * 1 ≤ g.1 * g.2.1 := Int.mul_le_mul_of_nonneg_left s3 (by omega)
  omega

def scrL (w : Int) (cs : List Int) : List Int := cs.drop w.toNat ++ List.replicate w.toNat 32
theorem scr_len (w : Int) (cs : List Int) (h0 : 0 ≤ w) (h : w ≤ (cs.length : Int)) : (scrL w cs).length = cs.length := by
  simp [scrL]; omega
theorem scr_at (w : Int) (cs : List Int) (h0 : 0 ≤ w) (h : w ≤ (cs.length : Int)) (i : Int) (i0 : 0 ≤ i) (i1 : i < (cs.length : Int)) : at' (scrL w cs) i = if i + w < (cs.length : Int) then at' cs (w + i) else 32 := by
  unfold scrL
  have hd : ((cs.drop w.toNat).length : Int) = (cs.length : Int) - w := by simp; omega
  by_cases hi : i + w < (cs.length : Int)
  · rw [if_pos hi, at_app_l _ _ i i0 (by omega), at_drop' _ w i h0 i0 (by omega)]
  · rw [if_neg hi, at_app_r _ _ i (by omega) (by simp; omega), at_rep _ _ _ (by omega) (by omega)]
/-- The grid, scrolled. -/
def gscr (g : Gd) : Gd := (g.1, g.2.1, scrL g.1 g.2.2.1, g.2.2.2.1, g.2.2.2.2.1, g.2.2.2.2.2)
theorem gscr_ok {g : Gd} (h : Gok g) : Gok (gscr g) := by
  obtain ⟨hs, hc, hcl⟩ := h
  have hw := len_ge hs
  obtain ⟨s1, s2, s3, s4, s5, s6⟩ := id hs
  have hl := scr_len g.1 g.2.2.1 (by omega) hw
  refine ⟨⟨s1, s2, s3, s4, s5, by simp only [gscr]; rw [hl]; exact s6⟩, hc, ?_⟩
  intro i i0 i1
  simp only [gscr] at i1 ⊢
  rw [hl] at i1
  have A : ∀ q, 0 ≤ q → q < (g.2.2.1.length : Int) → at' (scrL g.1 g.2.2.1) q = if q + g.1 < (g.2.2.1.length : Int) then at' g.2.2.1 (g.1 + q) else 32 := fun q q0 q1 => scr_at _ _ (by omega) hw q q0 q1
  have hmod : (g.1 + i) % g.1 = i % g.1 := by rw [Int.add_comm]; exact Int.add_emod_right i g.1
  have hk0 : i % g.1 ≠ 0 → 1 ≤ i := by
    intro hh
    rcases Int.lt_or_eq_of_le i0 with h1 | h1
    · omega
    · exfalso; apply hh; rw [← h1]; simp
  unfold cOk
  rw [A i i0 i1]
  by_cases hi : i + g.1 < (g.2.2.1.length : Int)
  · have hci := hcl (g.1 + i) (by omega) (by omega)
    unfold cOk at hci
    rw [hmod] at hci
    rw [if_pos hi]
    by_cases hh : at' g.2.2.1 (g.1 + i) = -1
    · rw [if_pos hh] at hci ⊢
      obtain ⟨z1, z2⟩ := hci
      have := hk0 z1
      refine ⟨z1, ?_⟩
      rw [A (i - 1) (by omega) (by omega), if_pos (by omega), show g.1 + (i - 1) = g.1 + i - 1 by omega]
      exact z2
    · rw [if_neg hh] at hci ⊢
      rcases hci with z | ⟨z1, z2, z3⟩
      · exact .inl z
      · have hn := next_lt (w := g.1) (h := g.2.1) (i := g.1 + i) (by omega) (by omega) (by omega) (by rw [hmod]; exact z2)
        refine .inr ⟨z1, z2, ?_⟩
        rw [A (i + 1) (by omega) (by omega), if_pos (by omega), show g.1 + (i + 1) = g.1 + i + 1 by omega]
        exact z3
  · rw [if_neg hi, if_neg (by decide)]
    exact .inl wd_blank

theorem scroll_i_loop (g : Gd) (hs : gsz g) (j : List Int → Option Gd) : ∀ (m : Nat) (l : List Int) (k : Int), 0 ≤ k → k ≤ g.1 → (l.length : Int) + (g.1 - k) ≤ 10000 → g.1 - k < m →
    fixF (M_i_Grid_scroll_L1 g j) m (l, k) = j (l ++ List.replicate (g.1 - k).toNat 32) := by
  obtain ⟨s1, s2, s3, s4, s5, s6⟩ := hs
  intro m
  induction m with
  | zero => intro l k _ _ _ h; omega
  | succ m ih =>
    intro l k h0 hk hl hm
    simp only [fixF, M_i_Grid_scroll_L1, guardO]
    by_cases h : k < g.1
    · rw [decide_eq_true h, cond_true, if_pos (by simp; omega), W_eq (by omega) (by omega)]
      rw [ih _ (k + 1) (by omega) (by omega) (by simp; omega) (by omega)]
      congr 1
      have : (g.1 - k).toNat = (g.1 - (k + 1)).toNat + 1 := by omega
      rw [this, List.replicate_succ]
      simp
    · have : (g.1 - k).toNat = 0 := by omega
      rw [decide_eq_false h, cond_false, this]
      simp

theorem scroll_i (g : Gd) (hs : gsz g) : M_i_Grid_scroll g = some (gscr g) := by
  have hw := len_ge hs
  obtain ⟨s1, s2, s3, s4, s5, s6⟩ := gsz_bounds hs
  unfold M_i_Grid_scroll guardO
  rw [if_pos (by omega), sub_all (by omega), bindO_of (copyInts_i _ (by simp; omega))]
  simp only [joinO]
  rw [scroll_i_loop g hs _ FUEL _ 0 (by omega) (by omega) (by simp; omega) (by rw [fuel_eq]; omega), show g.1 - 0 = g.1 by omega]
  rfl

theorem scroll_s_loop (g : Gd) (hs : gsz g) (y : Gd) (hy : y.2.2.1.length = g.2.2.1.length) (j : List Int → Option Gd) : ∀ (m : Nat) (k : Int) (l : List Int), 0 ≤ k → k ≤ (g.2.2.1.length : Int) → l.length = g.2.2.1.length →
    (∀ q, 0 ≤ q → q < k → at' l q = at' (scrL g.1 g.2.2.1) q) → (g.2.2.1.length : Int) - k < m → fixF (M_s_GridScroll_L1 g y j) m (k, l) = j (scrL g.1 g.2.2.1) := by
  have hw := len_ge hs
  obtain ⟨s1, s2, s3, s4, s5, s6⟩ := gsz_bounds hs
  intro m
  induction m with
  | zero => intro k l _ _ _ _ h; omega
  | succ m ih =>
    intro k l h0 hk hl hq hm
    simp only [fixF, M_s_GridScroll_L1, guardO, joinO, hy]
    by_cases h : k < (g.2.2.1.length : Int)
    · rw [decide_eq_true h, cond_true, if_pos (by omega), W_eq (x := k + g.1) (by omega) (by omega), W_eq (x := k + 1) (by omega) (by omega)]
      have hsk := scr_at g.1 g.2.2.1 (by omega) hw k h0 h
      by_cases hi : k + g.1 < (g.2.2.1.length : Int)
      · rw [decide_eq_true hi, cond_true, if_pos (by omega), if_pos (by omega)]
        rw [if_pos hi] at hsk
        refine ih (k + 1) _ (by omega) (by omega) (by simpa using hl) (fun q q0 q1 => ?_) (by omega)
        rw [at_set _ k q _ q0 (by simp; omega) h0]
        by_cases he : k = q
        · rw [if_pos he, ← he, hsk, Int.add_comm]
        · rw [if_neg he, at_set _ k q _ q0 (by omega) h0, if_neg he]
          exact hq q q0 (by omega)
      · rw [decide_eq_false hi, cond_false]
        rw [if_neg hi] at hsk
        refine ih (k + 1) _ (by omega) (by omega) (by simpa using hl) (fun q q0 q1 => ?_) (by omega)
        rw [at_set _ k q _ q0 (by omega) h0]
        by_cases he : k = q
        · rw [if_pos he, ← he, hsk]
        · rw [if_neg he]
          exact hq q q0 (by omega)
    · rw [decide_eq_false h, cond_false]
      congr 1
      refine ext_at (by rw [scr_len _ _ (by omega) hw]; exact hl) fun i i0 i1 => hq i i0 (by omega)

theorem scroll_s (g : Gd) (h : Gok g) : M_s_GridScroll g = some (gscr g) := by
  obtain ⟨s1, s2, s3, s4, s5, s6⟩ := gsz_bounds h.sz
  unfold M_s_GridScroll
  rw [bindO_of ((gridOk_s g).1 h), Bool.not_true, cond_false, bindO_of (gcopy_s g (by omega))]
  simp only [joinO]
  rw [scroll_s_loop g h.sz g rfl _ FUEL 0 _ (by omega) (by omega) rfl (fun q q0 q1 => by omega) (by rw [fuel_eq]; omega)]
  rfl

def ggo (g : Gd) (x y : Int) : Gd := (g.1, g.2.1, g.2.2.1, max 0 (min x (g.1 - 1)), max 0 (min y (g.2.1 - 1)), false)
theorem ggo_ok {g : Gd} (h : Gok g) (x y : Int) : Gok (ggo g x y) := by
  obtain ⟨hs, hc, hcl⟩ := h
  obtain ⟨s1, s2, s3, s4, s5, s6⟩ := id hs
  refine ⟨hs, ?_, hcl⟩
  unfold gcur ggo
  simp only
  exact ⟨by omega, by omega, by omega, by omega, fun h => by cases h⟩
theorem go_i (g : Gd) (hs : gsz g) (x y : Int) : M_i_Grid_moveTo g x y = some (ggo g x y) := by
  obtain ⟨s1, s2, s3, s4, s5, s6⟩ := gsz_bounds hs
  unfold M_i_Grid_moveTo ggo
  rw [W_eq (by omega) (by omega), W_eq (by omega) (by omega)]
theorem go_s (g : Gd) (h : Gok g) (x y : Int) : M_s_GridGo g x y = some (ggo g x y) := by
  obtain ⟨s1, s2, s3, s4, s5, s6⟩ := gsz_bounds h.sz
  unfold M_s_GridGo ggo
  rw [bindO_of ((gridOk_s g).1 h), Bool.not_true, cond_false, bindO_of (gcopy_s g (by omega)), W_eq (x := g.1 - 1) (by omega) (by omega), W_eq (x := g.2.1 - 1) (by omega) (by omega), clamp_eq _ _ (by omega), clamp_eq _ _ (by omega)]
  rfl

def oth (cs : List Int) (i : Int) : Int := if wd (at' cs i) = 2 then i + 1 else if at' cs i = -1 then i - 1 else i
def erC (cs : List Int) (a b i : Int) : Bool := decide (a ≤ i ∧ i < b) || decide (a ≤ oth cs i ∧ oth cs i < b)
def er (cs : List Int) (a b : Int) : List Int := tab cs.length fun i => if erC cs a b i = true then 32 else at' cs i
theorem er_len (cs : List Int) (a b : Int) : (er cs a b).length = cs.length := tab_len _ _
theorem er_at (cs : List Int) (a b i : Int) (i0 : 0 ≤ i) (i1 : i < (cs.length : Int)) : at' (er cs a b) i = if erC cs a b i = true then 32 else at' cs i := tab_at _ _ i i0 i1
def ger (g : Gd) (a b : Int) : Gd := (g.1, g.2.1, er g.2.2.1 a b, g.2.2.2.1, g.2.2.2.2.1, g.2.2.2.2.2)

theorem pos_of_mod {w i : Int} (i0 : 0 ≤ i) (h : i % w ≠ 0) : 1 ≤ i := by
  rcases Int.lt_or_eq_of_le i0 with h1 | h1
  · omega
  · exfalso; apply h; rw [← h1]; simp

/-- The halves of a wide rune. -/
theorem half_of {g : Gd} (hs : gsz g) (hc : gcells g) {i : Int} (i0 : 0 ≤ i) (i1 : i < (g.2.2.1.length : Int)) (h : at' g.2.2.1 i = -1) : 1 ≤ i ∧ wd (at' g.2.2.1 (i - 1)) = 2 := by
  have := hc i i0 i1
  unfold cOk at this
  rw [if_pos h] at this
  exact ⟨pos_of_mod i0 this.1, this.2⟩
theorem wide_of {g : Gd} (hs : gsz g) (hc : gcells g) {i : Int} (i0 : 0 ≤ i) (i1 : i < (g.2.2.1.length : Int)) (h : wd (at' g.2.2.1 i) = 2) : i + 1 < (g.2.2.1.length : Int) ∧ at' g.2.2.1 (i + 1) = -1 := by
  have hne : at' g.2.2.1 i ≠ -1 := fun he => by rw [he, wd_half] at h; cases h
  have := hc i i0 i1
  unfold cOk at this
  rw [if_neg hne] at this
  rcases this with z | ⟨_, z2, z3⟩
  · omega
  · obtain ⟨s1, s2, s3, s4, s5, s6⟩ := hs
    have := next_lt (w := g.1) (h := g.2.1) (i := i) (by omega) i0 (by omega) z2
    exact ⟨by omega, z3⟩

theorem erC_half {g : Gd} (hs : gsz g) (hc : gcells g) (a b : Int) {i : Int} (i0 : 0 ≤ i) (i1 : i < (g.2.2.1.length : Int)) (h : wd (at' g.2.2.1 i) = 2) : erC g.2.2.1 a b (i + 1) = erC g.2.2.1 a b i := by
  obtain ⟨h1, h2⟩ := wide_of hs hc i0 i1 h
  have o1 : oth g.2.2.1 i = i + 1 := by unfold oth; rw [if_pos h]
  have o2 : oth g.2.2.1 (i + 1) = i := by
    unfold oth
    rw [h2, wd_half, if_neg (by decide), if_pos rfl]; omega
  unfold erC
  rw [o1, o2, Bool.or_comm]

theorem ger_ok {g : Gd} (h : Gok g) (a b : Int) : Gok (ger g a b) := by
  obtain ⟨hs, hcu, hc⟩ := h
  obtain ⟨s1, s2, s3, s4, s5, s6⟩ := id hs
  refine ⟨⟨s1, s2, s3, s4, s5, by simp only [ger]; rw [er_len]; exact s6⟩, hcu, ?_⟩
  intro i i0 i1
  simp only [ger] at i1 ⊢
  rw [er_len] at i1
  unfold cOk
  rw [er_at _ _ _ _ i0 i1]
  by_cases he : erC g.2.2.1 a b i = true
  · rw [if_pos he, if_neg (by decide)]
    exact .inl wd_blank
  · rw [if_neg he]
    have hci := hc i i0 i1
    unfold cOk at hci
    by_cases hh : at' g.2.2.1 i = -1
    · rw [if_pos hh] at hci ⊢
      obtain ⟨h1, h2⟩ := half_of hs hc i0 i1 hh
      refine ⟨hci.1, ?_⟩
      have := erC_half hs hc a b (i := i - 1) (by omega) (by omega) h2
      rw [show i - 1 + 1 = i by omega] at this
      rw [er_at _ _ _ _ (by omega) (by omega), ← this, if_neg he]
      exact h2
    · rw [if_neg hh] at hci ⊢
      rcases hci with z | ⟨z1, z2, z3⟩
      · exact .inl z
      · obtain ⟨h1, h2⟩ := wide_of hs hc i0 i1 z1
        have := erC_half hs hc a b i0 i1 z1
        refine .inr ⟨z1, z2, ?_⟩
        rw [er_at _ _ _ _ (by omega) (by omega), this, if_neg he]
        exact z3

theorem oth_in {g : Gd} (hs : gsz g) (hc : gcells g) {i : Int} (i0 : 0 ≤ i) (i1 : i < (g.2.2.1.length : Int)) : 0 ≤ oth g.2.2.1 i ∧ oth g.2.2.1 i < (g.2.2.1.length : Int) := by
  unfold oth
  split
  · rename_i h
    have := wide_of hs hc i0 i1 h
    omega
  · split
    · rename_i h
      have := half_of hs hc i0 i1 h
      omega
    · omega

theorem er_none {g : Gd} (hs : gsz g) (hc : gcells g) (a b : Int) (h : min b (g.2.2.1.length : Int) ≤ max a 0) : er g.2.2.1 a b = g.2.2.1 := by
  refine (eq_tab rfl fun i i0 i1 => ?_).symm
  have ho := oth_in hs hc i0 i1
  rw [if_neg]
  unfold erC
  rw [decide_eq_false (by omega), decide_eq_false (by omega)]
  simp

theorem erase_loop (g : Gd) (b : Int) (j : List Int → Option Gd) : ∀ (m : Nat) (k : Int) (l : List Int), 0 ≤ k → k ≤ min b (g.2.2.1.length : Int) → l.length = g.2.2.1.length → (g.2.2.1.length : Int) ≤ 100000000 → (g.2.2.1.length : Int) - k < m →
    fixF (M_i_Grid_erase_L1 g b j) m (k, l) = j (tab g.2.2.1.length fun q => if k ≤ q ∧ q < min b (g.2.2.1.length : Int) then 32 else at' l q) := by
  intro m
  induction m with
  | zero => intro k l _ _ _ _ h; omega
  | succ m ih =>
    intro k l h0 hk hl hb hm
    simp only [fixF, M_i_Grid_erase_L1, guardO]
    by_cases h : k < min b (g.2.2.1.length : Int)
    · rw [decide_eq_true h, cond_true, if_pos (by omega), W_eq (by omega) (by omega)]
      rw [ih (k + 1) _ (by omega) (by omega) (by simpa using hl) hb (by omega)]
      congr 1
      refine eq_tab (tab_len _ _) fun i i0 i1 => ?_
      rw [tab_at _ _ i i0 i1, at_set _ k i _ i0 (by omega) h0]
      by_cases e1 : k + 1 ≤ i ∧ i < min b (g.2.2.1.length : Int)
      · rw [if_pos e1, if_pos (by omega)]
      · rw [if_neg e1]
        by_cases e2 : k = i
        · rw [if_pos e2, if_pos (by omega)]
        · rw [if_neg e2, if_neg (by omega)]
    · rw [decide_eq_false h, cond_false]
      congr 1
      refine eq_tab hl fun i i0 i1 => ?_
      rw [if_neg (by omega)]

theorem erase_i (g : Gd) (hs : gsz g) (hc : gcells g) (a b : Int) : M_i_Grid_erase g a b = some (ger g a b) := by
  obtain ⟨s1, s2, s3, s4, s5, s6⟩ := gsz_bounds hs
  unfold M_i_Grid_erase
  by_cases hle : min b (g.2.2.1.length : Int) ≤ max a 0
  · rw [decide_eq_true hle, cond_true]
    unfold ger
    rw [er_none hs hc a b hle]
  rw [decide_eq_false hle, cond_false]
  simp only [joinO, guardO]
  have fin : ∀ l : List Int, l.length = g.2.2.1.length → (∀ q, 0 ≤ q → q < (g.2.2.1.length : Int) → at' l q = if (q = max a 0 - 1 ∧ at' g.2.2.1 (max a 0) = -1) ∨ (q = min b (g.2.2.1.length : Int) ∧ at' g.2.2.1 (min b (g.2.2.1.length : Int)) = -1) then 32 else at' g.2.2.1 q) →
      fixF (M_i_Grid_erase_L1 g b fun x64 => some (g.1, g.2.1, x64, g.2.2.2.1, g.2.2.2.2.1, g.2.2.2.2.2)) FUEL (max a 0, l) = some (ger g a b) := by
    intro l hl hq
    rw [erase_loop g b _ FUEL _ l (by omega) (by omega) hl (by omega) (by rw [fuel_eq]; omega)]
    have key : (tab g.2.2.1.length fun q => if max a 0 ≤ q ∧ q < min b (g.2.2.1.length : Int) then 32 else at' l q) = er g.2.2.1 a b := ?_
    · rw [key]; rfl
    unfold er
    refine eq_tab (tab_len _ _) fun i i0 i1 => ?_
    rw [tab_at _ _ i i0 i1, hq i i0 i1]
    by_cases e1 : max a 0 ≤ i ∧ i < min b (g.2.2.1.length : Int)
    · rw [if_pos e1, if_pos]
      unfold erC
      rw [decide_eq_true (show a ≤ i ∧ i < b by omega)]; rfl
    · rw [if_neg e1]
      by_cases e2 : (i = max a 0 - 1 ∧ at' g.2.2.1 (max a 0) = -1) ∨ (i = min b (g.2.2.1.length : Int) ∧ at' g.2.2.1 (min b (g.2.2.1.length : Int)) = -1)
      · rw [if_pos e2, if_pos]
        unfold erC oth
        rcases e2 with ⟨z1, z2⟩ | ⟨z1, z2⟩
        · obtain ⟨h1, h2⟩ := half_of hs hc (i := max a 0) (by omega) (by omega) z2
          rw [← z1] at h2
          rw [if_pos h2, decide_eq_true (show a ≤ i + 1 ∧ i + 1 < b by omega)]
          simp
        · rw [← z1] at z2
          rw [z2, wd_half, if_neg (by decide), if_pos rfl, decide_eq_true (show a ≤ i - 1 ∧ i - 1 < b by omega)]
          simp
      · rw [if_neg e2, if_neg]
        unfold erC oth
        rw [decide_eq_false (show ¬ (a ≤ i ∧ i < b) by omega), Bool.false_or, decide_eq_true_iff]
        by_cases e3 : wd (at' g.2.2.1 i) = 2
        · rw [if_pos e3]
          intro hx
          obtain ⟨h1, h2⟩ := wide_of hs hc i0 i1 e3
          have hq : i + 1 = max a 0 := by omega
          rw [hq] at h2
          exact e2 (.inl ⟨by omega, h2⟩)
        · rw [if_neg e3]
          by_cases e4 : at' g.2.2.1 i = -1
          · rw [if_pos e4]
            intro hx
            have hq : i = min b (g.2.2.1.length : Int) := by omega
            refine e2 (.inr ⟨hq, ?_⟩)
            rw [← hq]; exact e4
          · rw [if_neg e4]; omega
  rw [if_pos (by omega)]
  by_cases h1 : at' g.2.2.1 (max a 0) = -1
  · obtain ⟨z1, z2⟩ := half_of hs hc (i := max a 0) (by omega) (by omega) h1
    rw [decide_eq_true h1, cond_true, W_eq (by omega) (by omega), if_pos (by omega)]
    have hla : ∀ q, 0 ≤ q → q < (g.2.2.1.length : Int) → at' (List.set g.2.2.1 (Int.toNat (max a 0 - 1)) 32) q = if max a 0 - 1 = q then 32 else at' g.2.2.1 q := fun q q0 q1 => at_set _ _ q _ q0 q1 (by omega)
    rw [if_pos (by intro hh; have := of_decide_eq_true hh; omega), List.length_set]
    by_cases h2 : min b (g.2.2.1.length : Int) < (g.2.2.1.length : Int)
    · rw [decide_eq_true h2, cond_true, hla _ (by omega) (by omega), if_neg (by omega)]
      by_cases h3 : at' g.2.2.1 (min b (g.2.2.1.length : Int)) = -1
      · rw [decide_eq_true h3, cond_true, if_pos (by omega)]
        refine fin _ (by simp) fun q q0 q1 => ?_
        rw [at_set _ _ q _ q0 (by simp; omega) (by omega), hla q q0 q1]
        by_cases e1 : min b (g.2.2.1.length : Int) = q
        · rw [if_pos e1, if_pos (.inr ⟨e1.symm, h3⟩)]
        · rw [if_neg e1]
          by_cases e2 : max a 0 - 1 = q
          · rw [if_pos e2, if_pos (.inl ⟨e2.symm, h1⟩)]
          · rw [if_neg e2, if_neg (by omega)]
      · rw [decide_eq_false h3, cond_false]
        refine fin _ (by simp) fun q q0 q1 => ?_
        rw [hla q q0 q1]
        by_cases e2 : max a 0 - 1 = q
        · rw [if_pos e2, if_pos (.inl ⟨e2.symm, h1⟩)]
        · rw [if_neg e2, if_neg]
          rintro (h | h)
          · omega
          · exact h3 h.2
    · rw [decide_eq_false h2, cond_false, cond_false]
      refine fin _ (by simp) fun q q0 q1 => ?_
      rw [hla q q0 q1]
      by_cases e2 : max a 0 - 1 = q
      · rw [if_pos e2, if_pos (.inl ⟨e2.symm, h1⟩)]
      · rw [if_neg e2, if_neg (by omega)]
  · rw [decide_eq_false h1, cond_false]
    rw [if_pos (by intro hh; have := of_decide_eq_true hh; omega)]
    by_cases h2 : min b (g.2.2.1.length : Int) < (g.2.2.1.length : Int)
    · rw [decide_eq_true h2, cond_true]
      by_cases h3 : at' g.2.2.1 (min b (g.2.2.1.length : Int)) = -1
      · rw [decide_eq_true h3, cond_true, if_pos (by omega)]
        refine fin _ (by simp) fun q q0 q1 => ?_
        rw [at_set _ _ q _ q0 (by omega) (by omega)]
        by_cases e1 : min b (g.2.2.1.length : Int) = q
        · rw [if_pos e1, if_pos (.inr ⟨e1.symm, h3⟩)]
        · rw [if_neg e1, if_neg]
          rintro (h | h)
          · exact h1 h.2
          · omega
      · rw [decide_eq_false h3, cond_false]
        refine fin _ rfl fun q q0 q1 => ?_
        rw [if_neg]
        rintro (h | h)
        · exact h1 h.2
        · exact h3 h.2
    · rw [decide_eq_false h2, cond_false, cond_false]
      refine fin _ rfl fun q q0 q1 => ?_
      rw [if_neg]
      rintro (h | h)
      · exact h1 h.2
      · omega

theorem clear_s_loop (g : Gd) (hs : gsz g) (a b : Int) (j : List Int → Option Gd) : ∀ (m : Nat) (k : Int) (l : List Int), 0 ≤ k → k ≤ (g.2.2.1.length : Int) → l.length = g.2.2.1.length →
    (∀ q, 0 ≤ q → q < (g.2.2.1.length : Int) → at' l q = if q < k ∧ erC g.2.2.1 a b q = true then 32 else at' g.2.2.1 q) → (g.2.2.1.length : Int) - k < m →
    fixF (M_s_GridClear_L1 g a b j) m (k, l) = j (er g.2.2.1 a b) := by
  obtain ⟨s1, s2, s3, s4, s5, s6⟩ := gsz_bounds hs
  intro m
  induction m with
  | zero => intro k l _ _ _ _ h; omega
  | succ m ih =>
    intro k l h0 hk hl hq hm
    simp only [fixF, M_s_GridClear_L1, guardO, joinO]
    by_cases h : k < (g.2.2.1.length : Int)
    · rw [decide_eq_true h, cond_true, if_pos ⟨h0, h⟩, width_s, W_eq (x := k + 1) (by omega) (by omega), W_eq (x := k - 1) (by omega) (by omega), if_pos (by omega)]
      simp only [bindO_ret]
      have key : (bif (bif (bif decide (a ≤ k) then decide (k < b) else false) then true else bif decide (a ≤ oth g.2.2.1 k) then decide (oth g.2.2.1 k < b) else false) then fixF (M_s_GridClear_L1 g a b j) m (k + 1, List.set l k.toNat 32) else fixF (M_s_GridClear_L1 g a b j) m (k + 1, l)) = j (er g.2.2.1 a b) := by
        have hE : (bif (bif decide (a ≤ k) then decide (k < b) else false) then true else bif decide (a ≤ oth g.2.2.1 k) then decide (oth g.2.2.1 k < b) else false) = erC g.2.2.1 a b k := by
          unfold erC
          generalize oth g.2.2.1 k = o
          by_cases x1 : a ≤ k <;> by_cases x2 : k < b <;> by_cases x3 : a ≤ o <;> by_cases x4 : o < b <;> simp [x1, x2, x3, x4]
        rw [hE]
        cases he : erC g.2.2.1 a b k with
        | true =>
          rw [cond_true]
          refine ih (k + 1) _ (by omega) (by omega) (by simpa using hl) (fun q q0 q1 => ?_) (by omega)
          rw [at_set _ k q _ q0 (by omega) h0]
          by_cases e1 : k = q
          · rw [if_pos e1, if_pos ⟨by omega, by rw [← e1]; exact he⟩]
          · rw [if_neg e1, hq q q0 q1]
            by_cases e2 : q < k ∧ erC g.2.2.1 a b q = true
            · rw [if_pos e2, if_pos ⟨by omega, e2.2⟩]
            · rw [if_neg e2, if_neg (fun h => e2 ⟨by omega, h.2⟩)]
        | false =>
          rw [cond_false]
          refine ih (k + 1) _ (by omega) (by omega) hl (fun q q0 q1 => ?_) (by omega)
          rw [hq q q0 q1]
          by_cases e2 : q < k ∧ erC g.2.2.1 a b q = true
          · rw [if_pos e2, if_pos ⟨by omega, e2.2⟩]
          · rw [if_neg e2, if_neg]
            rintro ⟨z1, z2⟩
            by_cases e3 : q = k
            · rw [e3, he] at z2; cases z2
            · exact e2 ⟨by omega, z2⟩
      unfold oth at key
      by_cases w1 : at' g.2.2.1 k = -1
      · have w2 : ¬ wd (at' g.2.2.1 k) = 2 := by rw [w1, wd_half]; decide
        rw [if_neg w2, if_pos w1] at key
        rw [decide_eq_true w1, cond_true, decide_eq_false w2, cond_false]
        exact key
      · rw [decide_eq_false w1, cond_false]
        by_cases w2 : wd (at' g.2.2.1 k) = 2
        · rw [if_pos w2] at key
          rw [decide_eq_true w2, cond_true]
          exact key
        · rw [if_neg w2, if_neg w1] at key
          rw [decide_eq_false w2, cond_false]
          exact key
    · rw [decide_eq_false h, cond_false]
      congr 1
      unfold er
      refine eq_tab hl fun i i0 i1 => ?_
      rw [hq i i0 i1]
      by_cases e2 : erC g.2.2.1 a b i = true
      · rw [if_pos e2, if_pos ⟨by omega, e2⟩]
      · rw [if_neg e2, if_neg (fun h => e2 h.2)]

theorem clear_s (g : Gd) (h : Gok g) (a b : Int) : M_s_GridClear g a b = some (ger g a b) := by
  obtain ⟨s1, s2, s3, s4, s5, s6⟩ := gsz_bounds h.sz
  unfold M_s_GridClear
  rw [bindO_of ((gridOk_s g).1 h), Bool.not_true, cond_false, bindO_of (gcopy_s g (by omega))]
  simp only [joinO]
  rw [clear_s_loop g h.sz a b _ FUEL 0 _ (by omega) (by omega) rfl (fun q q0 q1 => by rw [if_neg (by omega)]) (by rw [fuel_eq]; omega)]
  rfl

def gnext (g : Gd) (n : Int) : Gd :=
  if g.2.2.2.2.2 = true ∨ (n = 2 ∧ g.2.2.2.1 = g.1 - 1) then (if g.2.2.2.2.1 = g.2.1 - 1 then ggo (gscr g) 0 (g.2.2.2.2.1 + 1) else ggo g 0 (g.2.2.2.2.1 + 1)) else g
def gat (g : Gd) : Int := g.2.2.2.2.1 * g.1 + g.2.2.2.1
def gcel (g : Gd) (n r : Int) : List Int :=
  let c := List.set (er g.2.2.1 (gat g) (gat g + n)) (gat g).toNat r
  if n = 2 then List.set c (gat g + 1).toNat (-1) else c
def gwr (g : Gd) (n r : Int) : Gd :=
  if g.1 ≤ g.2.2.2.1 + n then (g.1, g.2.1, gcel g n r, g.1 - 1, g.2.2.2.2.1, true) else (g.1, g.2.1, gcel g n r, g.2.2.2.1 + n, g.2.2.2.2.1, g.2.2.2.2.2)
/-- The grid, a rune written. -/
def gput (g : Gd) (r : Int) : Gd := if wd r = 0 then g else gwr (gnext g (wd r)) (wd r) r

theorem gnext_w (g : Gd) (n : Int) : (gnext g n).1 = g.1 := by
  unfold gnext
  split
  · split <;> rfl
  · rfl
theorem gnext_ok {g : Gd} (h : Gok g) (n : Int) : Gok (gnext g n) := by
  unfold gnext
  split
  · split
    · exact ggo_ok (gscr_ok h) _ _
    · exact ggo_ok h _ _
  · exact h
theorem gnext_fit {g : Gd} (h : Gok g) (n : Int) (hn : n = 1 ∨ n = 2) : (gnext g n).2.2.2.1 + n ≤ (gnext g n).1 := by
  obtain ⟨c1, c2, c3, c4, c5⟩ := h.cur
  obtain ⟨s1, s2, s3, s4, s5, s6⟩ := h.sz
  unfold gnext
  split
  · split <;> simp only [ggo, gscr] <;> omega
  · rename_i hx
    have : ¬ (n = 2 ∧ g.2.2.2.1 = g.1 - 1) := fun h => hx (.inr h)
    omega

theorem gat_bounds {g : Gd} (h : Gok g) {n : Int} (hn : n = 1 ∨ n = 2) (hf : g.2.2.2.1 + n ≤ g.1) : 0 ≤ g.2.2.2.2.1 * g.1 ∧ 0 ≤ gat g ∧ gat g + n ≤ (g.2.2.1.length : Int) ∧ (g.2.2.1.length : Int) ≤ 8000 ∧ gat g % g.1 = g.2.2.2.1 := by
  obtain ⟨c1, c2, c3, c4, c5⟩ := h.cur
  obtain ⟨s1, s2, s3, s4, s5, s6⟩ := h.sz
  have h1 : 0 ≤ g.2.2.2.2.1 * g.1 := Int.mul_nonneg c3 (by omega)
  have h2 : (g.2.2.2.2.1 + 1) * g.1 ≤ g.2.1 * g.1 := Int.mul_le_mul_of_nonneg_right (by omega) (by omega)
  rw [Int.add_mul, Int.one_mul, Int.mul_comm g.2.1 g.1] at h2
  refine ⟨h1, ?_, ?_, by omega, ?_⟩
  · unfold gat; omega
  · unfold gat; omega
  · unfold gat
    rw [Int.add_comm, Int.add_mul_emod_self_right, Int.emod_eq_of_lt c1 c2]

theorem gcel_len (g : Gd) (n r : Int) : (gcel g n r).length = g.2.2.1.length := by
  unfold gcel
  simp only
  split <;> simp [er_len]

theorem er_mid (cs : List Int) (a b i : Int) (h : a ≤ i ∧ i < b) (i0 : 0 ≤ i) (i1 : i < (cs.length : Int)) : at' (er cs a b) i = 32 := by
  rw [er_at _ _ _ _ i0 i1, if_pos]
  unfold erC
  rw [decide_eq_true h]; rfl

theorem gwr_ok {g : Gd} (h : Gok g) {r : Int} (hn : wd r = 1 ∨ wd r = 2) (hf : g.2.2.2.1 + wd r ≤ g.1) : Gok (gwr g (wd r) r) := by
  obtain ⟨b0, b1, b2, b3, b4⟩ := gat_bounds h hn hf
  have hok := ger_ok h (gat g) (gat g + wd r)
  obtain ⟨c1, c2, c3, c4, c5⟩ := h.cur
  obtain ⟨s1, s2, s3, s4, s5, s6⟩ := id h.sz
  have hr : r ≠ -1 := fun he => by rw [he, wd_half] at hn; omega
  have hcl : ∀ i : Int, 0 ≤ i → i < (g.2.2.1.length : Int) → cOk g.1 (gcel g (wd r) r) i := by
    intro i i0 i1
    have hE := hok.cells
    have hci := hE i i0 (by simp only [ger]; rw [er_len]; exact i1)
    simp only [ger] at hci
    have m0 := er_mid g.2.2.1 (gat g) (gat g + wd r) (gat g) (by omega) b1 (by omega)
    -- the cells
    have A : ∀ q, 0 ≤ q → q < (g.2.2.1.length : Int) → at' (gcel g (wd r) r) q = if q = gat g then r else if wd r = 2 ∧ q = gat g + 1 then -1 else at' (er g.2.2.1 (gat g) (gat g + wd r)) q := by
      intro q q0 q1
      unfold gcel
      simp only
      by_cases w : wd r = 2
      · rw [if_pos w, at_set _ _ q _ q0 (by simp [er_len]; omega) (by omega), at_set _ _ q _ q0 (by rw [er_len]; omega) b1]
        by_cases e1 : gat g + 1 = q
        · rw [if_pos e1, if_neg (by omega), if_pos ⟨w, e1.symm⟩]
        · rw [if_neg e1]
          by_cases e2 : gat g = q
          · rw [if_pos e2, if_pos e2.symm]
          · rw [if_neg e2, if_neg (by omega), if_neg (by omega)]
      · rw [if_neg w, at_set _ _ q _ q0 (by rw [er_len]; omega) b1]
        by_cases e2 : gat g = q
        · rw [if_pos e2, if_pos e2.symm]
        · rw [if_neg e2, if_neg (by omega), if_neg (by omega)]
    by_cases e1 : i = gat g
    · unfold cOk
      rw [A i i0 i1, if_pos e1, if_neg hr]
      rcases hn with w | w
      · exact .inl w
      · refine .inr ⟨w, by rw [e1, b4]; omega, ?_⟩
        rw [A (i + 1) (by omega) (by omega), if_neg (by omega), if_pos ⟨w, by omega⟩]
    · by_cases e2 : wd r = 2 ∧ i = gat g + 1
      · unfold cOk
        rw [A i i0 i1, if_neg e1, if_pos e2, if_pos rfl]
        obtain ⟨w, e2⟩ := e2
        refine ⟨?_, ?_⟩
        · rw [e2, Int.add_emod, b4, Int.emod_eq_of_lt (a := 1) (by omega) (by omega), Int.emod_eq_of_lt (by omega) (by omega)]
          omega
        · rw [A (i - 1) (by omega) (by omega), if_pos (by omega)]; exact w
      · unfold cOk at hci ⊢
        rw [A i i0 i1, if_neg e1, if_neg e2]
        by_cases hh : at' (er g.2.2.1 (gat g) (gat g + wd r)) i = -1
        · rw [if_pos hh] at hci ⊢
          obtain ⟨z1, z2⟩ := hci
          have := pos_of_mod i0 z1
          have n1 : i - 1 ≠ gat g := fun he => by rw [he, m0, wd_blank] at z2; cases z2
          have n2 : ¬ (wd r = 2 ∧ i - 1 = gat g + 1) := fun he => by
            have m1 := er_mid g.2.2.1 (gat g) (gat g + wd r) (i - 1) (by omega) (by omega) (by omega)
            rw [m1, wd_blank] at z2; cases z2
          refine ⟨z1, ?_⟩
          rw [A (i - 1) (by omega) (by omega), if_neg n1, if_neg n2]
          exact z2
        · rw [if_neg hh] at hci ⊢
          rcases hci with z | ⟨z1, z2, z3⟩
          · exact .inl z
          · have hnx := next_lt (w := g.1) (h := g.2.1) (i := i) (by omega) i0 (by omega) z2
            have n1 : i + 1 ≠ gat g := fun he => by rw [he, m0] at z3; cases z3
            have n2 : ¬ (wd r = 2 ∧ i + 1 = gat g + 1) := fun he => e1 (by omega)
            refine .inr ⟨z1, z2, ?_⟩
            rw [A (i + 1) (by omega) (by omega), if_neg n1, if_neg n2]
            exact z3
  unfold gwr
  split
  · refine ⟨⟨s1, s2, s3, s4, s5, by simp only; rw [gcel_len]; exact s6⟩, ?_, ?_⟩
    · unfold gcur; simp only; exact ⟨by omega, by omega, c3, c4, fun _ => trivial⟩
    · intro i i0 i1
      simp only at i1 ⊢
      rw [gcel_len] at i1
      exact hcl i i0 i1
  · refine ⟨⟨s1, s2, s3, s4, s5, by simp only; rw [gcel_len]; exact s6⟩, ?_, ?_⟩
    · unfold gcur; simp only; exact ⟨by omega, by omega, c3, c4, fun hw => by have := c5 hw; omega⟩
    · intro i i0 i1
      simp only at i1 ⊢
      rw [gcel_len] at i1
      exact hcl i i0 i1

theorem gput_ok {g : Gd} (h : Gok g) (r : Int) : Gok (gput g r) := by
  unfold gput
  by_cases h0 : wd r = 0
  · rw [if_pos h0]; exact h
  · rw [if_neg h0]
    have hn : wd r = 1 ∨ wd r = 2 := by have := wd_cases r; omega
    exact gwr_ok (gnext_ok h _) hn (gnext_fit h _ hn)

theorem put_s (g : Gd) (h : Gok g) (r : Int) : M_s_GridPut g r = some (gput g r) := by
  obtain ⟨s1, s2, s3, s4, s5, s6⟩ := gsz_bounds h.sz
  obtain ⟨c1, c2, c3, c4, c5⟩ := h.cur
  unfold M_s_GridPut gput
  rw [bindO_of ((gridOk_s g).1 h), Bool.not_true, cond_false, width_s, bindO_of rfl, bindO_of (gcopy_s g (by omega))]
  by_cases h0 : wd r = 0
  · rw [decide_eq_true h0, cond_true, if_pos h0]
  rw [decide_eq_false h0, cond_false, if_neg h0]
  have hn : wd r = 1 ∨ wd r = 2 := by have := wd_cases r; omega
  have fin : ∀ g1 : Gd, Gok g1 → g1.1 = g.1 → g1.2.2.2.1 + wd r ≤ g1.1 →
    (bindO (M_s_GridClear (g1.1, g1.2.1, g1.2.2.1, g1.2.2.2.1, g1.2.2.2.2.1, g1.2.2.2.2.2) (W ((W (g1.2.2.2.2.1 * g.1)) + g1.2.2.2.1)) (W ((W ((W (g1.2.2.2.2.1 * g.1)) + g1.2.2.2.1)) + wd r))) fun (y52 : Gd) =>
    (guardO (0 ≤ (W ((W (g1.2.2.2.2.1 * g.1)) + g1.2.2.2.1)) ∧ (W ((W (g1.2.2.2.2.1 * g.1)) + g1.2.2.2.1)) < (y52.2.2.1.length : Int)) <|
    (joinO (fun (x60 : List Int) =>
    (joinO (fun ((x66, x67) : Int × Bool) =>
    some (y52.1, y52.2.1, x60, x66, y52.2.2.2.2.1, x67)) fun j68 =>
    (bif (decide (g.1 ≤ (W (y52.2.2.2.1 + wd r)))) then
    j68 ((W (g.1 - 1)), true)
    else
    j68 ((W (y52.2.2.2.1 + wd r)), y52.2.2.2.2.2)))) fun j63 =>
    (bif (decide (wd r = 2)) then
    (guardO (0 ≤ (W ((W ((W (g1.2.2.2.2.1 * g.1)) + g1.2.2.2.1)) + 1)) ∧ (W ((W ((W (g1.2.2.2.2.1 * g.1)) + g1.2.2.2.1)) + 1)) < (y52.2.2.1.length : Int)) <|
    j63 (List.set (List.set y52.2.2.1 (Int.toNat (W ((W (g1.2.2.2.2.1 * g.1)) + g1.2.2.2.1))) r) (Int.toNat (W ((W ((W (g1.2.2.2.2.1 * g.1)) + g1.2.2.2.1)) + 1))) (-1)))
    else
    j63 (List.set y52.2.2.1 (Int.toNat (W ((W (g1.2.2.2.2.1 * g.1)) + g1.2.2.2.1))) r))))) = some (gwr g1 (wd r) r) := by
    intro g1 ok1 hw hf
    obtain ⟨b0, b1, b2, b3, b4⟩ := gat_bounds ok1 hn hf
    obtain ⟨d1, d2, d3, d4, d5⟩ := ok1.cur
    rw [← hw]
    have e0 : g1.2.2.2.2.1 * g1.1 = gat g1 - g1.2.2.2.1 := by unfold gat; omega
    have e1 : W (g1.2.2.2.2.1 * g1.1) = gat g1 - g1.2.2.2.1 := by rw [W_eq (by omega) (by omega)]; exact e0
    rw [e1, show gat g1 - g1.2.2.2.1 + g1.2.2.2.1 = gat g1 by omega, W_eq (x := gat g1) (by omega) (by omega), W_eq (x := gat g1 + wd r) (by omega) (by omega), W_eq (x := gat g1 + 1) (by omega) (by omega)]
    have ec : M_s_GridClear (g1.1, g1.2.1, g1.2.2.1, g1.2.2.2.1, g1.2.2.2.2.1, g1.2.2.2.2.2) (gat g1) (gat g1 + wd r) = some (ger g1 (gat g1) (gat g1 + wd r)) := clear_s g1 ok1 _ _
    rw [bindO_of ec]
    simp only [guardO, joinO]
    have hl : ((ger g1 (gat g1) (gat g1 + wd r)).2.2.1.length : Int) = (g1.2.2.1.length : Int) := by simp only [ger]; rw [er_len]
    rw [hl, if_pos (by omega)]
    have hx : (ger g1 (gat g1) (gat g1 + wd r)).2.2.2.1 = g1.2.2.2.1 := rfl
    rw [hx, W_eq (x := g1.2.2.2.1 + wd r) (by omega) (by omega), W_eq (x := g1.1 - 1) (by omega) (by omega)]
    unfold gwr gcel
    rcases hn with w | w
    · have w2 : ¬ wd r = 2 := by omega
      rw [decide_eq_false w2, cond_false, if_neg w2]
      by_cases hle : g1.1 ≤ g1.2.2.2.1 + wd r
      · rw [decide_eq_true hle, cond_true, if_pos hle]; rfl
      · rw [decide_eq_false hle, cond_false, if_neg hle]; rfl
    · rw [decide_eq_true w, cond_true, if_pos w, if_pos (by omega)]
      by_cases hle : g1.1 ≤ g1.2.2.2.1 + wd r
      · rw [decide_eq_true hle, cond_true, if_pos hle]; rfl
      · rw [decide_eq_false hle, cond_false, if_neg hle]; rfl
  have fin2 := fin (gnext g (wd r)) (gnext_ok h _) (gnext_w g _) (gnext_fit h _ hn)
  simp only [joinO] at fin2 ⊢
  rw [W_eq (x := g.1 - 1) (by omega) (by omega), W_eq (x := g.2.1 - 1) (by omega) (by omega), W_eq (x := g.2.2.2.2.1 + 1) (by omega) (by omega)]
  rw [W_eq (x := g.1 - 1) (by omega) (by omega)] at fin2
  have hcond : (bif g.2.2.2.2.2 then true else bif decide (wd r = 2) then decide (g.2.2.2.1 = g.1 - 1) else false) = decide (g.2.2.2.2.2 = true ∨ (wd r = 2 ∧ g.2.2.2.1 = g.1 - 1)) := by
    cases g.2.2.2.2.2 <;> by_cases x1 : wd r = 2 <;> by_cases x2 : g.2.2.2.1 = g.1 - 1 <;> simp [x1, x2]
  rw [hcond]
  unfold gnext at fin2 ⊢
  by_cases hc : g.2.2.2.2.2 = true ∨ (wd r = 2 ∧ g.2.2.2.1 = g.1 - 1)
  · rw [decide_eq_true hc, cond_true]
    rw [if_pos hc] at fin2 ⊢
    by_cases hy : g.2.2.2.2.1 = g.2.1 - 1
    · rw [decide_eq_true hy, cond_true, bindO_of (scroll_s g h)]
      rw [if_pos hy] at fin2 ⊢
      have eg : M_s_GridGo ((gscr g).1, (gscr g).2.1, (gscr g).2.2.1, (gscr g).2.2.2.1, (gscr g).2.2.2.2.1, (gscr g).2.2.2.2.2) 0 (g.2.2.2.2.1 + 1) = some (ggo (gscr g) 0 (g.2.2.2.2.1 + 1)) := go_s _ (gscr_ok h) _ _
      rw [bindO_of eg]
      exact fin2
    · rw [decide_eq_false hy, cond_false]
      rw [if_neg hy] at fin2 ⊢
      have eg : M_s_GridGo (g.1, g.2.1, g.2.2.1, g.2.2.2.1, g.2.2.2.2.1, g.2.2.2.2.2) 0 (g.2.2.2.2.1 + 1) = some (ggo g 0 (g.2.2.2.2.1 + 1)) := go_s _ h _ _
      rw [bindO_of eg]
      exact fin2
  · rw [decide_eq_false hc, cond_false]
    rw [if_neg hc] at fin2 ⊢
    exact fin2

theorem put_i (g : Gd) (h : Gok g) (r : Int) : M_i_Grid_put g r = some (gput g r) := by
  obtain ⟨s1, s2, s3, s4, s5, s6⟩ := gsz_bounds h.sz
  obtain ⟨c1, c2, c3, c4, c5⟩ := h.cur
  unfold M_i_Grid_put gput
  rw [width_i, bindO_of rfl]
  by_cases h0 : wd r = 0
  · rw [decide_eq_true h0, cond_true, if_pos h0]
  rw [decide_eq_false h0, cond_false, if_neg h0]
  have hn : wd r = 1 ∨ wd r = 2 := by have := wd_cases r; omega
  have fin : ∀ g1 : Gd, Gok g1 → g1.2.2.2.1 + wd r ≤ g1.1 →
    (bindO (M_i_Grid_erase (g1.1, g1.2.1, g1.2.2.1, g1.2.2.2.1, g1.2.2.2.2.1, g1.2.2.2.2.2) (W ((W (g1.2.2.2.2.1 * g1.1)) + g1.2.2.2.1)) (W ((W ((W (g1.2.2.2.2.1 * g1.1)) + g1.2.2.2.1)) + wd r))) fun (y89 : Gd) =>
    (guardO (0 ≤ (W ((W (g1.2.2.2.2.1 * g1.1)) + g1.2.2.2.1)) ∧ (W ((W (g1.2.2.2.2.1 * g1.1)) + g1.2.2.2.1)) < (y89.2.2.1.length : Int)) <|
    (joinO (fun (x97 : List Int) =>
    (bif (decide (y89.1 ≤ (W (y89.2.2.2.1 + wd r)))) then
    some (y89.1, y89.2.1, x97, (W (y89.1 - 1)), y89.2.2.2.2.1, true)
    else
    some (y89.1, y89.2.1, x97, (W (y89.2.2.2.1 + wd r)), y89.2.2.2.2.1, y89.2.2.2.2.2))) fun j100 =>
    (bif (decide (wd r = 2)) then
    (guardO (0 ≤ (W ((W ((W (g1.2.2.2.2.1 * g1.1)) + g1.2.2.2.1)) + 1)) ∧ (W ((W ((W (g1.2.2.2.2.1 * g1.1)) + g1.2.2.2.1)) + 1)) < (y89.2.2.1.length : Int)) <|
    j100 (List.set (List.set y89.2.2.1 (Int.toNat (W ((W (g1.2.2.2.2.1 * g1.1)) + g1.2.2.2.1))) r) (Int.toNat (W ((W ((W (g1.2.2.2.2.1 * g1.1)) + g1.2.2.2.1)) + 1))) (-1)))
    else
    j100 (List.set y89.2.2.1 (Int.toNat (W ((W (g1.2.2.2.2.1 * g1.1)) + g1.2.2.2.1))) r))))) = some (gwr g1 (wd r) r) := by
    intro g1 ok1 hf
    obtain ⟨b0, b1, b2, b3, b4⟩ := gat_bounds ok1 hn hf
    obtain ⟨d1, d2, d3, d4, d5⟩ := ok1.cur
    obtain ⟨t1, t2, t3, t4, t5, t6⟩ := gsz_bounds ok1.sz
    have e0 : g1.2.2.2.2.1 * g1.1 = gat g1 - g1.2.2.2.1 := by unfold gat; omega
    have e1 : W (g1.2.2.2.2.1 * g1.1) = gat g1 - g1.2.2.2.1 := by rw [W_eq (by omega) (by omega)]; exact e0
    rw [e1, show gat g1 - g1.2.2.2.1 + g1.2.2.2.1 = gat g1 by omega, W_eq (x := gat g1) (by omega) (by omega), W_eq (x := gat g1 + wd r) (by omega) (by omega), W_eq (x := gat g1 + 1) (by omega) (by omega)]
    have ec : M_i_Grid_erase (g1.1, g1.2.1, g1.2.2.1, g1.2.2.2.1, g1.2.2.2.2.1, g1.2.2.2.2.2) (gat g1) (gat g1 + wd r) = some (ger g1 (gat g1) (gat g1 + wd r)) := erase_i g1 ok1.sz ok1.cells _ _
    rw [bindO_of ec]
    simp only [guardO, joinO]
    have hl : ((ger g1 (gat g1) (gat g1 + wd r)).2.2.1.length : Int) = (g1.2.2.1.length : Int) := by simp only [ger]; rw [er_len]
    rw [hl, if_pos (by omega)]
    have hx : (ger g1 (gat g1) (gat g1 + wd r)).2.2.2.1 = g1.2.2.2.1 := rfl
    have hx1 : (ger g1 (gat g1) (gat g1 + wd r)).1 = g1.1 := rfl
    rw [hx, hx1, W_eq (x := g1.2.2.2.1 + wd r) (by omega) (by omega), W_eq (x := g1.1 - 1) (by omega) (by omega)]
    unfold gwr gcel
    rcases hn with w | w
    · have w2 : ¬ wd r = 2 := by omega
      rw [decide_eq_false w2, cond_false, if_neg w2]
      by_cases hle : g1.1 ≤ g1.2.2.2.1 + wd r
      · rw [decide_eq_true hle, cond_true, if_pos hle]; rfl
      · rw [decide_eq_false hle, cond_false, if_neg hle]; rfl
    · rw [decide_eq_true w, cond_true, if_pos w, if_pos (by omega)]
      by_cases hle : g1.1 ≤ g1.2.2.2.1 + wd r
      · rw [decide_eq_true hle, cond_true, if_pos hle]; rfl
      · rw [decide_eq_false hle, cond_false, if_neg hle]; rfl
  have fin2 := fin (gnext g (wd r)) (gnext_ok h _) (gnext_fit h _ hn)
  simp only [joinO] at fin2 ⊢
  rw [W_eq (x := g.1 - 1) (by omega) (by omega), W_eq (x := g.2.1 - 1) (by omega) (by omega), W_eq (x := g.2.2.2.2.1 + 1) (by omega) (by omega)]
  have hcond : (bif g.2.2.2.2.2 then true else bif decide (wd r = 2) then decide (g.2.2.2.1 = g.1 - 1) else false) = decide (g.2.2.2.2.2 = true ∨ (wd r = 2 ∧ g.2.2.2.1 = g.1 - 1)) := by
    cases g.2.2.2.2.2 <;> by_cases x1 : wd r = 2 <;> by_cases x2 : g.2.2.2.1 = g.1 - 1 <;> simp [x1, x2]
  rw [hcond]
  have hx0 : max 0 (min 0 (g.1 - 1)) = 0 := by omega
  unfold gnext at fin2 ⊢
  by_cases hc : g.2.2.2.2.2 = true ∨ (wd r = 2 ∧ g.2.2.2.1 = g.1 - 1)
  · rw [decide_eq_true hc, cond_true]
    rw [if_pos hc] at fin2 ⊢
    by_cases hy : g.2.2.2.2.1 = g.2.1 - 1
    · rw [decide_eq_true hy, cond_true, bindO_of (scroll_i (g.1, g.2.1, g.2.2.1, 0, g.2.2.2.2.1, false) h.sz)]
      rw [if_pos hy] at fin2 ⊢
      have hy0 : max 0 (min (g.2.2.2.2.1 + 1) (g.2.1 - 1)) = g.2.2.2.2.1 := by omega
      have eg : ggo (gscr g) 0 (g.2.2.2.2.1 + 1) = gscr (g.1, g.2.1, g.2.2.1, 0, g.2.2.2.2.1, false) := by
        simp only [ggo, gscr, hx0, hy0]
      rw [eg] at fin2 ⊢
      exact fin2
    · rw [decide_eq_false hy, cond_false]
      rw [if_neg hy] at fin2 ⊢
      have hy0 : max 0 (min (g.2.2.2.2.1 + 1) (g.2.1 - 1)) = g.2.2.2.2.1 + 1 := by omega
      have eg : ggo g 0 (g.2.2.2.2.1 + 1) = (g.1, g.2.1, g.2.2.1, 0, g.2.2.2.2.1 + 1, false) := by
        simp only [ggo, hx0, hy0]
      rw [eg] at fin2 ⊢
      exact fin2
  · rw [decide_eq_false hc, cond_false]
    rw [if_neg hc] at fin2 ⊢
    exact fin2

def g0 : Gd := (0, 0, [], 0, 0, false)
abbrev Vtt := Gd × Int × List Int × List UInt8 × Int

theorem bindO_bif {α β : Type} (c : Bool) (x y : Option α) (F : α → Option β) : bindO (bif c then x else y) F = bif c then bindO x F else bindO y F := by cases c <;> rfl
theorem bindO_guard {α β : Type} (c : Prop) [Decidable c] (x : Option α) (F : α → Option β) : bindO (guardO c x) F = guardO c (bindO x F) := by
  unfold guardO; split <;> rfl
theorem bindO_assoc {α β γ : Type} (x : Option α) (f : α → Option β) (F : β → Option γ) : bindO (bindO x f) F = bindO x (fun y => bindO (f y) F) := by
  cases x <;> rfl

theorem eraseV_loop (v : Vtt) (b : Int) : ∀ (m : Nat) (x : Int × List Int),
    fixF (M_i_Grid_erase_in31_L1 v b fun x80 => some ((v.1.1, v.1.2.1, x80, v.1.2.2.2.1, v.1.2.2.2.2.1, v.1.2.2.2.2.2), v.2.1, v.2.2.1, v.2.2.2.1, v.2.2.2.2)) m x =
    bindO (fixF (M_i_Grid_erase_L1 v.1 b fun x64 => some (v.1.1, v.1.2.1, x64, v.1.2.2.2.1, v.1.2.2.2.2.1, v.1.2.2.2.2.2)) m x) fun g => some (g, v.2)
  | 0, _ => rfl
  | m + 1, (k, l) => by
    simp only [fixF, M_i_Grid_erase_in31_L1, M_i_Grid_erase_L1, bindO_bif, bindO_guard, bindO_ret, eraseV_loop v b m]

theorem eraseV (v : Vtt) (a b : Int) : M_i_Grid_erase_in31 v a b = bindO (M_i_Grid_erase v.1 a b) fun g => some (g, v.2) := by
  unfold M_i_Grid_erase_in31 M_i_Grid_erase
  simp only [joinO, bindO_bif, bindO_guard, bindO_ret, eraseV_loop]

theorem scrollV_loop (v : Vtt) : ∀ (m : Nat) (x : List Int × Int),
    fixF (M_i_Grid_scroll_in31_L1 v fun x59 => some ((v.1.1, v.1.2.1, x59, v.1.2.2.2.1, v.1.2.2.2.2.1, v.1.2.2.2.2.2), v.2.1, v.2.2.1, v.2.2.2.1, v.2.2.2.2)) m x =
    bindO (fixF (M_i_Grid_scroll_L1 v.1 fun x64 => some (v.1.1, v.1.2.1, x64, v.1.2.2.2.1, v.1.2.2.2.2.1, v.1.2.2.2.2.2)) m x) fun g => some (g, v.2)
  | 0, _ => rfl
  | m + 1, (l, k) => by
    simp only [fixF, M_i_Grid_scroll_in31_L1, M_i_Grid_scroll_L1, bindO_bif, bindO_guard, bindO_ret, scrollV_loop v m]

theorem scrollV (v : Vtt) : M_i_Grid_scroll_in31 v = bindO (M_i_Grid_scroll v.1) fun g => some (g, v.2) := by
  unfold M_i_Grid_scroll_in31 M_i_Grid_scroll
  simp only [joinO, bindO_assoc, bindO_guard, bindO_ret, scrollV_loop]

theorem goV (v : Vtt) (x y : Int) : M_i_Grid_moveTo_in31 v x y = bindO (M_i_Grid_moveTo v.1 x y) fun g => some (g, v.2) := rfl

theorem putV (v : Vtt) (r : Int) : M_i_Grid_put_in31 v r = bindO (M_i_Grid_put v.1 r) fun g => some (g, v.2) := by
  unfold M_i_Grid_put_in31 M_i_Grid_put
  simp only [joinO, bindO_assoc, bindO_guard, bindO_ret, bindO_bif, eraseV, scrollV]

theorem eraseV' (v : Vtt) (h : Gok v.1) (a b : Int) : M_i_Grid_erase_in31 v a b = some (ger v.1 a b, v.2) := by rw [eraseV, erase_i _ h.sz h.cells]; rfl
theorem scrollV' (v : Vtt) (h : Gok v.1) : M_i_Grid_scroll_in31 v = some (gscr v.1, v.2) := by rw [scrollV, scroll_i _ h.sz]; rfl
theorem goV' (v : Vtt) (h : Gok v.1) (x y : Int) : M_i_Grid_moveTo_in31 v x y = some (ggo v.1 x y, v.2) := by rw [goV, go_i _ h.sz]; rfl
theorem putV' (v : Vtt) (h : Gok v.1) (r : Int) : M_i_Grid_put_in31 v r = some (gput v.1 r, v.2) := by rw [putV, put_i _ h]; rfl
abbrev Vrest := Int × List Int × List UInt8 × Int
theorem scrollP (g : Gd) (t : Vrest) (h : Gok g) : M_i_Grid_scroll_in31 (g, t) = some (gscr g, t) := scrollV' (g, t) h
theorem goP (g : Gd) (t : Vrest) (h : Gok g) (x y : Int) : M_i_Grid_moveTo_in31 (g, t) x y = some (ggo g x y, t) := goV' (g, t) h x y
theorem putP (g : Gd) (t : Vrest) (h : Gok g) (r : Int) : M_i_Grid_put_in31 (g, t) r = some (gput g r, t) := putV' (g, t) h r

def encL (r : Int) : List Int :=
  if ¬ (0 ≤ r ∧ r ≤ 1114111 ∧ (r < 55296 ∨ 57343 < r)) then [] else
  if r < 128 then [r] else if r < 2048 then [192 + r / 64, 128 + r % 64]
  else if r < 65536 then [224 + r / 4096, 128 + r / 64 % 64, 128 + r % 64]
  else [240 + r / 262144, 128 + r / 4096 % 64, 128 + r / 64 % 64, 128 + r % 64]

def enc (r : Int) : List UInt8 := (encL r).map u8

theorem td {a b : Int} (h : 0 ≤ a) : Int.tdiv a b = a / b := Int.tdiv_eq_ediv_of_nonneg h
theorem tm {a b : Int} (h : 0 ≤ a) : Int.tmod a b = a % b := Int.tmod_eq_emod_of_nonneg h

theorem u8_nat {x : Int} (h : 0 ≤ x) (h2 : x < 256) : ((u8 x).toNat : Int) = x := by
  simp [u8]; omega

theorem u8_self (x : UInt8) : u8 (x.toNat : Int) = x := by
  have : x.toNat < 256 := x.toNat_lt
  apply UInt8.toNat_inj.1
  have := u8_nat (x := (x.toNat : Int)) (by omega) (by omega)
  omega

theorem map_u8 : ∀ (l : List Int) (bs : List UInt8), (∀ x ∈ l, 0 ≤ x ∧ x < 256) → (l.map u8 = bs ↔ l = bs.map (fun b => (b.toNat : Int)))
  | [], [], _ => by simp
  | [], b :: bs, _ => by simp
  | x :: l, [], _ => by simp
  | x :: l, b :: bs, h => by
    have hx := h x (by simp)
    have ih := map_u8 l bs (fun y hy => h y (by simp [hy]))
    simp only [List.map_cons, List.cons.injEq, ih]
    constructor
    · rintro ⟨h1, h2⟩
      refine ⟨?_, h2⟩
      rw [← h1, u8_nat hx.1 hx.2]
    · rintro ⟨h1, h2⟩
      refine ⟨?_, h2⟩
      rw [h1, u8_self]

theorem encL_bytes (r : Int) : ∀ x ∈ encL r, 0 ≤ x ∧ x < 256 := by
  intro x
  unfold encL
  split
  · simp
  · split
    · simp; omega
    · split
      · simp; omega
      · split
        · simp; omega
        · simp; omega

theorem enc_iff (r : Int) (bs : List UInt8) : enc r = bs ↔ encL r = bs.map (fun b => (b.toNat : Int)) := map_u8 _ _ (encL_bytes r)

def r2 (x y : Int) : Int := (x - 192) * 64 + y - 128
def r3 (x y z : Int) : Int := ((x - 224) * 64 + y - 128) * 64 + z - 128
def r4 (x y z v : Int) : Int := (((x - 240) * 64 + y - 128) * 64 + z - 128) * 64 + v - 128

def E2 (x y : Int) : Prop := 194 ≤ x ∧ x ≤ 223 ∧ 128 ≤ y ∧ y ≤ 191
instance (x y : Int) : Decidable (E2 x y) := by unfold E2; infer_instance
def E3 (x y z : Int) : Prop := (224 ≤ x ∧ x ≤ 239 ∧ 128 ≤ y ∧ y ≤ 191 ∧ 128 ≤ z ∧ z ≤ 191) ∧ 2048 ≤ r3 x y z ∧ (r3 x y z < 55296 ∨ 57343 < r3 x y z)
instance (x y z : Int) : Decidable (E3 x y z) := by unfold E3; infer_instance
def E4 (x y z v : Int) : Prop := (240 ≤ x ∧ x ≤ 247 ∧ 128 ≤ y ∧ y ≤ 191 ∧ 128 ≤ z ∧ z ≤ 191 ∧ 128 ≤ v ∧ v ≤ 191) ∧ 65536 ≤ r4 x y z v ∧ r4 x y z v ≤ 1114111
instance (x y z v : Int) : Decidable (E4 x y z v) := by unfold E4; infer_instance

theorem encL2 {x y : Int} (h : 0 ≤ x ∧ x < 256 ∧ 0 ≤ y ∧ y < 256) : encL (r2 x y) = [x, y] ↔ E2 x y := by
  unfold E2
  generalize hr : r2 x y = r
  unfold r2 at hr
  unfold encL
  split
  · simp; omega
  · split
    · simp; omega
    · split
      · simp only [List.cons.injEq, and_true]; omega
      · split <;> (simp; try omega)

theorem encL3 {x y z : Int} (h : 0 ≤ x ∧ x < 256 ∧ 0 ≤ y ∧ y < 256 ∧ 0 ≤ z ∧ z < 256) : encL (r3 x y z) = [x, y, z] ↔ E3 x y z := by
  unfold E3
  generalize hr : r3 x y z = r
  unfold r3 at hr
  unfold encL
  split
  · simp; omega
  · split
    · simp; omega
    · split
      · simp; omega
      · split
        · simp only [List.cons.injEq, and_true]; omega
        · simp; omega

theorem encL4 {x y z v : Int} (h : 0 ≤ x ∧ x < 256 ∧ 0 ≤ y ∧ y < 256 ∧ 0 ≤ z ∧ z < 256 ∧ 0 ≤ v ∧ v < 256) : encL (r4 x y z v) = [x, y, z, v] ↔ E4 x y z v := by
  unfold E4
  generalize hr : r4 x y z v = r
  unfold r4 at hr
  unfold encL
  split
  · simp; omega
  · split
    · simp; omega
    · split
      · simp; omega
      · split
        · simp; omega
        · simp only [List.cons.injEq, and_true]; omega

def bi (s : List UInt8) (i : Int) : Int := ((at' s i).toNat : Int)

def rd (s : List UInt8) : Int × Int :=
  if s.length < 1 then (0, 0) else
  if bi s 0 < 128 then (bi s 0, 1) else
  if s.length < 2 then (0, 0) else
  if E2 (bi s 0) (bi s 1) then (r2 (bi s 0) (bi s 1), 2) else
  if s.length < 3 then (0, 0) else
  if E3 (bi s 0) (bi s 1) (bi s 2) then (r3 (bi s 0) (bi s 1) (bi s 2), 3) else
  if s.length < 4 then (0, 0) else
  if E4 (bi s 0) (bi s 1) (bi s 2) (bi s 3) then (r4 (bi s 0) (bi s 1) (bi s 2) (bi s 3), 4) else (0, 0)

theorem at_drop {α : Type} [Inhabited α] {b : List α} {a : Int} (h0 : 0 ≤ a) (i : Int) (hi : 0 ≤ i) : at' b (a + i) = at' (b.drop a.toNat) i := by
  unfold at'
  have : (a + i).toNat = a.toNat + i.toNat := by omega
  rw [this]
  simp [List.getD_eq_getElem?_getD, List.getElem?_drop]

theorem at_drop0 {α : Type} [Inhabited α] {b : List α} {a : Int} (h0 : 0 ≤ a) : at' b a = at' (b.drop a.toNat) 0 := by
  have := at_drop (b := b) h0 0 (by omega)
  simpa using this

theorem sub_drop {α : Type} {b : List α} {a n : Int} (h0 : 0 ≤ a) (hn : 0 ≤ n) : sub' b a (a + n) = (b.drop a.toNat).take n.toNat := by
  unfold sub'
  congr 1
  omega

theorem byteB (x : UInt8) : 0 ≤ (x.toNat : Int) ∧ (x.toNat : Int) < 256 := by
  have : x.toNat < 256 := x.toNat_lt
  omega

section
variable {b : List UInt8} {a : Int} (h0 : 0 ≤ a) (hl : (b.length : Int) ≤ 100000000)
include h0 hl

def vl (b : List UInt8) (a n : Int) : Int :=
  if n = 1 then (at' b a).toNat
  else if n = 2 then r2 (at' b a).toNat (at' b (a + 1)).toNat
  else if n = 3 then r3 (at' b a).toNat (at' b (a + 1)).toNat (at' b (a + 2)).toNat
  else r4 (at' b a).toNat (at' b (a + 1)).toNat (at' b (a + 2)).toNat (at' b (a + 3)).toNat

end

def rbS : List UInt8 → Bool
  | [x] => decide (E2 x.toNat 128 ∨ E2 x.toNat 191 ∨ E3 x.toNat 128 128 ∨ E3 x.toNat 191 191 ∨ E4 x.toNat 128 128 128 ∨ E4 x.toNat 191 191 191)
  | [x, y] => decide (E3 x.toNat y.toNat 128 ∨ E3 x.toNat y.toNat 191 ∨ E4 x.toNat y.toNat 128 128 ∨ E4 x.toNat y.toNat 191 191)
  | [x, y, z] => decide (E4 x.toNat y.toNat z.toNat 128 ∨ E4 x.toNat y.toNat z.toNat 191)
  | _ => false

theorem rbLoopI (p : List UInt8) (n : Int) (hn : n ≤ 4) (hp : p.length ≤ 3) (j : Int × Int → Option Bool) (m : Nat) (l h k : Int) (hk : 0 ≤ k) (hl : -1000000000 ≤ l ∧ l ≤ 100000000) (hh : -1000000000 ≤ h ∧ h ≤ 100000000) :
    fixF (M_i_RuneBegin_L1 p n j) (m + 1) (l, h, k) = if k < n then (if k < (p.length : Int) then (if 128 ≤ ((at' p k).toNat : Int) ∧ ((at' p k).toNat : Int) ≤ 191 then fixF (M_i_RuneBegin_L1 p n j) m (l * 64 + (at' p k).toNat - 128, h * 64 + (at' p k).toNat - 128, k + 1) else some false) else fixF (M_i_RuneBegin_L1 p n j) m (l * 64, h * 64 + 63, k + 1)) else j (l, h) := by
  simp only [fixF, M_i_RuneBegin_L1, Bool.cond_decide, joinO, guardO, in_eq, bindO]
  by_cases c1 : k < n
  · rw [if_pos c1, if_pos c1]
    have b0 := byteB (at' p k)
    rw [W_eq (x := k + 1) (by omega) (by omega), W_eq (x := l * 64) (by omega) (by omega), W_eq (x := h * 64) (by omega) (by omega), W_eq (x := l * 64 + _) (by omega) (by omega), W_eq (x := h * 64 + ((at' p k).toNat : Int)) (by omega) (by omega), W_eq (x := h * 64 + 63) (by omega) (by omega), W_eq (x := l * 64 + _ - 128) (by omega) (by omega), W_eq (x := h * 64 + ((at' p k).toNat : Int) - 128) (by omega) (by omega)]
    by_cases c2 : k < (p.length : Int)
    · rw [if_pos c2, if_pos c2]
      have g : (0 ≤ k ∧ k < (p.length : Int)) := ⟨hk, c2⟩
      rw [if_pos g, if_pos g, if_pos g]
      by_cases c3 : 128 ≤ ((at' p k).toNat : Int) ∧ ((at' p k).toNat : Int) ≤ 191
      · rw [if_pos c3, decide_eq_true c3]; rfl
      · rw [if_neg c3, decide_eq_false c3]; rfl
    · rw [if_neg c2, if_neg c2]
  · rw [if_neg c1, if_neg c1]

def fin1 (n l h : Int) : Bool := decide (max l n ≤ min h 1114111 ∧ ¬ (55296 ≤ max l n ∧ min h 1114111 ≤ 57343))

def rbI (p : List UInt8) : Bool :=
  decide (1 ≤ p.length ∧ p.length ≤ 3) &&
  (if 192 ≤ bi p 0 ∧ bi p 0 ≤ 223 then decide (p.length < 2) && fin1 128 ((bi p 0 - 192) * 64) ((bi p 0 - 192) * 64 + 63)
  else if 224 ≤ bi p 0 ∧ bi p 0 ≤ 239 then
    (if p.length < 2 then fin1 2048 ((bi p 0 - 224) * 64 * 64) (((bi p 0 - 224) * 64 + 63) * 64 + 63)
    else decide (p.length < 3) && decide (128 ≤ bi p 1 ∧ bi p 1 ≤ 191) && fin1 2048 (((bi p 0 - 224) * 64 + bi p 1 - 128) * 64) (((bi p 0 - 224) * 64 + bi p 1 - 128) * 64 + 63))
  else if 240 ≤ bi p 0 ∧ bi p 0 ≤ 247 then
    (if p.length < 2 then fin1 65536 ((bi p 0 - 240) * 64 * 64 * 64) ((((bi p 0 - 240) * 64 + 63) * 64 + 63) * 64 + 63)
    else decide (128 ≤ bi p 1 ∧ bi p 1 ≤ 191) && (if p.length < 3 then fin1 65536 (((bi p 0 - 240) * 64 + bi p 1 - 128) * 64 * 64) ((((bi p 0 - 240) * 64 + bi p 1 - 128) * 64 + 63) * 64 + 63)
    else decide (128 ≤ bi p 2 ∧ bi p 2 ≤ 191) && fin1 65536 ((((bi p 0 - 240) * 64 + bi p 1 - 128) * 64 + bi p 2 - 128) * 64) ((((bi p 0 - 240) * 64 + bi p 1 - 128) * 64 + bi p 2 - 128) * 64 + 63)))
  else false)

theorem rbS_I (p : List UInt8) : rbI p = rbS p := by
  rcases p with _ | ⟨x, _ | ⟨y, _ | ⟨z, _ | ⟨v, t⟩⟩⟩⟩
  · rfl
  · have hx := byteB x
    have b0 : bi [x] 0 = (x.toNat : Int) := rfl
    simp only [rbI, rbS, b0, List.length_cons, List.length_nil]
    generalize (x.toNat : Int) = X at *
    rw [Bool.eq_iff_iff]
    simp only [E2, E3, E4, r3, r4, fin1]
    split
    · simp; omega
    · split
      · simp; omega
      · split
        · simp; omega
        · simp; omega
  · have hx := byteB x
    have hy := byteB y
    have b0 : bi [x, y] 0 = (x.toNat : Int) := rfl
    have b1 : bi [x, y] 1 = (y.toNat : Int) := rfl
    simp only [rbI, rbS, b0, b1, List.length_cons, List.length_nil]
    generalize (x.toNat : Int) = X at *
    generalize (y.toNat : Int) = Y at *
    rw [Bool.eq_iff_iff]
    simp only [E2, E3, E4, r3, r4, fin1]
    split
    · simp; omega
    · split
      · simp; omega
      · split
        · simp; omega
        · simp; omega
  · have hx := byteB x
    have hy := byteB y
    have hz := byteB z
    have b0 : bi [x, y, z] 0 = (x.toNat : Int) := rfl
    have b1 : bi [x, y, z] 1 = (y.toNat : Int) := rfl
    have b2 : bi [x, y, z] 2 = (z.toNat : Int) := rfl
    simp only [rbI, rbS, b0, b1, b2, List.length_cons, List.length_nil]
    generalize (x.toNat : Int) = X at *
    generalize (y.toNat : Int) = Y at *
    generalize (z.toNat : Int) = Z at *
    rw [Bool.eq_iff_iff]
    simp only [E2, E3, E4, r3, r4, fin1]
    split
    · simp; try omega
    · split
      · simp; try omega
      · split
        · simp; omega
        · simp; omega
  · simp [rbI, rbS]

theorem rbI_eq (p : List UInt8) (hp : p.length ≤ 100000000) : M_i_RuneBegin p = some (rbI p) := by
  unfold M_i_RuneBegin
  simp only [in_eq, bindO, joinO, guardO, Bool.cond_decide]
  by_cases hl : 1 ≤ p.length ∧ p.length ≤ 3
  · have hl' : 1 ≤ (p.length : Int) ∧ (p.length : Int) ≤ 3 := by omega
    rw [decide_eq_true hl']
    simp only [Bool.not_true, cond_false]
    rw [if_pos (show 0 ≤ (0 : Int) ∧ 0 < (p.length : Int) by omega)]
    have b0 := byteB (at' p 0)
    have b1 := byteB (at' p 1)
    have b2 := byteB (at' p 2)
    rw [W_eq (x := ((at' p 0).toNat : Int) - 192) (by omega) (by omega), W_eq (x := ((at' p 0).toNat : Int) - 224) (by omega) (by omega), W_eq (x := ((at' p 0).toNat : Int) - 240) (by omega) (by omega)]
    have l2 : ∀ n : Int, (if n ≤ (p.length : Int) then some false else none : Option Bool) = if n ≤ (p.length : Int) then some false else none := fun _ => rfl
    obtain ⟨m, hm⟩ : ∃ m, FUEL = m + 1 + 1 + 1 + 1 := ⟨FUEL - 4, by rw [fuel_eq]⟩
    have t2 : at' ([0, 0, 128, 2048, 65536] : List Int) 2 = 128 := rfl
    have t3 : at' ([0, 0, 128, 2048, 65536] : List Int) 3 = 2048 := rfl
    have t4 : at' ([0, 0, 128, 2048, 65536] : List Int) 4 = 65536 := rfl
    have g2 : (0 ≤ (2 : Int) ∧ (2 : Int) < (([0, 0, 128, 2048, 65536] : List Int).length : Int)) = True := by simp
    have g3 : (0 ≤ (3 : Int) ∧ (3 : Int) < (([0, 0, 128, 2048, 65536] : List Int).length : Int)) = True := by simp
    have g4 : (0 ≤ (4 : Int) ∧ (4 : Int) < (([0, 0, 128, 2048, 65536] : List Int).length : Int)) = True := by simp
    have fin : ∀ n l h : Int, (bif decide (max l n ≤ min h 1114111) then (!(bif decide (55296 ≤ max l n) then decide (min h 1114111 ≤ 57343) else false)) else false) = fin1 n l h := by
      intro n l h
      unfold fin1
      by_cases c1 : max l n ≤ min h 1114111 <;> by_cases c2 : 55296 ≤ max l n <;> by_cases c3 : min h 1114111 ≤ 57343 <;> simp [c1, c2, c3]
    have fin' : ∀ n l h : Int, (if max l n ≤ min h 1114111 then (!(if 55296 ≤ max l n then decide (min h 1114111 ≤ 57343) else false)) else false) = fin1 n l h := by
      intro n l h
      unfold fin1
      by_cases c1 : max l n ≤ min h 1114111 <;> by_cases c2 : 55296 ≤ max l n <;> by_cases c3 : min h 1114111 ≤ 57343 <;> simp [c1, c2, c3]
    unfold rbI bi
    rw [decide_eq_true hl]
    have hp3 : p.length ≤ 3 := hl.2
    by_cases c1 : 192 ≤ ((at' p 0).toNat : Int) ∧ ((at' p 0).toNat : Int) ≤ 223
    · rw [if_pos c1, if_pos c1]
      simp only [g2, if_true, t2, fin']
      by_cases d1 : p.length < 2
      · have d0 : p.length = 1 := by omega
        rw [if_neg (by omega), hm, rbLoopI p 2 (by omega) hp3 _ _ _ _ _ (by omega) (by omega) (by omega), if_pos (by omega), if_neg (by omega), rbLoopI p 2 (by omega) hp3 _ _ _ _ _ (by omega) (by omega) (by omega), if_neg (by omega)]
        simp [d1]
      · rw [if_pos (by omega)]; simp [d1]
    · rw [if_neg c1, if_neg c1]
      by_cases c2 : 224 ≤ ((at' p 0).toNat : Int) ∧ ((at' p 0).toNat : Int) ≤ 239
      · rw [if_pos c2, if_pos c2]
        simp only [g3, if_true, t3, fin']
        by_cases d1 : p.length < 2
        · rw [if_neg (by omega), hm, rbLoopI p 3 (by omega) hp3 _ _ _ _ _ (by omega) (by omega) (by omega), if_pos (by omega), if_neg (by omega), rbLoopI p 3 (by omega) hp3 _ _ _ _ _ (by omega) (by omega) (by omega), if_pos (by omega), if_neg (by omega), rbLoopI p 3 (by omega) hp3 _ _ _ _ _ (by omega) (by omega) (by omega), if_neg (by omega)]
          simp [d1]
        · by_cases d2 : p.length < 3
          · rw [if_neg (by omega), hm, rbLoopI p 3 (by omega) hp3 _ _ _ _ _ (by omega) (by omega) (by omega), if_pos (by omega), if_pos (by omega)]
            by_cases e1 : 128 ≤ ((at' p 1).toNat : Int) ∧ ((at' p 1).toNat : Int) ≤ 191
            · have e2 : (1 : Int) + 1 = 2 := rfl
              rw [if_pos e1, e2, rbLoopI p 3 (by omega) hp3 _ _ _ _ _ (by omega) (by omega) (by omega), if_pos (by omega), if_neg (by omega), rbLoopI p 3 (by omega) hp3 _ _ _ _ _ (by omega) (by omega) (by omega), if_neg (by omega)]
              simp [d1, d2, e1]
            · rw [if_neg e1]; simp [d1, e1]
          · rw [if_pos (by omega)]; simp [d1, d2]
      · rw [if_neg c2, if_neg c2]
        by_cases c3 : 240 ≤ ((at' p 0).toNat : Int) ∧ ((at' p 0).toNat : Int) ≤ 247
        · rw [if_pos c3, if_pos c3]
          simp only [g4, if_true, t4, fin']
          have e2 : (1 : Int) + 1 = 2 := rfl
          have e3 : (2 : Int) + 1 = 3 := rfl
          rw [if_neg (by omega), hm, rbLoopI p 4 (by omega) hp3 _ _ _ _ _ (by omega) (by omega) (by omega), if_pos (by omega), e2]
          by_cases d1 : p.length < 2
          · rw [if_neg (by omega), rbLoopI p 4 (by omega) hp3 _ _ _ _ _ (by omega) (by omega) (by omega), if_pos (by omega), if_neg (by omega), rbLoopI p 4 (by omega) hp3 _ _ _ _ _ (by omega) (by omega) (by omega), if_pos (by omega), if_neg (by omega), rbLoopI p 4 (by omega) hp3 _ _ _ _ _ (by omega) (by omega) (by omega), if_neg (by omega)]
            simp [d1]
          · rw [if_pos (by omega)]
            by_cases e1 : 128 ≤ ((at' p 1).toNat : Int) ∧ ((at' p 1).toNat : Int) ≤ 191
            · rw [if_pos e1, rbLoopI p 4 (by omega) hp3 _ _ _ _ _ (by omega) (by omega) (by omega), if_pos (by omega), e3]
              by_cases d2 : p.length < 3
              · rw [if_neg (by omega), rbLoopI p 4 (by omega) hp3 _ _ _ _ _ (by omega) (by omega) (by omega), if_pos (by omega), if_neg (by omega), rbLoopI p 4 (by omega) hp3 _ _ _ _ _ (by omega) (by omega) (by omega), if_neg (by omega)]
                simp [d1, d2, e1]
              · rw [if_pos (by omega)]
                by_cases e4 : 128 ≤ ((at' p 2).toNat : Int) ∧ ((at' p 2).toNat : Int) ≤ 191
                · rw [if_pos e4, rbLoopI p 4 (by omega) hp3 _ _ _ _ _ (by omega) (by omega) (by omega), if_pos (by omega), if_neg (by omega), rbLoopI p 4 (by omega) hp3 _ _ _ _ _ (by omega) (by omega) (by omega), if_neg (by omega)]
                  simp [d1, d2, e1, e4]
                · rw [if_neg e4]; simp [d1, d2, e4]
            · rw [if_neg e1]; simp [d1, e1]
        · rw [if_neg c3, if_neg c3]
          rw [if_pos (by omega)]
          simp
  · have hl' : ¬ (1 ≤ (p.length : Int) ∧ (p.length : Int) ≤ 3) := by omega
    rw [decide_eq_false hl']
    unfold rbI
    rw [decide_eq_false hl]
    simp

theorem runeBegin_i (p : List UInt8) (hp : p.length ≤ 100000000) : M_i_RuneBegin p = some (rbS p) := by
  rw [rbI_eq p hp, rbS_I]

theorem runeOk_i (r : Int) : M_i_RuneOk r = some (decide (0 ≤ r ∧ r ≤ 1114111 ∧ (r < 55296 ∨ 57343 < r))) := by
  unfold M_i_RuneOk
  simp only [in_eq, bindO, callO]
  by_cases h1 : 0 ≤ r ∧ r ≤ 1114111
  · rw [decide_eq_true h1]
    simp only [cond_true, if_true]
    by_cases h2 : r < 55296
    · have : ¬ (55296 ≤ r ∧ r ≤ 57343) := by omega
      simp [h1, h2, this]
    · by_cases h3 : 57343 < r
      · have : ¬ (55296 ≤ r ∧ r ≤ 57343) := by omega
        simp [h1, h2, h3, this]
      · have : (55296 ≤ r ∧ r ≤ 57343) := by omega
        simp [h1, h2, h3, this]
  · have : ¬ (0 ≤ r ∧ r ≤ 1114111 ∧ (r < 55296 ∨ 57343 < r)) := fun h => h1 ⟨h.1, h.2.1⟩
    rw [decide_eq_false h1, decide_eq_false this]
    simp

theorem runeBytes_i (r : Int) : M_i_RuneBytes r = some (enc r) := by
  unfold M_i_RuneBytes enc encL
  rw [bindO_of (runeOk_i r)]
  by_cases h : 0 ≤ r ∧ r ≤ 1114111 ∧ (r < 55296 ∨ 57343 < r)
  · have h0 := h.1
    have h00 : 0 ≤ r / 64 := by omega
    have h01 : 0 ≤ r / 4096 := by omega
    simp only [h, decide_true, Bool.not_true, cond_false, not_true, if_false, Bool.cond_decide, td h0, tm h0]
    rw [W_eq (x := r / 64) (by omega) (by omega), W_eq (x := r / 4096) (by omega) (by omega), W_eq (x := r / 262144) (by omega) (by omega), tm h00, tm h01]
    rw [W_eq (x := 192 + r / 64) (by omega) (by omega), W_eq (x := 128 + r % 64) (by omega) (by omega), W_eq (x := 224 + r / 4096) (by omega) (by omega), W_eq (x := 128 + r / 64 % 64) (by omega) (by omega), W_eq (x := 240 + r / 262144) (by omega) (by omega), W_eq (x := 128 + r / 4096 % 64) (by omega) (by omega)]
    split
    · rfl
    · split
      · rfl
      · split <;> rfl
  · simp only [h, decide_false, Bool.not_false, cond_true, not_false_eq_true, if_true, List.map_nil]

section
variable {b : List UInt8} {a : Int} (h0 : 0 ≤ a) (hl : (b.length : Int) ≤ 100000000)
include h0 hl

theorem riInner (n : Int) (hn : 2 ≤ n) (hn4 : n ≤ 4) (han : a + n ≤ (b.length : Int)) (j : Int → Option (Int × Int)) (m : Nat) : ∀ (r i : Int), 0 ≤ i → i ≤ n - 1 → (-100000000 ≤ r ∧ r ≤ 100000000) →
    fixF (M_i_RuneRead_L1 b a n j) (m + 1) (r, i) = if i < n - 1 then fixF (M_i_RuneRead_L1 b a n j) m (r * 64 + ((at' b (a + 1 + i)).toNat : Int) - 128, i + 1) else j r := by
  intro r i hi hin hr
  have e1 : W (a + 1) = a + 1 := W_eq (by omega) (by omega)
  have e2 : W (a + n) = a + n := W_eq (by omega) (by omega)
  have hsl : ((sub' b (a + 1) (a + n)).length : Int) = n - 1 := by rw [sub_len (by omega)]; omega
  simp only [fixF, M_i_RuneRead_L1, guardO, Bool.cond_decide, e1, e2, hsl]
  by_cases h : i < n - 1
  · have ea : at' (sub' b (a + 1) (a + n)) i = at' b (a + 1 + i) := by
      unfold at' sub'
      have q : (a + 1 + i).toNat = (a + 1).toNat + i.toNat := by omega
      rw [q]
      simp only [List.getD_eq_getElem?_getD, List.getElem?_take, List.getElem?_drop]
      rw [if_pos (by omega)]
    have hb := byteB (at' b (a + 1 + i))
    rw [if_pos h, if_pos h, if_pos ⟨hi, h⟩, ea]
    rw [W_eq (x := r * 64) (by omega) (by omega), W_eq (x := r * 64 + _) (by omega) (by omega), W_eq (x := r * 64 + _ - 128) (by omega) (by omega), W_eq (x := i + 1) (by omega) (by omega)]
  · rw [if_neg h, if_neg h]

theorem riTail (n v0 : Int) (hn : 2 ≤ n) (hn4 : n ≤ 4) (han : a + n ≤ (b.length : Int)) (hv : v0 = (at' b a).toNat - (if n = 2 then 192 else if n = 3 then 224 else 240)) (j : Int → Option (Int × Int)) :
    fixF (M_i_RuneRead_L1 b a n j) FUEL (v0, 0) = j (vl b a n) := by
  obtain ⟨m, hm⟩ : ∃ m, FUEL = m + 1 + 1 + 1 + 1 := ⟨FUEL - 4, by rw [fuel_eq]⟩
  rw [hm]
  subst hv
  have b0 := byteB (at' b a)
  have b1 := byteB (at' b (a + 1))
  have b2 := byteB (at' b (a + 2))
  have b3 := byteB (at' b (a + 3))
  have b4 := byteB (at' b (a + 1 + 0))
  have b5 := byteB (at' b (a + 1 + 1))
  have b6 := byteB (at' b (a + 1 + 2))
  have q0 : a + 1 + 0 = a + 1 := by omega
  have q1 : a + 1 + 1 = a + 2 := by omega
  have q2 : a + 1 + 2 = a + 3 := by omega
  have z1 : (0 : Int) + 1 = 1 := rfl
  have z2 : (1 : Int) + 1 = 2 := rfl
  have z3 : (2 : Int) + 1 = 3 := rfl
  have hc : n = 2 ∨ n = 3 ∨ n = 4 := by omega
  rcases hc with rfl | rfl | rfl
  · rw [if_pos rfl, riInner h0 hl _ hn hn4 han _ _ _ _ (by omega) (by omega) (by omega), if_pos (by omega), z1, riInner h0 hl _ hn hn4 han _ _ _ _ (by omega) (by omega) (by omega), if_neg (by omega), q0]
    rfl
  · rw [if_neg (by omega), if_pos rfl, riInner h0 hl _ hn hn4 han _ _ _ _ (by omega) (by omega) (by omega), if_pos (by omega), z1, riInner h0 hl _ hn hn4 han _ _ _ _ (by omega) (by omega) (by omega), if_pos (by omega), z2, riInner h0 hl _ hn hn4 han _ _ _ _ (by omega) (by omega) (by omega), if_neg (by omega), q0, q1]
    rfl
  · rw [if_neg (by omega), if_neg (by omega), riInner h0 hl _ hn hn4 han _ _ _ _ (by omega) (by omega) (by omega), if_pos (by omega), z1, riInner h0 hl _ hn hn4 han _ _ _ _ (by omega) (by omega) (by omega), if_pos (by omega), z2, riInner h0 hl _ hn hn4 han _ _ _ _ (by omega) (by omega) (by omega), if_pos (by omega), z3, riInner h0 hl _ hn hn4 han _ _ _ _ (by omega) (by omega) (by omega), if_neg (by omega), q0, q1, q2]
    rfl

theorem riMid (n v0 : Int) (hn : 2 ≤ n) (hn4 : n ≤ 4) (ha : a < (b.length : Int)) (hv : v0 = (at' b a).toNat - (if n = 2 then 192 else if n = 3 then 224 else 240)) :
    (bif (decide ((W ((b.length : Int) - n)) < a)) then
      some ((0 : Int), (0 : Int))
      else
      (guardO (0 ≤ (W (a + 1)) ∧ (W (a + 1)) ≤ (W (a + n)) ∧ (W (a + n)) ≤ (b.length : Int)) <|
      (joinO (fun (x38 : Int) =>
      (bindO (M_i_RuneBytes x38) fun (y42 : List UInt8) =>
      (guardO (0 ≤ a ∧ a ≤ (W (a + n)) ∧ (W (a + n)) ≤ (b.length : Int)) <|
      (bif (!(decide (y42 = (sub' b a (W (a + n)))))) then
      some (0, 0)
      else
      some (x38, n))))) fun j39 =>
      (fixF (M_i_RuneRead_L1 b a n j39) FUEL (v0, 0))))) = some (if a + n ≤ (b.length : Int) ∧ enc (vl b a n) = sub' b a (a + n) then (vl b a n, n) else (0, 0)) := by
  rw [W_eq (x := (b.length : Int) - n) (by omega) (by omega), W_eq (x := a + 1) (by omega) (by omega), W_eq (x := a + n) (by omega) (by omega)]
  by_cases c : (b.length : Int) - n < a
  · rw [decide_eq_true c, if_neg (by omega)]; rfl
  · rw [decide_eq_false c, cond_false]
    simp only [guardO, joinO, runeBytes_i, bindO]
    rw [if_pos (by omega), riTail h0 hl n v0 hn hn4 (by omega) hv, if_pos (by omega)]
    by_cases h : enc (vl b a n) = sub' b a (a + n)
    · rw [if_pos ⟨by omega, h⟩]; simp [h]
    · rw [if_neg (fun q => h q.2)]; simp [h]

theorem runeRead_i (ha : a < (b.length : Int)) : M_i_RuneRead b a = some (rd (b.drop a.toNat)) := by
  unfold M_i_RuneRead
  have e0 : decide (a < 0) = false := by simp; omega
  have e1 : decide ((b.length : Int) ≤ a) = false := by simp; omega
  have b0 := byteB (at' b a)
  rw [e0, e1]
  simp only [cond_false, in_eq]
  have g : 0 ≤ a ∧ a < (b.length : Int) := ⟨h0, ha⟩
  rw [show ∀ k : Option (Int × Int), guardO (0 ≤ a ∧ a < (b.length : Int)) k = k from fun k => if_pos g]
  have j1 : ∀ (f : Int × Int → Option (Int × Int)) (B : (Int × Int → Option (Int × Int)) → Option (Int × Int)), joinO f B = B f := fun _ _ => rfl
  rw [j1]
  rw [W_eq (x := ((at' b a).toNat : Int) - 192) (by omega) (by omega), W_eq (x := ((at' b a).toNat : Int) - 224) (by omega) (by omega), W_eq (x := ((at' b a).toNat : Int) - 240) (by omega) (by omega)]
  have bS : ∀ (x : Bool) (k : Bool → Option (Int × Int)), bindO (some x) k = k x := fun _ _ => rfl
  simp only [bS]
  have m2 := fun v => riMid h0 hl 2 v (by omega) (by omega) ha
  have m3 := fun v => riMid h0 hl 3 v (by omega) (by omega) ha
  have m4 := fun v => riMid h0 hl 4 v (by omega) (by omega) ha
  have hL : (b.length : Int) = a + ((b.drop a.toNat).length : Int) := by simp; omega
  have s2 := sub_drop (b := b) (n := 2) h0 (by omega)
  have s3 := sub_drop (b := b) (n := 3) h0 (by omega)
  have s4 := sub_drop (b := b) (n := 4) h0 (by omega)
  have t0 := at_drop0 (b := b) h0
  have t1 := at_drop (b := b) h0 1 (by omega)
  have t2 := at_drop (b := b) h0 2 (by omega)
  have t3 := at_drop (b := b) h0 3 (by omega)
  have v2 : vl b a 2 = r2 (at' b a).toNat (at' b (a + 1)).toNat := rfl
  have v3 : vl b a 3 = r3 (at' b a).toNat (at' b (a + 1)).toNat (at' b (a + 2)).toNat := rfl
  have v4 : vl b a 4 = r4 (at' b a).toNat (at' b (a + 1)).toNat (at' b (a + 2)).toNat (at' b (a + 3)).toNat := rfl
  have hne : 0 < (b.drop a.toNat).length := by simp; omega
  by_cases c0 : ((at' b a).toNat : Int) < 128
  · rw [decide_eq_true c0, cond_true]
    rw [t0] at c0 ⊢
    unfold rd bi
    rw [if_neg (show ¬ (List.drop a.toNat b).length < 1 by omega), if_pos c0]
  · rw [decide_eq_false c0, cond_false]
    by_cases c2 : 192 ≤ ((at' b a).toNat : Int) ∧ ((at' b a).toNat : Int) ≤ 223
    · rw [decide_eq_true c2, cond_true, m2 _ (by simp), s2, v2, t1]
      rw [t0] at c0 c2 ⊢
      rw [hL]
      generalize b.drop a.toNat = s at *
      congr 1
      unfold rd bi
      rw [if_neg (show ¬ s.length < 1 by omega), if_neg c0]
      by_cases l2 : s.length < 2
      · rw [if_pos l2, if_neg (show ¬ (a + 2 ≤ a + (s.length : Int) ∧ _) from fun h => by omega)]
      · rw [if_neg l2]
        obtain ⟨x, y, t, rfl⟩ : ∃ x y t, s = x :: y :: t := by
          rcases s with _ | ⟨x, _ | ⟨y, t⟩⟩
          · simp at l2
          · simp at l2
          · exact ⟨x, y, t, rfl⟩
        have e := encL2 (x := x.toNat) (y := y.toNat) (by have := byteB x; have := byteB y; omega)
        have a0 : at' (x :: y :: t) 0 = x := rfl
        have a1 : at' (x :: y :: t) 1 = y := rfl
        have tk : (x :: y :: t).take (Int.toNat 2) = [x, y] := rfl
        rw [a0] at c0 c2
        rw [tk, a0, a1]
        have ee : (a + 2 ≤ a + ((x :: y :: t).length : Int) ∧ enc (r2 x.toNat y.toNat) = [x, y]) ↔ E2 x.toNat y.toNat := by
          rw [enc_iff]
          simp only [List.map_cons, List.map_nil, e]
          exact ⟨fun h => h.2, fun h => ⟨by simp; omega, h⟩⟩
        by_cases q : E2 x.toNat y.toNat
        · rw [if_pos (ee.2 q), if_pos q]
        · rw [if_neg (fun h => q (ee.1 h)), if_neg q]
          have n3 : ∀ u v, ¬ E3 (x.toNat : Int) u v := fun u v h => by unfold E3 at h; omega
          have n4 : ∀ u v w, ¬ E4 (x.toNat : Int) u v w := fun u v w h => by unfold E4 at h; omega
          simp only [n3, n4, if_false, ite_self]
    · rw [decide_eq_false c2, cond_false]
      by_cases c3 : 224 ≤ ((at' b a).toNat : Int) ∧ ((at' b a).toNat : Int) ≤ 239
      · rw [decide_eq_true c3, cond_true, m3 _ (by simp), s3, v3, t1, t2]
        rw [t0] at c0 c2 c3 ⊢
        rw [hL]
        generalize b.drop a.toNat = s at *
        congr 1
        unfold rd bi
        have n2 : ∀ u, ¬ E2 ((at' s 0).toNat : Int) u := fun u h => by unfold E2 at h; omega
        have n4 : ∀ u v w, ¬ E4 ((at' s 0).toNat : Int) u v w := fun u v w h => by unfold E4 at h; omega
        rw [if_neg (show ¬ s.length < 1 by omega), if_neg c0]
        simp only [n2, n4, if_false, ite_self]
        by_cases l2 : s.length < 3
        · rw [if_pos l2, ite_self, if_neg (show ¬ (a + 3 ≤ a + (s.length : Int) ∧ _) from fun h => by omega)]
        · rw [if_neg l2, if_neg (show ¬ s.length < 2 by omega)]
          obtain ⟨x, y, z, t, rfl⟩ : ∃ x y z t, s = x :: y :: z :: t := by
            rcases s with _ | ⟨x, _ | ⟨y, _ | ⟨z, t⟩⟩⟩
            · simp at l2
            · simp at l2
            · simp at l2
            · exact ⟨x, y, z, t, rfl⟩
          have e := encL3 (x := x.toNat) (y := y.toNat) (z := z.toNat) (by have := byteB x; have := byteB y; have := byteB z; omega)
          have a0 : at' (x :: y :: z :: t) 0 = x := rfl
          have a1 : at' (x :: y :: z :: t) 1 = y := rfl
          have a2 : at' (x :: y :: z :: t) 2 = z := rfl
          have tk : (x :: y :: z :: t).take (Int.toNat 3) = [x, y, z] := rfl
          rw [tk, a0, a1, a2]
          have ee : (a + 3 ≤ a + ((x :: y :: z :: t).length : Int) ∧ enc (r3 x.toNat y.toNat z.toNat) = [x, y, z]) ↔ E3 x.toNat y.toNat z.toNat := by
            rw [enc_iff]
            simp only [List.map_cons, List.map_nil, e]
            exact ⟨fun h => h.2, fun h => ⟨by simp; omega, h⟩⟩
          by_cases q : E3 x.toNat y.toNat z.toNat
          · rw [if_pos (ee.2 q), if_pos q]
          · rw [if_neg (fun h => q (ee.1 h)), if_neg q]
      · rw [decide_eq_false c3, cond_false]
        by_cases c4 : 240 ≤ ((at' b a).toNat : Int) ∧ ((at' b a).toNat : Int) ≤ 247
        · rw [decide_eq_true c4, cond_true, m4 _ (by simp), s4, v4, t1, t2, t3]
          rw [t0] at c0 c2 c3 c4 ⊢
          rw [hL]
          generalize b.drop a.toNat = s at *
          congr 1
          unfold rd bi
          have n2 : ∀ u, ¬ E2 ((at' s 0).toNat : Int) u := fun u h => by unfold E2 at h; omega
          have n3 : ∀ u v, ¬ E3 ((at' s 0).toNat : Int) u v := fun u v h => by unfold E3 at h; omega
          rw [if_neg (show ¬ s.length < 1 by omega), if_neg c0]
          simp only [n2, n3, if_false, ite_self]
          by_cases l2 : s.length < 4
          · rw [if_pos l2, ite_self, ite_self, if_neg (show ¬ (a + 4 ≤ a + (s.length : Int) ∧ _) from fun h => by omega)]
          · rw [if_neg l2, if_neg (show ¬ s.length < 2 by omega), if_neg (show ¬ s.length < 3 by omega)]
            obtain ⟨x, y, z, v, t, rfl⟩ : ∃ x y z v t, s = x :: y :: z :: v :: t := by
              rcases s with _ | ⟨x, _ | ⟨y, _ | ⟨z, _ | ⟨v, t⟩⟩⟩⟩
              · simp at l2
              · simp at l2
              · simp at l2
              · simp at l2
              · exact ⟨x, y, z, v, t, rfl⟩
            have e := encL4 (x := x.toNat) (y := y.toNat) (z := z.toNat) (v := v.toNat) (by have := byteB x; have := byteB y; have := byteB z; have := byteB v; omega)
            have a0 : at' (x :: y :: z :: v :: t) 0 = x := rfl
            have a1 : at' (x :: y :: z :: v :: t) 1 = y := rfl
            have a2 : at' (x :: y :: z :: v :: t) 2 = z := rfl
            have a3 : at' (x :: y :: z :: v :: t) 3 = v := rfl
            have tk : (x :: y :: z :: v :: t).take (Int.toNat 4) = [x, y, z, v] := rfl
            rw [tk, a0, a1, a2, a3]
            have ee : (a + 4 ≤ a + ((x :: y :: z :: v :: t).length : Int) ∧ enc (r4 x.toNat y.toNat z.toNat v.toNat) = [x, y, z, v]) ↔ E4 x.toNat y.toNat z.toNat v.toNat := by
              rw [enc_iff]
              simp only [List.map_cons, List.map_nil, e]
              exact ⟨fun h => h.2, fun h => ⟨by simp; omega, h⟩⟩
            by_cases q : E4 x.toNat y.toNat z.toNat v.toNat
            · rw [if_pos (ee.2 q), if_pos q]
            · rw [if_neg (fun h => q (ee.1 h)), if_neg q]
        · rw [decide_eq_false c4, cond_false]
          rw [t0] at c0 c2 c3 c4
          unfold rd bi
          generalize b.drop a.toNat = s at *
          have n2 : ∀ u, ¬ E2 ((at' s 0).toNat : Int) u := fun u h => by unfold E2 at h; omega
          have n3 : ∀ u v, ¬ E3 ((at' s 0).toNat : Int) u v := fun u v h => by unfold E3 at h; omega
          have n4 : ∀ u v w, ¬ E4 ((at' s 0).toNat : Int) u v w := fun u v w h => by unfold E4 at h; omega
          simp only [n2, n3, n4, c0, if_false, ite_self]
end

/-- What a terminal is that is right. -/
structure Vok (v : Vtt) : Prop where
  g : Gok v.1
  st : 0 ≤ v.2.1 ∧ v.2.1 ≤ 2
  al : v.2.2.1.length ≤ 4
  ae : v.2.2.1 ≠ [] → v.2.1 = 2
  ar : ∀ n ∈ v.2.2.1, 0 ≤ n ∧ n ≤ 9999
  pt : v.2.2.2.1 = [] ∨ v.2.1 = 0 ∧ rbS v.2.2.2.1 = true
  be : 0 ≤ v.2.2.2.2 ∧ v.2.2.2.2 ≤ 1000000

theorem rbS_len {p : List UInt8} (h : rbS p = true) : 1 ≤ p.length ∧ p.length ≤ 3 := by
  match p, h with
  | [_], _ => simp
  | [_, _], _ => simp
  | [_, _, _], _ => simp
theorem Vok.pl {v : Vtt} (h : Vok v) : v.2.2.2.1.length ≤ 3 := by
  rcases h.pt with h | h
  · rw [h]; simp
  · exact (rbS_len h.2).2

def plainD (v : Vtt) (b : Int) : Vtt :=
  let p := v.2.2.2.1 ++ [u8 b]
  if 128 ≤ b then
    if (rd p).2 = (p.length : Int) then (gput v.1 (rd p).1, v.2.1, v.2.2.1, [], v.2.2.2.2)
    else if rbS p = true then (v.1, v.2.1, v.2.2.1, p, v.2.2.2.2) else (v.1, v.2.1, v.2.2.1, [], v.2.2.2.2)
  else if b = 7 then (v.1, v.2.1, v.2.2.1, [], min (v.2.2.2.2 + 1) 1000000)
  else if b = 8 then (ggo v.1 (v.1.2.2.2.1 - 1) v.1.2.2.2.2.1, v.2.1, v.2.2.1, [], v.2.2.2.2)
  else if b = 13 then (ggo v.1 0 v.1.2.2.2.2.1, v.2.1, v.2.2.1, [], v.2.2.2.2)
  else if b = 10 then (ggo (if v.1.2.2.2.2.1 = v.1.2.1 - 1 then gscr v.1 else v.1) v.1.2.2.2.1 (v.1.2.2.2.2.1 + 1), v.2.1, v.2.2.1, [], v.2.2.2.2)
  else if b = 27 then (v.1, 1, v.2.2.1, [], v.2.2.2.2)
  else if 32 ≤ b ∧ b ≤ 126 then (gput v.1 b, v.2.1, v.2.2.1, [], v.2.2.2.2)
  else (v.1, v.2.1, v.2.2.1, [], v.2.2.2.2)

theorem copyBytes_i (l : List UInt8) (h : l.length ≤ 100000000) : M_i_copyBytes l = some l := by
  unfold M_i_copyBytes guardO
  rw [if_pos (by simp; omega)]
  rfl

theorem rr_i (p : List UInt8) (h1 : 0 < p.length) (h2 : p.length ≤ 100) : M_i_RuneRead p 0 = some (rd p) := by
  have := runeRead_i (b := p) (a := 0) (by omega) (by omega) (by omega)
  simpa using this

theorem plain_i (v : Vtt) (h : Vok v) (b : Int) : M_i_Vt_plain v b = some (plainD v b) := by
  have hp := h.pl
  have hb := h.be
  obtain ⟨c1, c2, c3, c4, c5⟩ := h.g.cur
  obtain ⟨s1, s2, s3, s4, s5, s6⟩ := gsz_bounds h.g.sz
  have hl : (v.2.2.2.1 ++ [u8 b]).length ≤ 4 := by simp; omega
  have hl0 : 0 < (v.2.2.2.1 ++ [u8 b]).length := by simp
  unfold M_i_Vt_plain plainD
  rw [bindO_of (copyBytes_i _ (by omega))]
  simp only [guardO, joinO]
  rw [if_pos (by simp; omega), rr_i _ hl0 (by omega), runeBegin_i _ (by omega), in_eq, W_eq (x := v.2.2.2.2 + 1) (by omega) (by omega), W_eq (x := v.1.2.2.2.1 - 1) (by omega) (by omega), W_eq (x := v.1.2.1 - 1) (by omega) (by omega)]
  generalize hrd : rd (v.2.2.2.1 ++ [u8 b]) = q
  obtain ⟨q1, q2⟩ := q
  simp only [bindO_ret, putP _ _ h.g, goP _ _ h.g, scrollP _ _ h.g]
  by_cases h1 : 128 ≤ b
  · rw [decide_eq_true h1, cond_true, if_pos h1]
    by_cases h2 : q2 = ((v.2.2.2.1 ++ [u8 b]).length : Int)
    · rw [decide_eq_true h2, cond_true, if_pos h2]
    · rw [decide_eq_false h2, cond_false, if_neg h2]
      cases rbS (v.2.2.2.1 ++ [u8 b]) <;> rfl
  rw [decide_eq_false h1, cond_false, if_neg h1]
  by_cases h2 : b = 7
  · rw [decide_eq_true h2, cond_true, if_pos h2]
  rw [decide_eq_false h2, cond_false, if_neg h2]
  by_cases h2 : b = 8
  · rw [decide_eq_true h2, cond_true, if_pos h2]
  rw [decide_eq_false h2, cond_false, if_neg h2]
  by_cases h2 : b = 13
  · rw [decide_eq_true h2, cond_true, if_pos h2]
  rw [decide_eq_false h2, cond_false, if_neg h2]
  by_cases h2 : b = 10
  · rw [decide_eq_true h2, cond_true, if_pos h2]
    by_cases h3 : v.1.2.2.2.2.1 = v.1.2.1 - 1
    · rw [decide_eq_true h3, cond_true, if_pos h3]
      simp only [gscr]
      rw [W_eq (x := v.1.2.2.2.2.1 + 1) (by omega) (by omega)]
      have e := goV' ((v.1.1, v.1.2.1, scrL v.1.1 v.1.2.2.1, v.1.2.2.2.1, v.1.2.2.2.2.1, v.1.2.2.2.2.2), v.2.1, v.2.2.1, ([] : List UInt8), v.2.2.2.2) (gscr_ok h.g) v.1.2.2.2.1 (v.1.2.2.2.2.1 + 1)
      rw [bindO_of e]
    · rw [decide_eq_false h3, cond_false, if_neg h3]
      rw [W_eq (x := v.1.2.2.2.2.1 + 1) (by omega) (by omega)]
  rw [decide_eq_false h2, cond_false, if_neg h2]
  by_cases h2 : b = 27
  · rw [decide_eq_true h2, cond_true, if_pos h2]
  rw [decide_eq_false h2, cond_false, if_neg h2]
  by_cases h2 : 32 ≤ b ∧ b ≤ 126
  · rw [decide_eq_true h2, cond_true, if_pos h2]
  · rw [decide_eq_false h2, cond_false, if_neg h2]

theorem plain_ok (v : Vtt) (h : Vok v) (h0 : v.2.1 = 0) (b : Int) : Vok (plainD v b) := by
  obtain ⟨hg, hst, hal, has, har, hpt, hbe⟩ := h
  have ha : v.2.2.1 = [] := by
    by_cases z : v.2.2.1 = []
    · exact z
    · have := has z; omega
  have K : ∀ g : Gd, Gok g → Vok (g, v.2.1, v.2.2.1, [], v.2.2.2.2) := fun g hg => ⟨hg, hst, hal, has, har, .inl rfl, hbe⟩
  unfold plainD
  simp only
  split
  · split
    · exact K _ (gput_ok hg _)
    · split
      · rename_i hrb
        exact ⟨hg, hst, hal, has, har, .inr ⟨h0, hrb⟩, hbe⟩
      · exact K _ hg
  · split
    · exact ⟨hg, hst, hal, has, har, .inl rfl, by simp only; omega⟩
    · split
      · exact K _ (ggo_ok hg _ _)
      · split
        · exact K _ (ggo_ok hg _ _)
        · split
          · refine K _ (ggo_ok ?_ _ _)
            split
            · exact gscr_ok hg
            · exact hg
          · split
            · exact ⟨hg, by simp only; omega, hal, fun z => absurd ha z, har, .inl rfl, hbe⟩
            · split
              · exact K _ (gput_ok hg _)
              · exact K _ hg

def argD (l : List Int) (i d : Int) : Int := if (l.length : Int) ≤ i then d else if at' l i = 0 then d else at' l i

theorem at_mem {l : List Int} {i : Int} (h0 : 0 ≤ i) (h : i < (l.length : Int)) : at' l i ∈ l := List.mem_of_getElem? (at_some ⟨h0, h⟩)

theorem argD_b {v : Vtt} (h : Vok v) (i : Int) (h0 : 0 ≤ i) (d : Int) (hd : 0 ≤ d ∧ d ≤ 1) : 0 ≤ argD v.2.2.1 i d ∧ argD v.2.2.1 i d ≤ 9999 := by
  unfold argD
  split
  · omega
  · split
    · omega
    · exact h.ar _ (at_mem h0 (by omega))

theorem arg_i (v : Vtt) (i : Int) (h0 : 0 ≤ i) : M_i_Vt_arg v i = some (argD v.2.2.1 i 1, v) := by
  unfold M_i_Vt_arg argD guardO
  by_cases h : (v.2.2.1.length : Int) ≤ i
  · rw [decide_eq_true h, if_pos (by intro h; cases h), if_pos h]; rfl
  · rw [decide_eq_false h, if_pos (by intro _; omega), if_neg h, cond_false, if_pos (by omega)]
    by_cases h2 : at' v.2.2.1 i = 0
    · rw [decide_eq_true h2, cond_true, if_pos h2]
    · rw [decide_eq_false h2, cond_false, if_neg h2]

/-- Clearing, by a number. -/
def clrD (g : Gd) (a b n : Int) : Gd := if n = 0 then ger g (gat g) b else if n = 1 then ger g a (gat g + 1) else if n = 2 then ger g a b else g

theorem clrD_ok {g : Gd} (h : Gok g) (a b n : Int) : Gok (clrD g a b n) := by
  unfold clrD
  split
  · exact ger_ok h _ _
  · split
    · exact ger_ok h _ _
    · split
      · exact ger_ok h _ _
      · exact h

theorem gat_W {g : Gd} (h : Gok g) : W (g.2.2.2.2.1 * g.1) = g.2.2.2.2.1 * g.1 ∧ W (g.2.2.2.2.1 * g.1 + g.2.2.2.1) = gat g ∧ W (gat g + 1) = gat g + 1 ∧ W ((W (g.2.2.2.2.1 + 1)) * g.1) = g.2.2.2.2.1 * g.1 + g.1 ∧ W (g.2.2.2.2.1 * g.1 + g.1) = g.2.2.2.2.1 * g.1 + g.1 := by
  obtain ⟨s1, s2, s3, s4, s5, s6⟩ := gsz_bounds h.sz
  obtain ⟨c1, c2, c3, c4, c5⟩ := h.cur
  have h1 : 0 ≤ g.2.2.2.2.1 * g.1 := Int.mul_nonneg c3 (by omega)
  have h2 : g.2.2.2.2.1 * g.1 ≤ 200 * g.1 := Int.mul_le_mul_of_nonneg_right (by omega) (by omega)
  unfold gat
  refine ⟨W_eq (by omega) (by omega), W_eq (by omega) (by omega), W_eq (by omega) (by omega), ?_, W_eq (by omega) (by omega)⟩
  rw [W_eq (x := g.2.2.2.2.1 + 1) (by omega) (by omega), Int.add_mul, Int.one_mul, W_eq (by omega) (by omega)]

theorem clear_i (v : Vtt) (h : Vok v) (a b : Int) : M_i_Vt_clear v a b = some (clrD v.1 a b (argD v.2.2.1 0 0), v.2) := by
  obtain ⟨w1, w2, w3, w4, w5⟩ := gat_W h.g
  have he : ∀ x y, M_i_Grid_erase_in31 v x y = some (ger v.1 x y, v.2) := fun x y => eraseV' v h.g x y
  have fin : ∀ n : Int,
      (bif (decide (n = 0)) then
      (bindO (M_i_Grid_erase_in31 v (W ((W (v.1.2.2.2.2.1 * v.1.1)) + v.1.2.2.2.1)) b) fun (y28 : Vtt) =>
      some ((y28.1.1, y28.1.2.1, y28.1.2.2.1, y28.1.2.2.2.1, y28.1.2.2.2.2.1, y28.1.2.2.2.2.2), y28.2.1, y28.2.2.1, y28.2.2.2.1, y28.2.2.2.2))
      else
      (bif (decide (n = 1)) then
      (bindO (M_i_Grid_erase_in31 v a (W ((W ((W (v.1.2.2.2.2.1 * v.1.1)) + v.1.2.2.2.1)) + 1))) fun (y36 : Vtt) =>
      some ((y36.1.1, y36.1.2.1, y36.1.2.2.1, y36.1.2.2.2.1, y36.1.2.2.2.2.1, y36.1.2.2.2.2.2), y36.2.1, y36.2.2.1, y36.2.2.2.1, y36.2.2.2.2))
      else
      (bif (decide (n = 2)) then
      (bindO (M_i_Grid_erase_in31 v a b) fun (y44 : Vtt) =>
      some ((y44.1.1, y44.1.2.1, y44.1.2.2.1, y44.1.2.2.2.1, y44.1.2.2.2.2.1, y44.1.2.2.2.2.2), y44.2.1, y44.2.2.1, y44.2.2.2.1, y44.2.2.2.2))
      else
      some ((v.1.1, v.1.2.1, v.1.2.2.1, v.1.2.2.2.1, v.1.2.2.2.2.1, v.1.2.2.2.2.2), v.2.1, v.2.2.1, v.2.2.2.1, v.2.2.2.2)))) = some (clrD v.1 a b n, v.2) := by
    intro n
    rw [w1, w2, w3, he, he, he]
    simp only [bindO_ret]
    unfold clrD
    by_cases h0 : n = 0
    · rw [decide_eq_true h0, cond_true, if_pos h0]
    rw [decide_eq_false h0, cond_false, if_neg h0]
    by_cases h0 : n = 1
    · rw [decide_eq_true h0, cond_true, if_pos h0]
    rw [decide_eq_false h0, cond_false, if_neg h0]
    by_cases h0 : n = 2
    · rw [decide_eq_true h0, cond_true, if_pos h0]
    rw [decide_eq_false h0, cond_false, if_neg h0]
  unfold M_i_Vt_clear
  simp only [joinO, guardO]
  by_cases hl : 0 < (v.2.2.1.length : Int)
  · rw [decide_eq_true hl, cond_true, if_pos ⟨Int.le_refl 0, hl⟩]
    refine (fin (at' v.2.2.1 0)).trans ?_
    unfold argD
    rw [if_neg (by omega)]
    by_cases hz : at' v.2.2.1 0 = 0
    · rw [if_pos hz, hz]
    · rw [if_neg hz]
  · rw [decide_eq_false hl, cond_false]
    have f0 := fin 0
    simp only at f0
    refine f0.trans ?_
    unfold argD
    rw [if_pos (by omega)]

/-- The end of a sequence. -/
def actD (g : Gd) (l : List Int) (b : Int) : Gd :=
  let n := argD l 0 1
  if b = 65 then ggo g g.2.2.2.1 (g.2.2.2.2.1 - n)
  else if b = 66 then ggo g g.2.2.2.1 (g.2.2.2.2.1 + n)
  else if b = 67 then ggo g (g.2.2.2.1 + n) g.2.2.2.2.1
  else if b = 68 then ggo g (g.2.2.2.1 - n) g.2.2.2.2.1
  else if b = 72 then ggo g (argD l 1 1 - 1) (n - 1)
  else if b = 74 then clrD g 0 (g.2.2.1.length : Int) (argD l 0 0)
  else if b = 75 then clrD g (g.2.2.2.2.1 * g.1) (g.2.2.2.2.1 * g.1 + g.1) (argD l 0 0)
  else g

theorem actD_ok {g : Gd} (h : Gok g) (l : List Int) (b : Int) : Gok (actD g l b) := by
  unfold actD
  simp only
  repeat (split; (first | exact ggo_ok h _ _ | exact clrD_ok h _ _ _))
  exact h

theorem control_i (v : Vtt) (h : Vok v) (b : Int) : M_i_Vt_control v b = some (actD v.1 v.2.2.1 b, v.2) := by
  obtain ⟨w1, w2, w3, w4, w5⟩ := gat_W h.g
  obtain ⟨s1, s2, s3, s4, s5, s6⟩ := gsz_bounds h.g.sz
  obtain ⟨c1, c2, c3, c4, c5⟩ := h.g.cur
  have a0 := argD_b h 0 (by omega) 1 (by omega)
  have a1 := argD_b h 1 (by omega) 1 (by omega)
  have hg : ∀ x y, M_i_Grid_moveTo_in31 v x y = some (ggo v.1 x y, v.2) := fun x y => goV' v h.g x y
  unfold M_i_Vt_control
  rw [arg_i _ _ (by omega)]
  simp only [bindO_ret]
  rw [arg_i _ _ (by omega)]
  simp only [bindO_ret, joinO, w1, w4, hg, clear_i _ h]
  unfold actD
  simp only
  generalize argD v.2.2.1 0 1 = n at a0 ⊢
  generalize argD v.2.2.1 1 1 = n1 at a1 ⊢
  rw [W_eq (x := v.1.2.2.2.2.1 - n) (by omega) (by omega), W_eq (x := v.1.2.2.2.2.1 + n) (by omega) (by omega), W_eq (x := v.1.2.2.2.1 - n) (by omega) (by omega), W_eq (x := v.1.2.2.2.1 + n) (by omega) (by omega), W_eq (x := n - 1) (by omega) (by omega), W_eq (x := n1 - 1) (by omega) (by omega)]
  by_cases h0 : b = 65
  · rw [decide_eq_true h0, cond_true, if_pos h0]
  rw [decide_eq_false h0, cond_false, if_neg h0]
  by_cases h0 : b = 66
  · rw [decide_eq_true h0, cond_true, if_pos h0]
  rw [decide_eq_false h0, cond_false, if_neg h0]
  by_cases h0 : b = 67
  · rw [decide_eq_true h0, cond_true, if_pos h0]
  rw [decide_eq_false h0, cond_false, if_neg h0]
  by_cases h0 : b = 68
  · rw [decide_eq_true h0, cond_true, if_pos h0]
  rw [decide_eq_false h0, cond_false, if_neg h0]
  by_cases h0 : b = 72
  · rw [decide_eq_true h0, cond_true, if_pos h0]
  rw [decide_eq_false h0, cond_false, if_neg h0]
  by_cases h0 : b = 74
  · rw [decide_eq_true h0, cond_true, if_pos h0]
  rw [decide_eq_false h0, cond_false, if_neg h0]
  by_cases h0 : b = 75
  · rw [decide_eq_true h0, cond_true, if_pos h0]
  rw [decide_eq_false h0, cond_false, if_neg h0]

def seqD (v : Vtt) (b : Int) : Vtt :=
  let l := if v.2.2.1 = [] then [0] else v.2.2.1
  if 48 ≤ b ∧ b ≤ 57 then (v.1, v.2.1, List.set l (l.length - 1) (min (10 * at' l ((l.length : Int) - 1) + b - 48) 9999), v.2.2.2.1, v.2.2.2.2)
  else if b = 59 then (v.1, v.2.1, (if l.length < 4 then l ++ [0] else l), v.2.2.2.1, v.2.2.2.2)
  else (actD v.1 v.2.2.1 b, 0, [], v.2.2.2.1, v.2.2.2.2)

def lst0 (l : List Int) : List Int := if l = [] then [0] else l
theorem lst0_b {v : Vtt} (h : Vok v) : 1 ≤ (lst0 v.2.2.1).length ∧ (lst0 v.2.2.1).length ≤ 4 ∧ ∀ n ∈ lst0 v.2.2.1, 0 ≤ n ∧ n ≤ 9999 := by
  unfold lst0
  by_cases he : v.2.2.1 = []
  · rw [if_pos he]; exact ⟨by simp, by simp, by simp⟩
  · rw [if_neg he]
    refine ⟨?_, h.al, h.ar⟩
    cases hq : v.2.2.1 with
    | nil => exact absurd hq he
    | cons a t => simp

theorem seq_i (v : Vtt) (h : Vok v) (b : Int) (hb : 0 ≤ b ∧ b ≤ 255) : M_i_Vt_sequence v b = some (seqD v b) := by
  have hal := h.al
  obtain ⟨l1, l2, l3⟩ := lst0_b h
  have hl := l3 _ (at_mem (i := ((lst0 v.2.2.1).length : Int) - 1) (by omega) (by omega))
  unfold M_i_Vt_sequence seqD M_i_isDigit
  simp only [guardO, joinO, in_eq, bindO_ret]
  rw [control_i _ h]
  simp only [bindO_ret]
  have e0 : (if v.2.2.1 = [] then [0] else v.2.2.1) = lst0 v.2.2.1 := rfl
  rw [e0]
  have t1 : ∀ l : List Int, l = lst0 v.2.2.1 → (48 ≤ b ∧ b ≤ 57) →
      (guardO (0 ≤ (W ((l.length : Int) - 1)) ∧ (W ((l.length : Int) - 1)) < (l.length : Int)) <|
      (guardO (0 ≤ (W ((l.length : Int) - 1)) ∧ (W ((l.length : Int) - 1)) < (l.length : Int)) <|
      some ((v.1, v.2.1, (List.set l (Int.toNat (W ((l.length : Int) - 1))) (min (W ((W ((W (10 * (at' l (W ((l.length : Int) - 1))))) + b)) - 48)) 9999)), v.2.2.2.1, v.2.2.2.2) : Vtt))) = some (v.1, v.2.1, List.set (lst0 v.2.2.1) ((lst0 v.2.2.1).length - 1) (min (10 * at' (lst0 v.2.2.1) (((lst0 v.2.2.1).length : Int) - 1) + b - 48) 9999), v.2.2.2.1, v.2.2.2.2) := by
    intro l hl' hd
    subst hl'
    generalize lst0 v.2.2.1 = l at *
    have e1 : W ((l.length : Int) - 1) = (l.length : Int) - 1 := W_eq (by omega) (by omega)
    have e2 : ((l.length : Int) - 1).toNat = l.length - 1 := by omega
    rw [e1]
    generalize at' l ((l.length : Int) - 1) = x at *
    simp only [guardO]
    rw [if_pos (by omega), if_pos (by omega), W_eq (x := 10 * x) (by omega) (by omega), W_eq (x := 10 * x + b) (by omega) (by omega), W_eq (x := 10 * x + b - 48) (by omega) (by omega), e2]
  have t2 : ∀ l : List Int, l = lst0 v.2.2.1 →
      (joinO (fun (x49 : List Int) =>
      some ((v.1, v.2.1, x49, v.2.2.2.1, v.2.2.2.2) : Vtt)) fun j52 =>
      (bif (decide ((l.length : Int) < 4)) then
      (guardO (l.length + ([0] : List Int).length ≤ 536870912) <|
      j52 (l ++ ([0] : List Int)))
      else
      j52 l)) = some (v.1, v.2.1, (if (lst0 v.2.2.1).length < 4 then lst0 v.2.2.1 ++ [0] else lst0 v.2.2.1), v.2.2.2.1, v.2.2.2.2) := by
    intro l hl'
    subst hl'
    generalize lst0 v.2.2.1 = l at *
    simp only [guardO, joinO]
    by_cases h3 : l.length < 4
    · rw [decide_eq_true (show (l.length : Int) < 4 by omega), cond_true, if_pos (by simp; omega), if_pos h3]
    · rw [decide_eq_false (show ¬ (l.length : Int) < 4 by omega), cond_false, if_neg h3]
  simp only [guardO, joinO] at t1 t2
  have hcase : ([0] = lst0 v.2.2.1 ∧ (v.2.2.1.length : Int) = 0) ∨ (v.2.2.1 = lst0 v.2.2.1 ∧ ¬ (v.2.2.1.length : Int) = 0) := by
    unfold lst0
    by_cases he : v.2.2.1 = []
    · rw [if_pos he]; exact .inl ⟨rfl, by rw [he]; rfl⟩
    · rw [if_neg he]
      exact .inr ⟨rfl, fun hz => he (List.length_eq_zero_iff.1 (by omega))⟩
  by_cases hd : 48 ≤ b ∧ b ≤ 57
  · rw [decide_eq_true hd, cond_true, if_pos hd]
    rcases hcase with ⟨q1, q2⟩ | ⟨q1, q2⟩
    · rw [decide_eq_true q2, cond_true]
      exact t1 _ q1 hd
    · rw [decide_eq_false q2, cond_false]
      exact t1 _ q1 hd
  · rw [decide_eq_false hd, cond_false, if_neg hd]
    by_cases h2 : b = 59
    · rw [decide_eq_true h2, cond_true, if_pos h2]
      rcases hcase with ⟨q1, q2⟩ | ⟨q1, q2⟩
      · rw [decide_eq_true q2, cond_true]
        exact t2 _ q1
      · rw [decide_eq_false q2, cond_false]
        exact t2 _ q1
    · rw [decide_eq_false h2, cond_false, if_neg h2]
      by_cases h3 : 64 ≤ b ∧ b ≤ 126
      · rw [decide_eq_true h3, cond_true]
      · rw [decide_eq_false h3, cond_false]
        have : actD v.1 v.2.2.1 b = v.1 := by
          unfold actD
          simp only
          rw [if_neg (by omega), if_neg (by omega), if_neg (by omega), if_neg (by omega), if_neg (by omega), if_neg (by omega), if_neg (by omega)]
        rw [this]

theorem seq_ok (v : Vtt) (h : Vok v) (h2 : v.2.1 = 2) (b : Int) (hb : 0 ≤ b ∧ b ≤ 255) : Vok (seqD v b) := by
  have hp : v.2.2.2.1 = [] := by
    rcases h.pt with z | ⟨z, _⟩
    · exact z
    · omega
  obtain ⟨l1, l2, l3⟩ := lst0_b h
  have hl := l3 _ (at_mem (i := ((lst0 v.2.2.1).length : Int) - 1) (by omega) (by omega))
  unfold seqD
  have e0 : (if v.2.2.1 = [] then [0] else v.2.2.1) = lst0 v.2.2.1 := rfl
  simp only
  rw [e0]
  generalize lst0 v.2.2.1 = l at *
  split
  · refine ⟨h.g, h.st, by simp only [List.length_set]; exact l2, fun _ => h2, ?_, .inl hp, h.be⟩
    intro n hn
    rcases List.mem_or_eq_of_mem_set hn with hn | rfl
    · exact l3 n hn
    · omega
  · split
    · refine ⟨h.g, h.st, ?_, fun _ => h2, ?_, .inl hp, h.be⟩
      · simp only
        split
        · simp; omega
        · exact l2
      · simp only
        intro n hn
        split at hn
        · rcases List.mem_append.1 hn with hn | hn
          · exact l3 n hn
          · simp at hn; omega
        · exact l3 n hn
    · exact ⟨actD_ok h.g _ _, ⟨Int.le_refl 0, by simp only; omega⟩, Nat.zero_le _, fun z => absurd rfl z, fun n hn => absurd hn List.not_mem_nil, .inl hp, h.be⟩

def stepD (v : Vtt) (b : Int) : Vtt :=
  if v.2.1 = 0 then plainD v b
  else if v.2.1 = 1 then (v.1, (if b = 91 then 2 else 0), v.2.2.1, v.2.2.2.1, v.2.2.2.2)
  else seqD v b

theorem step_i (v : Vtt) (h : Vok v) (b : Int) (hb : 0 ≤ b ∧ b ≤ 255) : M_i_Vt_step v b = some (stepD v b) := by
  unfold M_i_Vt_step stepD
  rw [plain_i v h, seq_i v h b hb]
  simp only [bindO_ret, joinO]
  by_cases h0 : v.2.1 = 0
  · rw [decide_eq_true h0, cond_true, if_pos h0]
  rw [decide_eq_false h0, cond_false, if_neg h0]
  by_cases h1 : v.2.1 = 1
  · rw [decide_eq_true h1, cond_true, if_pos h1]
    by_cases h2 : b = 91
    · rw [decide_eq_true h2, cond_true, if_pos h2]
    · rw [decide_eq_false h2, cond_false, if_neg h2]
  · rw [decide_eq_false h1, cond_false, if_neg h1]

theorem step_ok (v : Vtt) (h : Vok v) (b : Int) (hb : 0 ≤ b ∧ b ≤ 255) : Vok (stepD v b) := by
  unfold stepD
  split
  · rename_i h0; exact plain_ok v h h0 b
  · split
    · rename_i h0 h1
      have ha : v.2.2.1 = [] := by
        by_cases z : v.2.2.1 = []
        · exact z
        · have := h.ae z; omega
      have hp : v.2.2.2.1 = [] := by
        rcases h.pt with z | ⟨z, _⟩
        · exact z
        · omega
      refine ⟨h.g, ?_, h.al, fun z => absurd ha z, h.ar, .inl hp, h.be⟩
      simp only
      split <;> omega
    · rename_i h0 h1
      have := h.st
      exact seq_ok v h (by omega) b hb

def v0 : Vtt := ((0, 0, [], 0, 0, false), 0, [], [], 0)

theorem args_i_loop (v : Vtt) (hl : v.2.2.1.length ≤ 100) (j : Unit → Option Bool) : ∀ (m : Nat) (k : Int), 0 ≤ k → k ≤ (v.2.2.1.length : Int) → (v.2.2.1.length : Int) - k < m →
    ((∀ n ∈ v.2.2.1.drop k.toNat, 0 ≤ n ∧ n ≤ 9999) → fixF (M_i_VtOk_L1 v j) m k = j ()) ∧ ((¬ ∀ n ∈ v.2.2.1.drop k.toNat, 0 ≤ n ∧ n ≤ 9999) → fixF (M_i_VtOk_L1 v j) m k = some false) := by
  intro m
  induction m with
  | zero => intro k _ _ h; omega
  | succ m ih =>
    intro k h0 hk hm
    simp only [fixF, M_i_VtOk_L1, guardO, in_eq, bindO_ret]
    by_cases h : k < (v.2.2.1.length : Int)
    · rw [decide_eq_true h, cond_true, if_pos ⟨h0, h⟩, W_eq (by omega) (by omega), drop_at h0 h]
      obtain ⟨i1, i2⟩ := ih (k + 1) (by omega) (by omega) (by omega)
      generalize at' v.2.2.1 k = x
      by_cases hx : 0 ≤ x ∧ x ≤ 9999
      · rw [decide_eq_true hx, Bool.not_true, cond_false]
        refine ⟨fun h => i1 fun n hn => h n (List.mem_cons_of_mem _ hn), fun h => i2 fun h' => h fun n hn => ?_⟩
        rcases List.mem_cons.1 hn with rfl | hn
        · exact hx
        · exact h' n hn
      · rw [decide_eq_false hx]
        exact ⟨fun h => absurd (h x (List.mem_cons_self ..)) hx, fun _ => rfl⟩
    · rw [decide_eq_false h, cond_false]
      have : v.2.2.1.drop k.toNat = [] := List.drop_eq_nil_of_le (by omega)
      rw [this]
      exact ⟨fun _ => rfl, fun h => absurd (fun n hn => absurd hn List.not_mem_nil) h⟩

theorem vtOk_i (v : Vtt) (hp : v.2.2.2.1.length ≤ 100000000) : (Vok v → M_i_VtOk v = some true) ∧ (¬ Vok v → M_i_VtOk v = some false) := by
  unfold M_i_VtOk
  by_cases hg : Gok v.1
  · rw [bindO_of ((gridOk_i _).1 hg), in_eq, in_eq, callO_of, Bool.not_true, if_pos rfl]
    by_cases c1 : 0 ≤ v.2.1 ∧ v.2.1 ≤ 2
    · rw [decide_eq_true c1]
      by_cases c3 : 4 < (v.2.2.1.length : Int)
      · refine ⟨fun h => absurd h.al (by omega), fun _ => by simp [c3, callO]⟩
      rw [decide_eq_false c3]
      simp only [Bool.not_true, cond_false]
      by_cases he : v.2.2.1 ≠ [] → v.2.1 = 2
      · have hc : (bif (decide (0 < (v.2.2.1.length : Int))) then (!(decide (v.2.1 = 2))) else false) = false := by
          by_cases z : 0 < (v.2.2.1.length : Int)
          · have : v.2.1 = 2 := he (by intro hz; rw [hz] at z; simp at z)
            rw [this]; simp
          · rw [decide_eq_false z, cond_false]
        rw [hc, callO_pos rfl, cond_false]
        by_cases c4 : 0 ≤ v.2.2.2.2 ∧ v.2.2.2.2 ≤ 1000000
        · rw [decide_eq_true c4, Bool.not_true, cond_false]
          simp only [joinO]
          obtain ⟨l1, l2⟩ := args_i_loop v (by omega) (fun _ => (callO ((decide (v.2.1 = 0)) = true ∧ (decide ((v.2.2.2.1.length : Int) = 0)) = false) (M_i_RuneBegin v.2.2.2.1) false fun (y57 : Bool) =>
            some (bif (decide ((v.2.2.2.1.length : Int) = 0)) then true else (bif (decide (v.2.1 = 0)) then y57 else false)))) FUEL 0 (by omega) (by omega) (by rw [fuel_eq]; omega)
          simp only [Int.toNat_zero, List.drop_zero] at l1 l2
          by_cases ha : ∀ n ∈ v.2.2.1, 0 ≤ n ∧ n ≤ 9999
          · rw [l1 ha, runeBegin_i _ hp, callO_of]
            by_cases hz : v.2.2.2.1 = []
            · have : (v.2.2.2.1.length : Int) = 0 := by rw [hz]; rfl
              rw [decide_eq_true this]
              exact ⟨fun _ => rfl, fun h => absurd ⟨hg, by omega, by omega, he, ha, .inl hz, by omega⟩ h⟩
            · have : ¬ (v.2.2.2.1.length : Int) = 0 := fun h => hz (List.length_eq_zero_iff.1 (by omega))
              rw [decide_eq_false this]
              by_cases h0 : v.2.1 = 0
              · rw [decide_eq_true h0, if_pos ⟨rfl, rfl⟩]
                simp only [cond_false, cond_true]
                cases hr : rbS v.2.2.2.1 with
                | true => exact ⟨fun _ => rfl, fun h => absurd ⟨hg, by omega, by omega, he, ha, .inr ⟨h0, hr⟩, by omega⟩ h⟩
                | false =>
                  refine ⟨fun h => ?_, fun _ => rfl⟩
                  rcases h.pt with z | ⟨_, z⟩
                  · exact absurd z hz
                  · rw [hr] at z; cases z
              · rw [decide_eq_false h0]
                refine ⟨fun h => ?_, fun _ => rfl⟩
                rcases h.pt with z | ⟨z, _⟩
                · exact absurd z hz
                · exact absurd z h0
          · rw [l2 ha]
            exact ⟨fun h => absurd h.ar ha, fun _ => rfl⟩
        · rw [decide_eq_false c4]
          exact ⟨fun h => absurd h.be c4, fun _ => rfl⟩
      · refine ⟨fun h => absurd h.ae he, fun _ => ?_⟩
        have h2 : ¬ v.2.1 = 2 := fun z => he fun _ => z
        have h1 : 0 < (v.2.2.1.length : Int) := by
          have : v.2.2.1 ≠ [] := fun z => he fun z' => absurd z z'
          have := List.length_pos_iff.2 this
          omega
        rw [decide_eq_true h1, cond_true, decide_eq_false h2, callO_neg (by simp)]
        rfl
    · refine ⟨fun h => absurd h.st c1, fun _ => ?_⟩
      rw [decide_eq_false c1]
      simp [callO]
  · rw [bindO_of ((gridOk_i _).2 hg)]
    exact ⟨fun h => absurd h.g hg, fun _ => by simp [callO]⟩

theorem vcopy_i (v : Vtt) (h : Vok v) : M_i_copyVt v = some v := by
  have hp := h.pl
  have ha := h.al
  obtain ⟨s1, s2, s3, s4, s5, s6⟩ := gsz_bounds h.g.sz
  unfold M_i_copyVt
  rw [bindO_of (gcopy_i _ (by omega)), bindO_of (copyInts_i _ (by omega)), bindO_of (copyBytes_i _ (by omega))]

def feedV (v : Vtt) (l : List UInt8) : Vtt := l.foldl (fun v b => stepD v (b.toNat : Int)) v
theorem b255 (b : UInt8) : 0 ≤ (b.toNat : Int) ∧ (b.toNat : Int) ≤ 255 := by
  have := b.toNat_lt
  omega
theorem feed_i_loop (l : List UInt8) (hl : (l.length : Int) ≤ 100000000) : ∀ (m : Nat) (k : Int) (v : Vtt), Vok v → 0 ≤ k → k ≤ (l.length : Int) → (l.length : Int) - k < m →
    fixF (M_i_VtFeed_L1 l fun (x80, x81, x82, x85, x86, x87, x88, x89, x92, x95) => some ((x80, x81, x82, x85, x86, x87), x88, x89, x92, x95)) m (k, v.1.1, v.1.2.1, v.1.2.2.1, v.1.2.2.2.1, v.1.2.2.2.2.1, v.1.2.2.2.2.2, v.2.1, v.2.2.1, v.2.2.2.1, v.2.2.2.2) = some (feedV v (l.drop k.toNat)) := by
  intro m
  induction m with
  | zero => intro k v _ _ _ h; omega
  | succ m ih =>
    intro k v hv h0 hk hm
    simp only [fixF, M_i_VtFeed_L1, guardO]
    by_cases h : k < (l.length : Int)
    · rw [decide_eq_true h, cond_true, if_pos ⟨h0, h⟩, W_eq (by omega) (by omega), drop_at h0 h]
      have e : M_i_Vt_step ((v.1.1, v.1.2.1, v.1.2.2.1, v.1.2.2.2.1, v.1.2.2.2.2.1, v.1.2.2.2.2.2), v.2.1, v.2.2.1, v.2.2.2.1, v.2.2.2.2) ((at' l k).toNat : Int) = some (stepD v ((at' l k).toNat : Int)) := step_i v hv _ (b255 _)
      rw [bindO_of e]
      exact ih (k + 1) _ (step_ok v hv _ (b255 _)) (by omega) (by omega) (by omega)
    · have : l.drop k.toNat = [] := List.drop_eq_nil_of_le (by omega)
      rw [decide_eq_false h, cond_false, this]
      rfl

open Classical in
noncomputable def feedD' (v : Vtt) (l : List UInt8) : Vtt := if Vok v then feedV v l else v0
theorem vtFeed_i (v : Vtt) (hp : v.2.2.2.1.length ≤ 100000000) (l : List UInt8) (hl : (l.length : Int) ≤ 100000000) : M_i_VtFeed v l = some (feedD' v l) := by
  unfold M_i_VtFeed feedD'
  by_cases h : Vok v
  · rw [bindO_of ((vtOk_i v hp).1 h), Bool.not_true, cond_false, bindO_of (vcopy_i v h), if_pos h]
    simp only [joinO]
    exact feed_i_loop l hl FUEL 0 v h (by omega) (by omega) (by rw [fuel_eq]; omega)
  · rw [bindO_of ((vtOk_i v hp).2 h), if_neg h]
    rfl

def CurOk (c : List UInt8 × Int × Int) : Prop := 0 ≤ c.2.1 ∧ c.2.1 ≤ (c.1.length : Int) ∧ (c.1.length : Int) ≤ 1048576

theorem and_bound (x : BitVec 64) (n : Nat) (hn : n < 2 ^ 64) : (x &&& BitVec.ofInt 64 (n : Int)).toNat ≤ n := by
  rw [BitVec.toNat_and]
  have : (BitVec.ofInt 64 (n : Int)).toNat = n := by
    rw [BitVec.toNat_ofInt]
    have h : ((n : Int) % ((2 ^ 64 : Nat) : Int)) = n := Int.emod_eq_of_lt (by omega) (by exact_mod_cast hn)
    rw [h]; rfl
  rw [this]
  exact Nat.and_le_right

theorem and255 (x : BitVec 64) : 0 ≤ W (((x &&& BitVec.ofInt 64 255).toNat : Nat) : Int) ∧ W (((x &&& BitVec.ofInt 64 255).toNat : Nat) : Int) ≤ 255 := by
  have h := and_bound x 255 (by decide)
  have h' : (x &&& BitVec.ofInt 64 255).toNat ≤ 255 := h
  rw [W_eq (by omega) (by omega)]
  omega

theorem byte_ok (c : List UInt8 × Int × Int) (hc : CurOk c) : ∃ y i h, M_s_l01Byte c = some (y, (c.1, i, h)) ∧ CurOk (c.1, i, h) ∧ 0 ≤ y ∧ y ≤ 255 := by
  obtain ⟨h1, h2, h3⟩ := hc
  unfold M_s_l01Byte
  simp only [joinO, Bool.cond_decide, guardO]
  split
  · rw [if_pos ⟨h1, by assumption⟩]
    exact ⟨_, _, _, rfl, ⟨by simp only; rw [W_eq (by omega) (by omega)]; omega, by simp only; rw [W_eq (by omega) (by omega)]; omega, h3⟩, and255 _⟩
  · exact ⟨_, _, _, rfl, ⟨h1, h2, h3⟩, and255 _⟩

theorem below_ok (c : List UInt8 × Int × Int) (hc : CurOk c) (n : Int) : ∃ y i h, M_s_l01Below c n = some (y, (c.1, i, h)) ∧ CurOk (c.1, i, h) ∧ 0 ≤ y ∧ (0 < n → y < n) ∧ (n ≤ 0 → y = 0) := by
  unfold M_s_l01Below
  simp only [Bool.cond_decide]
  split
  · exact ⟨0, c.2.1, c.2.2, rfl, hc, by omega, by omega, by omega⟩
  · split
    · obtain ⟨y, i, h, e, ho, y0, y1⟩ := byte_ok _ hc
      have e' : M_s_l01Byte (c.1, c.2.1, c.2.2) = _ := e
      rw [bindO_of e']
      simp only [guardO]
      rw [if_pos (by omega)]
      exact ⟨_, i, h, rfl, ho, Int.tmod_nonneg _ y0, fun hn => Int.tmod_lt_of_pos _ hn, by omega⟩
    · obtain ⟨ya, ia, ha, e1, o1, a0, a1⟩ := byte_ok _ hc
      obtain ⟨yb, ib, hb, e2, o2, b0, b1⟩ := byte_ok _ o1
      obtain ⟨yc, ic, hcc, e3, o3, c0, c1⟩ := byte_ok _ o2
      obtain ⟨yd, id, hd, e4, o4, d0, d1⟩ := byte_ok _ o3
      have e1' : M_s_l01Byte (c.1, c.2.1, c.2.2) = _ := e1
      rw [bindO_of e1', bindO_of e2, bindO_of e3, bindO_of e4]
      simp only [guardO]
      rw [if_pos (by omega)]
      rw [W_eq (x := ya * 16777216) (by omega) (by omega), W_eq (x := yb * 65536) (by omega) (by omega), W_eq (x := yc * 256) (by omega) (by omega), W_eq (x := ya * 16777216 + yb * 65536) (by omega) (by omega),
        W_eq (x := ya * 16777216 + yb * 65536 + yc * 256) (by omega) (by omega), W_eq (x := ya * 16777216 + yb * 65536 + yc * 256 + yd) (by omega) (by omega)]
      exact ⟨_, id, hd, rfl, o4, Int.tmod_nonneg _ (by omega), fun hn => Int.tmod_lt_of_pos _ hn, by omega⟩

theorem new_loop (l : List UInt8) (hl : (l.length : Int) ≤ 1048576) : ∀ (m : Nat) (h k : Int), 0 ≤ k → k ≤ 4000 → 4000 - k < m → ∃ v, fixF (M_s_l01New_L1 l fun x15 => some (l, 0, x15)) m (h, k) = some (l, 0, v) := by
  intro m
  induction m with
  | zero => intro h k _ _ h'; omega
  | succ m ih =>
    intro h k hk hk' hm
    simp only [fixF, M_s_l01New_L1, guardO, Bool.cond_decide]
    by_cases h1 : k < (l.length : Int)
    · by_cases h2 : k < 4000
      · simp only [h1, h2, hk, if_true, and_self, decide_true]
        rw [W_eq (x := k + 1) (by omega) (by omega)]
        exact ih _ _ (by omega) (by omega) (by omega)
      · simp only [h1, h2, if_true, decide_false, Bool.false_eq_true, if_false]
        exact ⟨h, rfl⟩
    · simp only [h1, if_false, cond_false]
      exact ⟨h, rfl⟩

theorem new_ok (l : List UInt8) (hl : (l.length : Int) ≤ 1048576) : ∃ h, M_s_l01New l = some (l, 0, h) ∧ CurOk (l, 0, h) := by
  unfold M_s_l01New
  simp only [joinO]
  obtain ⟨v, hv⟩ := new_loop l hl FUEL (W (600128 + (l.length : Int))) 0 (by omega) (by omega) (by rw [fuel_eq]; omega)
  exact ⟨v, hv, ⟨by simp, by simp, hl⟩⟩

/-- The runes that are drawn. -/
def Drawn (r : Int) : Prop := r ∈ ([97, 98, 99, 120, 49, 50, 32, 32, 46, 45, 95, 233, 4352, 20013, 128512, 47] : List Int) ∨ (33 ≤ r ∧ r ≤ 126) ∨ (160 ≤ r ∧ r ≤ 459) ∨ (19968 ≤ r ∧ r ≤ 21967)

theorem rune_ok (c : List UInt8 × Int × Int) (hc : CurOk c) : ∃ y i h, M_s_l02Rune c = some (y, (c.1, i, h)) ∧ CurOk (c.1, i, h) ∧ Drawn y := by
  unfold M_s_l02Rune
  obtain ⟨y, i, h, e, ho, y0, y1, _⟩ := below_ok _ hc 12
  have e' : M_s_l01Below (c.1, c.2.1, c.2.2) 12 = _ := e
  rw [bindO_of e']
  simp only [Bool.cond_decide]
  have two : ∀ n, 0 < n → ∃ y2 i2 h2, M_s_l01Below (c.1, i, h) n = some (y2, (c.1, i2, h2)) ∧ CurOk (c.1, i2, h2) ∧ 0 ≤ y2 ∧ y2 < n := by
    intro n hn
    obtain ⟨y2, i2, h2, e2, o2, p0, p1, _⟩ := below_ok _ ho n
    exact ⟨y2, i2, h2, e2, o2, p0, p1 hn⟩
  split
  · obtain ⟨y2, i2, h2, e2, o2, p0, p1⟩ := two 16 (by omega)
    rw [bindO_of e2]
    simp only [guardO]
    rw [if_pos ⟨p0, p1⟩]
    exact ⟨_, i2, h2, rfl, o2, .inl (List.mem_of_getElem? (at_some ⟨p0, p1⟩))⟩
  · split
    · obtain ⟨y2, i2, h2, e2, o2, p0, p1⟩ := two 94 (by omega)
      rw [bindO_of e2]
      simp only
      rw [W_eq (by omega) (by omega)]
      exact ⟨_, i2, h2, rfl, o2, .inr (.inl ⟨by omega, by omega⟩)⟩
    · split
      · obtain ⟨y2, i2, h2, e2, o2, p0, p1⟩ := two 300 (by omega)
        rw [bindO_of e2]
        simp only
        rw [W_eq (by omega) (by omega)]
        exact ⟨_, i2, h2, rfl, o2, .inr (.inr (.inl ⟨by omega, by omega⟩))⟩
      · obtain ⟨y2, i2, h2, e2, o2, p0, p1⟩ := two 2000 (by omega)
        rw [bindO_of e2]
        simp only
        rw [W_eq (by omega) (by omega)]
        exact ⟨_, i2, h2, rfl, o2, .inr (.inr (.inr ⟨by omega, by omega⟩))⟩

theorem gput_wh (g : Gd) (r : Int) : (gput g r).1 = g.1 ∧ (gput g r).2.1 = g.2.1 := by
  have h1 : ∀ n, (gnext g n).2.1 = g.2.1 := by
    intro n
    unfold gnext
    split
    · split <;> rfl
    · rfl
  unfold gput
  split
  · exact ⟨rfl, rfl⟩
  · unfold gwr
    split <;> exact ⟨gnext_w g _, h1 _⟩

def gblank (w h : Int) : Gd := (w, h, List.replicate (w * h).toNat 32, 0, 0, false)
theorem gblank_ok {w h : Int} (h1 : 2 ≤ w) (h2 : w ≤ 200) (h3 : 1 ≤ h) (h4 : h ≤ 200) (h5 : w * h ≤ 8000) : Gok (gblank w h) := by
  have h6 : 0 ≤ w * h := Int.mul_nonneg (by omega) (by omega)
  refine ⟨⟨h1, h2, h3, h4, h5, by simp only [gblank, List.length_replicate]; omega⟩, ?_, ?_⟩
  · unfold gcur gblank; simp only; exact ⟨by omega, by omega, by omega, by omega, fun h => by cases h⟩
  · intro i i0 i1
    simp only [gblank, List.length_replicate] at i1 ⊢
    unfold cOk
    rw [at_rep _ _ i i0 i1, if_neg (by decide)]
    exact .inl wd_blank

theorem new_s_loop (w h : Int) (hb : 0 ≤ w * h ∧ w * h ≤ 8000) (j : List Int → Option (Gd × Bool)) : ∀ (m : Nat) (k : Int) (l : List Int), 0 ≤ k → k ≤ w * h → l = List.replicate k.toNat 32 → w * h - k < m →
    fixF (M_s_GridNew_L1 w h j) m (k, l) = j (List.replicate (w * h).toNat 32) := by
  intro m
  induction m with
  | zero => intro k l _ _ _ hm; omega
  | succ m ih =>
    intro k l h0 hk hl hm
    simp only [fixF, M_s_GridNew_L1, guardO]
    rw [W_eq (x := w * h) (by omega) (by omega)]
    by_cases hlt : k < w * h
    · rw [decide_eq_true hlt, cond_true, if_pos (by rw [hl]; simp; omega), W_eq (by omega) (by omega)]
      refine ih (k + 1) _ (by omega) (by omega) ?_ (by omega)
      rw [hl, show (k + 1).toNat = k.toNat + 1 by omega, List.replicate_succ']
    · rw [decide_eq_false hlt, cond_false, hl, show k = w * h by omega]

theorem new_s {w h : Int} (h1 : 2 ≤ w) (h2 : w ≤ 200) (h3 : 1 ≤ h) (h4 : h ≤ 200) (h5 : w * h ≤ 8000) : M_s_GridNew w h = some (gblank w h, true) := by
  have h6 : 0 ≤ w * h := Int.mul_nonneg (by omega) (by omega)
  unfold M_s_GridNew
  rw [W_eq (x := w * h) (by omega) (by omega), decide_eq_false (show ¬ w < 2 by omega), decide_eq_false (show ¬ 200 < w by omega), decide_eq_false (show ¬ h < 1 by omega), decide_eq_false (show ¬ 200 < h by omega), decide_eq_false (show ¬ 8000 < w * h by omega)]
  simp only [cond_false, joinO]
  rw [new_s_loop w h ⟨h6, h5⟩ _ FUEL 0 [] (by omega) h6 rfl (by rw [fuel_eq]; omega)]
  rfl

theorem fill_loop (c : List UInt8 × Int × Int) : ∀ (m : Nat) (n : Int) (g : Gd) (i h : Int), CurOk (c.1, i, h) → Gok g → 0 ≤ n → n ≤ 100000 → n < m →
    ∃ g' i' h', fixF (M_s_l08Fill_L1 c fun (x86, x87, x88, x91, x92, x93, x94, x95) => some ((x86, x87, x88, x91, x92, x93), (c.1, x94, x95))) m (n, g.1, g.2.1, g.2.2.1, g.2.2.2.1, g.2.2.2.2.1, g.2.2.2.2.2, i, h) = some (g', (c.1, i', h')) ∧ CurOk (c.1, i', h') ∧ Gok g' ∧ g'.1 = g.1 ∧ g'.2.1 = g.2.1 := by
  intro m
  induction m with
  | zero => intro n g i h _ _ _ _ hm; omega
  | succ m ih =>
    intro n g i h hc hg hn hn' hm
    simp only [fixF, M_s_l08Fill_L1, joinO]
    by_cases h1 : 0 < n
    · rw [decide_eq_true h1, cond_true]
      obtain ⟨r, i2, h2, e, o2, dr⟩ := rune_ok _ hc
      have e' : M_s_l02Rune (c.1, i, h) = some (r, (c.1, i2, h2)) := e
      rw [bindO_of e']
      have ep : M_s_GridPut (g.1, g.2.1, g.2.2.1, g.2.2.2.1, g.2.2.2.2.1, g.2.2.2.2.2) r = some (gput g r) := put_s g hg r
      simp only
      rw [bindO_of ep, W_eq (x := n - 1) (by omega) (by omega)]
      have hp := gput_ok hg r
      obtain ⟨w1, w2⟩ := gput_wh g r
      obtain ⟨y3, i3, h3, e3, o3, _, _, _⟩ := below_ok _ o2 5
      have e3' : M_s_l01Below (c.1, i2, h2) 5 = some (y3, (c.1, i3, h3)) := e3
      rw [bindO_of e3']
      simp only
      by_cases hz : y3 = 0
      · rw [decide_eq_true hz, cond_true]
        obtain ⟨y4, i4, h4, e4, o4, _, _, _⟩ := below_ok _ o3 (gput g r).1
        have e4' : M_s_l01Below (c.1, i3, h3) (gput g r).1 = some (y4, (c.1, i4, h4)) := e4
        rw [bindO_of e4']
        obtain ⟨y5, i5, h5, e5, o5, _, _, _⟩ := below_ok _ o4 (gput g r).2.1
        have e5' : M_s_l01Below (c.1, i4, h4) (gput g r).2.1 = some (y5, (c.1, i5, h5)) := e5
        simp only
        rw [bindO_of e5']
        simp only
        rw [bindO_of (go_s _ hp _ _)]
        obtain ⟨g', i', h', r1, r2, r3, r4, r5⟩ := ih (n - 1) (ggo (gput g r) y4 y5) i5 h5 o5 (ggo_ok hp _ _) (by omega) (by omega) (by omega)
        exact ⟨g', i', h', r1, r2, r3, r4.trans w1, r5.trans w2⟩
      · rw [decide_eq_false hz, cond_false]
        obtain ⟨g', i', h', r1, r2, r3, r4, r5⟩ := ih (n - 1) (gput g r) i3 h3 o3 hp (by omega) (by omega) (by omega)
        exact ⟨g', i', h', r1, r2, r3, r4.trans w1, r5.trans w2⟩
    · rw [decide_eq_false h1, cond_false]
      exact ⟨g, i, h, rfl, hc, hg, rfl, rfl⟩

theorem fill_ok (c : List UInt8 × Int × Int) (hc : CurOk c) (g : Gd) (hg : Gok g) (most : Int) (hm : 0 ≤ most) (hm' : most ≤ 1000) :
    ∃ g' i h, M_s_l08Fill c g most = some (g', (c.1, i, h)) ∧ CurOk (c.1, i, h) ∧ Gok g' ∧ g'.1 = g.1 ∧ g'.2.1 = g.2.1 := by
  unfold M_s_l08Fill
  rw [W_eq (by omega) (by omega)]
  obtain ⟨y, i, h, e, ho, y0, y1, _⟩ := below_ok _ hc (most + 1)
  have e' : M_s_l01Below c (most + 1) = _ := e
  rw [bindO_of e']
  simp only [joinO]
  have := y1 (by omega)
  exact fill_loop c FUEL y g i h ho hg y0 (by omega) (by rw [fuel_eq]; omega)

theorem sameInts_i (l : List Int) (hl : (l.length : Int) ≤ 100000000) : M_i_sameInts l l = some true := by
  have loop : ∀ (m : Nat) (k : Int), 0 ≤ k → k ≤ (l.length : Int) → (l.length : Int) - k < m → fixF (M_i_sameInts_L1 l l fun _ => some true) m k = some true := by
    intro m
    induction m with
    | zero => intro k _ _ h; omega
    | succ m ih =>
      intro k h0 hk hm
      simp only [fixF, M_i_sameInts_L1, guardO]
      by_cases h : k < (l.length : Int)
      · rw [decide_eq_true h, cond_true, if_pos ⟨h0, h⟩, if_pos ⟨h0, h⟩, decide_true, Bool.not_true, cond_false, W_eq (by omega) (by omega)]
        exact ih _ (by omega) (by omega) (by omega)
      · rw [decide_eq_false h, cond_false]
  unfold M_i_sameInts
  rw [decide_eq_true rfl, Bool.not_true, cond_false]
  exact loop FUEL 0 (by omega) (by omega) (by rw [fuel_eq]; omega)
theorem sameGrid_i (g : Gd) (h : (g.2.2.1.length : Int) ≤ 100000000) : M_i_SameGrid g g = some true := by
  unfold M_i_SameGrid
  rw [sameInts_i _ h, callO_pos (by simp)]
  simp

theorem bind_ex {α β : Type} {m : Option α} {k : α → Option β} {P : α → Prop} {Q : β → Prop} (h : ∃ x, m = some x ∧ P x) (hk : ∀ x, P x → ∃ y, k x = some y ∧ Q y) : ∃ y, bindO m k = some y ∧ Q y := by
  obtain ⟨x, e, p⟩ := h
  obtain ⟨y, e2, q⟩ := hk x p
  exact ⟨y, (bindO_of e).trans e2, q⟩
theorem join_ex {α β : Type} {J : α → Option β} {m : (α → Option β) → Option β} (P : α → Prop) {Q : β → Prop} (hJ : ∀ z, P z → ∃ y, J z = some y ∧ Q y) (hm : ∀ j : α → Option β, (∀ z, P z → ∃ y, j z = some y ∧ Q y) → ∃ y, m j = some y ∧ Q y) : ∃ y, joinO J m = some y ∧ Q y := hm J hJ
theorem bif_ex {β : Type} {c : Bool} {a b : Option β} {Q : β → Prop} (ha : c = true → ∃ y, a = some y ∧ Q y) (hb : c = false → ∃ y, b = some y ∧ Q y) : ∃ y, (bif c then a else b) = some y ∧ Q y := by
  cases c
  · exact hb rfl
  · exact ha rfl

def numT (n : Int) : List UInt8 := if n = 10 then [49, 48] else [UInt8.ofNat (48 + n.toNat)]
theorem ten {n : Int} (h : 1 ≤ n ∧ n ≤ 10) : n = 1 ∨ n = 2 ∨ n = 3 ∨ n = 4 ∨ n = 5 ∨ n = 6 ∨ n = 7 ∨ n = 8 ∨ n = 9 ∨ n = 10 := by omega
theorem numT_len {n : Int} (h : 1 ≤ n ∧ n ≤ 10) : (numT n).length ≤ 2 := by
  unfold numT; split <;> simp
set_option maxRecDepth 100000 in
theorem small_i {n : Int} (h : 1 ≤ n ∧ n ≤ 10) : M_internal_strconv_small n = some (numT n) := by
  unfold M_internal_strconv_small guardO
  rw [W_eq (x := n + 1) (by omega) (by omega), W_eq (x := n * 2) (by omega) (by omega), W_eq (x := n * 2 + 2) (by omega) (by omega)]
  rcases ten h with rfl | rfl | rfl | rfl | rfl | rfl | rfl | rfl | rfl | rfl <;> rfl
theorem num_i {n : Int} (h : 1 ≤ n ∧ n ≤ 10) : M_i_NumText n = some (numT n) := by
  unfold M_i_NumText M_i_isNumber M_i_in M_strconv_Itoa M_internal_strconv_Itoa M_internal_strconv_FormatInt
  rw [decide_eq_true (show 0 ≤ n by omega), decide_eq_true (show n ≤ 4294967295 by omega), decide_eq_true (show n < 100 by omega), decide_eq_true (rfl : (10 : Int) = 10), small_i h]
  rfl
theorem num1 (g : Gd) (b : Int) {n : Int} (h : 1 ≤ n ∧ n ≤ 10) : feedV (g, 2, [], [], b) (numT n) = (g, 2, [n], [], b) := by
  rcases ten h with rfl | rfl | rfl | rfl | rfl | rfl | rfl | rfl | rfl | rfl <;> rfl
theorem num2 (g : Gd) (b m : Int) {n : Int} (h : 1 ≤ n ∧ n ≤ 10) : feedV (g, 2, [m, 0], [], b) (numT n) = (g, 2, [m, n], [], b) := by
  rcases ten h with rfl | rfl | rfl | rfl | rfl | rfl | rfl | rfl | rfl | rfl <;> rfl
theorem feed_app (v : Vtt) (a b : List UInt8) : feedV v (a ++ b) = feedV (feedV v a) b := by
  unfold feedV; rw [List.foldl_append]
def farT (x y : Int) : List UInt8 := [27, 91] ++ (((numT (y + 1) ++ [59]) ++ numT (x + 1)) ++ [72])
def stepT (n : Int) (c : UInt8) : List UInt8 := [27, 91] ++ (numT n ++ [c])
theorem ggo_ggo (g : Gd) (a b c d : Int) : ggo (ggo g a b) c d = ggo g c d := rfl

/-- Bytes that go there, and are not too many. -/
def GoodT (g : Gd) (x y : Int) (d : List UInt8) : Prop := feedV (g, 0, [], [], 0) d = (ggo g x y, 0, [], [], 0) ∧ d.length ≤ (farT x y).length

theorem far_feed (g : Gd) (x y : Int) (hx : 0 ≤ x ∧ x < g.1) (hy : 0 ≤ y ∧ y < g.2.1) (hw : g.1 ≤ 10 ∧ g.2.1 ≤ 4) : feedV (g, 0, [], [], 0) (farT x y) = (ggo g x y, 0, [], [], 0) := by
  unfold farT
  rw [feed_app, feed_app, feed_app, feed_app]
  have e0 : feedV (g, 0, [], [], 0) [27, 91] = (g, 2, [], [], 0) := rfl
  have hy1 : 1 ≤ y + 1 ∧ y + 1 ≤ 10 := by omega
  have hx1 : 1 ≤ x + 1 ∧ x + 1 ≤ 10 := by omega
  rw [e0, num1 g 0 hy1]
  have e1 : feedV (g, 2, [y + 1], [], 0) [59] = (g, 2, [y + 1, 0], [], 0) := rfl
  rw [e1, num2 g 0 _ hx1]
  have e2 : feedV (g, 2, [y + 1, x + 1], [], 0) [72] = (actD g [y + 1, x + 1] 72, 0, [], [], 0) := rfl
  have e3 : actD g [y + 1, x + 1] 72 = ggo g (argD [y + 1, x + 1] 1 1 - 1) (argD [y + 1, x + 1] 0 1 - 1) := rfl
  have a0 : argD [y + 1, x + 1] 0 1 = y + 1 := by
    unfold argD
    rw [if_neg (by simp), if_neg (by show ¬ y + 1 = 0; omega)]; rfl
  have a1 : argD [y + 1, x + 1] 1 1 = x + 1 := by
    unfold argD
    rw [if_neg (by simp), if_neg (by show ¬ x + 1 = 0; omega)]; rfl
  rw [e2, e3, a0, a1, show x + 1 - 1 = x by omega, show y + 1 - 1 = y by omega]
theorem back_feed (g : Gd) (x y : Int) (n : Int) (hn : 1 ≤ n ∧ n ≤ 10) (e : n = g.2.2.2.1 - x) (ey : y = g.2.2.2.2.1) : feedV (g, 0, [], [], 0) (stepT n 68) = (ggo g x y, 0, [], [], 0) := by
  unfold stepT
  rw [feed_app, feed_app]
  have e0 : feedV (g, 0, [], [], 0) [27, 91] = (g, 2, [], [], 0) := rfl
  rw [e0, num1 g 0 hn]
  have e2 : feedV (g, 2, [n], [], 0) [68] = (ggo g (g.2.2.2.1 - argD [n] 0 1) g.2.2.2.2.1, 0, [], [], 0) := rfl
  have a0 : argD [n] 0 1 = n := by
    unfold argD
    rw [if_neg (by simp), if_neg (by show ¬ n = 0; omega)]; rfl
  rw [e2, a0, ← ey, show g.2.2.2.1 - n = x by omega]
theorem on_feed (g : Gd) (x y : Int) (n : Int) (hn : 1 ≤ n ∧ n ≤ 10) (e : n = x - g.2.2.2.1) (ey : y = g.2.2.2.2.1) : feedV (g, 0, [], [], 0) (stepT n 67) = (ggo g x y, 0, [], [], 0) := by
  unfold stepT
  rw [feed_app, feed_app]
  have e0 : feedV (g, 0, [], [], 0) [27, 91] = (g, 2, [], [], 0) := rfl
  rw [e0, num1 g 0 hn]
  have e2 : feedV (g, 2, [n], [], 0) [67] = (ggo g (g.2.2.2.1 + argD [n] 0 1) g.2.2.2.2.1, 0, [], [], 0) := rfl
  have a0 : argD [n] 0 1 = n := by
    unfold argD
    rw [if_neg (by simp), if_neg (by show ¬ n = 0; omega)]; rfl
  rw [e2, a0, ← ey, show g.2.2.2.1 + n = x by omega]
theorem bs_feed (g : Gd) (hg : Gok g) (x y : Int) (hx : 0 ≤ x ∧ x < g.1) (n : Int) (hn : 1 ≤ n ∧ n ≤ 3) (e : n = g.2.2.2.1 - x) (ey : y = g.2.2.2.2.1) : feedV (g, 0, [], [], 0) (sub' ([8, 8, 8] : List UInt8) 0 n) = (ggo g x y, 0, [], [], 0) := by
  have one : ∀ h : Gd, feedV (h, 0, [], [], 0) [8] = (ggo h (h.2.2.2.1 - 1) h.2.2.2.2.1, 0, [], [], 0) := fun _ => rfl
  obtain ⟨s1, s2, s3, s4, s5, s6⟩ := gsz_bounds hg.sz
  obtain ⟨c1, c2, c3, c4, _⟩ := hg.cur
  have hc : ∀ k : Int, 0 ≤ k → k < g.1 → (ggo g k g.2.2.2.2.1).2.2.2.1 = k ∧ (ggo g k g.2.2.2.2.1).2.2.2.2.1 = g.2.2.2.2.1 := by
    intro k h0 h1
    constructor
    · show max 0 (min k (g.1 - 1)) = k; omega
    · show max 0 (min g.2.2.2.2.1 (g.2.1 - 1)) = g.2.2.2.2.1; omega
  have three : n = 1 ∨ n = 2 ∨ n = 3 := by omega
  rcases three with rfl | rfl | rfl
  · rw [show sub' ([8, 8, 8] : List UInt8) 0 1 = [8] from rfl, one, ← ey, show g.2.2.2.1 - 1 = x by omega]
  · rw [show sub' ([8, 8, 8] : List UInt8) 0 2 = [8] ++ [8] from rfl, feed_app, one, one]
    obtain ⟨q1, q2⟩ := hc (g.2.2.2.1 - 1) (by omega) (by omega)
    rw [q1, q2, ggo_ggo, ← ey, show g.2.2.2.1 - 1 - 1 = x by omega]
  · rw [show sub' ([8, 8, 8] : List UInt8) 0 3 = [8] ++ ([8] ++ [8]) from rfl, feed_app, feed_app, one, one]
    obtain ⟨q1, q2⟩ := hc (g.2.2.2.1 - 1) (by omega) (by omega)
    rw [q1, q2, ggo_ggo, one]
    obtain ⟨q3, q4⟩ := hc (g.2.2.2.1 - 1 - 1) (by omega) (by omega)
    rw [q3, q4, ggo_ggo, ← ey, show g.2.2.2.1 - 1 - 1 - 1 = x by omega]
theorem cr_feed (g : Gd) (x y : Int) (ex : x = 0) (ey : y = g.2.2.2.2.1) : feedV (g, 0, [], [], 0) [13] = (ggo g x y, 0, [], [], 0) := by
  have e : feedV (g, 0, [], [], 0) [13] = (ggo g 0 g.2.2.2.2.1, 0, [], [], 0) := rfl
  rw [e, ex, ey]

set_option maxRecDepth 100000 in
theorem goto_i (g : Gd) (x y : Int) (hx : 0 ≤ x ∧ x < g.1) (hy : 0 ≤ y ∧ y < g.2.1) (hw : g.1 ≤ 10 ∧ g.2.1 ≤ 4) : M_i_EmitGoto x y = some (farT x y) := by
  have hy1 : 1 ≤ y + 1 ∧ y + 1 ≤ 10 := by omega
  have hx1 : 1 ≤ x + 1 ∧ x + 1 ≤ 10 := by omega
  have l1 := numT_len hy1
  have l2 := numT_len hx1
  have i1 : M_i_in x 0 199 = some true := by unfold M_i_in; rw [decide_eq_true (show 0 ≤ x by omega), decide_eq_true (show x ≤ 199 by omega)]; rfl
  have i2 : M_i_in y 0 199 = some true := by unfold M_i_in; rw [decide_eq_true (show 0 ≤ y by omega), decide_eq_true (show y ≤ 199 by omega)]; rfl
  unfold M_i_EmitGoto
  rw [bindO_of i1, i2, callO_pos (show (!true) = false from rfl), W_eq (x := y + 1) (by omega) (by omega), W_eq (x := x + 1) (by omega) (by omega), num_i hy1, num_i hx1]
  rw [show (bif !true then true else !true) = false from rfl, cond_false, bindO_ret]
  unfold guardO
  rw [if_pos (by simp only [List.length_cons, List.length_nil]; omega), bindO_ret, if_pos (by simp only [List.length_append, List.length_cons, List.length_nil]; omega), if_pos (by simp only [List.length_append, List.length_cons, List.length_nil]; omega)]
  unfold M_i_escape guardO
  rw [if_pos (by simp only [List.length_append, List.length_cons, List.length_nil]; omega)]
  rfl
theorem try_ex (g : Gd) (x y : Int) (b best : List UInt8) (hb : feedV (g, 0, [], [], 0) b = (ggo g x y, 0, [], [], 0)) (h : GoodT g x y best) : ∃ d, M_i_emitStep1 b best = some d ∧ GoodT g x y d := by
  unfold M_i_emitStep1
  by_cases c : (b.length : Int) ≤ (best.length : Int)
  · rw [decide_eq_true c]
    exact ⟨b, rfl, hb, by have := h.2; omega⟩
  · rw [decide_eq_false c]
    exact ⟨best, rfl, h⟩
theorem esc_i (n : Int) (hn : 1 ≤ n ∧ n ≤ 10) (c : UInt8) : M_i_escape (numT n ++ [c]) = some (stepT n c) := by
  have := numT_len hn
  unfold M_i_escape guardO
  rw [if_pos (by simp only [List.length_append, List.length_cons, List.length_nil]; omega)]
  rfl
theorem emit_ex (g : Gd) (hg : Gok g) (x y : Int) (hx : 0 ≤ x ∧ x < g.1) (hy : 0 ≤ y ∧ y < g.2.1) (hw : g.1 ≤ 10 ∧ g.2.1 ≤ 4) : ∃ d, M_i_emitStep g x y = some d ∧ GoodT g x y d := by
  obtain ⟨c1, c2, c3, c4, _⟩ := hg.cur
  have hfar := far_feed g x y hx hy hw
  unfold M_i_emitStep
  refine bif_ex (fun h => ?_) fun _ => ?_
  · by_cases q1 : x = g.2.2.2.1
    · by_cases q2 : y = g.2.2.2.2.1
      · rw [decide_eq_true q1, decide_eq_true q2] at h
        refine ⟨[], rfl, ?_, Nat.zero_le _⟩
        obtain ⟨w, hh, cs, gx, gy, wr⟩ := g
        simp only at q1 q2 h c1 c2 c3 c4
        subst q1 q2
        have : wr = false := by cases wr; rfl; cases h
        subst this
        show ((w, hh, cs, x, y, false), 0, [], [], 0) = (ggo (w, hh, cs, x, y, false) x y, 0, [], [], 0)
        have : ggo (w, hh, cs, x, y, false) x y = (w, hh, cs, x, y, false) := by
          show (w, hh, cs, max 0 (min x (w - 1)), max 0 (min y (hh - 1)), false) = _
          rw [show max 0 (min x (w - 1)) = x by omega, show max 0 (min y (hh - 1)) = y by omega]
        rw [this]
      · rw [decide_eq_true q1, decide_eq_false q2] at h; cases h
    · rw [decide_eq_false q1] at h; cases h
  refine bind_ex (P := fun d => GoodT g x y d) ⟨_, goto_i g x y hx hy hw, hfar, Nat.le_refl _⟩ fun d0 g0 => ?_
  rw [W_eq (x := g.2.2.2.1 - x) (by omega) (by omega), W_eq (x := x - g.2.2.2.1) (by omega) (by omega)]
  have htry := try_ex g x y
  refine join_ex (fun d => GoodT g x y d) (fun d1 g1 => ?_) fun j hj => ?_
  · refine join_ex (fun d => GoodT g x y d) (fun d2 g2 => ?_) fun j hj => ?_
    · refine join_ex (fun d => GoodT g x y d) (fun d3 g3 => ?_) fun j hj => ?_
      · refine join_ex (fun d => GoodT g x y d) (fun d4 g4 => ⟨_, rfl, g4⟩) fun j hj => ?_
        refine bif_ex (fun h => ?_) fun _ => hj _ g3
        by_cases q1 : x = 0
        · by_cases q2 : y = g.2.2.2.2.1
          · exact bind_ex (htry _ _ (cr_feed g x y q1 q2) g3) hj
          · rw [decide_eq_true q1, decide_eq_false q2] at h; cases h
        · rw [decide_eq_false q1] at h; cases h
      · have hin : M_i_in (g.2.2.2.1 - x) 1 3 = some (decide (1 ≤ g.2.2.2.1 - x ∧ g.2.2.2.1 - x ≤ 3)) := by
          unfold M_i_in
          by_cases a : 1 ≤ g.2.2.2.1 - x <;> by_cases b : g.2.2.2.1 - x ≤ 3 <;> simp [a, b]
        rw [hin, callO_of]
        by_cases q2 : y = g.2.2.2.2.1
        · cases wr : g.2.2.2.2.2
          · rw [decide_eq_true q2]
            simp only [cond_true, Bool.not_false, if_true]
            refine bif_ex (fun h => ?_) fun _ => hj _ g2
            have hn := of_decide_eq_true h
            simp only [guardO]
            rw [if_pos (by simp only [List.length_cons, List.length_nil]; omega)]
            exact bind_ex (htry _ _ (bs_feed g hg x y hx _ hn rfl q2) g2) hj
          · rw [decide_eq_true q2]
            exact hj _ g2
        · rw [decide_eq_false q2]
          exact hj _ g2
    · by_cases q2 : y = g.2.2.2.2.1
      · cases wr : g.2.2.2.2.2
        · rw [decide_eq_true q2]
          simp only [cond_true, Bool.not_false]
          refine bif_ex (fun h => ?_) fun _ => hj _ g1
          have hn := of_decide_eq_true h
          have hn' : 1 ≤ x - g.2.2.2.1 ∧ x - g.2.2.2.1 ≤ 10 := by omega
          have hl := numT_len hn'
          rw [bindO_of (num_i hn')]
          simp only [guardO]
          rw [if_pos (by simp only [List.length_cons, List.length_nil]; omega), bindO_of (esc_i _ hn' 67)]
          exact bind_ex (htry _ _ (on_feed g x y _ hn' rfl q2) g1) hj
        · rw [decide_eq_true q2]
          exact hj _ g1
      · rw [decide_eq_false q2]
        exact hj _ g1
  · by_cases q2 : y = g.2.2.2.2.1
    · cases wr : g.2.2.2.2.2
      · rw [decide_eq_true q2]
        simp only [cond_true, Bool.not_false]
        refine bif_ex (fun h => ?_) fun _ => hj _ g0
        have hn := of_decide_eq_true h
        have hn' : 1 ≤ g.2.2.2.1 - x ∧ g.2.2.2.1 - x ≤ 10 := by omega
        have hl := numT_len hn'
        rw [bindO_of (num_i hn')]
        simp only [guardO]
        rw [if_pos (by simp only [List.length_cons, List.length_nil]; omega), bindO_of (esc_i _ hn' 68)]
        exact bind_ex (htry _ _ (back_feed g x y _ hn' rfl q2) g0) hj
      · rw [decide_eq_true q2]
        exact hj _ g0
    · rw [decide_eq_false q2]
      exact hj _ g0
theorem emitStep_ex (g : Gd) (hg : Gok g) (x y : Int) (hx : 0 ≤ x ∧ x < g.1) (hy : 0 ≤ y ∧ y < g.2.1) (hw : g.1 ≤ 10 ∧ g.2.1 ≤ 4) : ∃ d, M_i_EmitStep g x y = some (d, true) ∧ GoodT g x y d := by
  obtain ⟨d, e, gd⟩ := emit_ex g hg x y hx hy hw
  obtain ⟨s1, s2, s3, s4, s5, s6⟩ := gsz_bounds hg.sz
  refine ⟨d, ?_, gd⟩
  have i1 : M_i_in x 0 (g.1 - 1) = some true := by unfold M_i_in; rw [decide_eq_true (show 0 ≤ x by omega), decide_eq_true (show x ≤ g.1 - 1 by omega)]; rfl
  have i2 : M_i_in y 0 (g.2.1 - 1) = some true := by unfold M_i_in; rw [decide_eq_true (show 0 ≤ y by omega), decide_eq_true (show y ≤ g.2.1 - 1 by omega)]; rfl
  unfold M_i_EmitStep
  rw [bindO_of ((gridOk_i g).1 hg), W_eq (x := g.1 - 1) (by omega) (by omega), W_eq (x := g.2.1 - 1) (by omega) (by omega), i1, callO_pos (show (!true) = false from rfl), i2, callO_pos (show (bif !true then true else !true) = false from rfl)]
  exact (bindO_of e)

theorem sized_dim (c : List UInt8 × Int × Int) (hc : CurOk c) : ∃ g i h, M_s_l08Sized c = some (g, (c.1, i, h)) ∧ CurOk (c.1, i, h) ∧ Gok g ∧ g.1 ≤ 10 ∧ g.2.1 ≤ 4 := by
  unfold M_s_l08Sized
  obtain ⟨y, i, h, e, ho, y0, y1, _⟩ := below_ok _ hc 9
  have e' : M_s_l01Below c 9 = _ := e
  rw [bindO_of e']
  obtain ⟨y2, i2, h2, e2, ho2, y20, y21, _⟩ := below_ok _ ho 4
  have e2' : M_s_l01Below (c.1, i, h) 4 = _ := e2
  have := y1 (by omega)
  have := y21 (by omega)
  simp only
  rw [bindO_of e2', W_eq (x := 2 + y) (by omega) (by omega), W_eq (x := 1 + y2) (by omega) (by omega)]
  have hb : (2 + y) * (1 + y2) ≤ 10 * (1 + y2) := Int.mul_le_mul_of_nonneg_right (by omega) (by omega)
  rw [bindO_of (new_s (by omega) (by omega) (by omega) (by omega) (by omega))]
  exact ⟨_, i2, h2, rfl, ho2, gblank_ok (by omega) (by omega) (by omega) (by omega) (by omega), by show 2 + y ≤ 10; omega, by show 1 + y2 ≤ 4; omega⟩
theorem gdraw_dim (c : List UInt8 × Int × Int) (hc : CurOk c) : ∃ g i h, M_s_l08Draw c = some (g, (c.1, i, h)) ∧ CurOk (c.1, i, h) ∧ Gok g ∧ g.1 ≤ 10 ∧ g.2.1 ≤ 4 := by
  unfold M_s_l08Draw
  obtain ⟨g, i, h, e, ho, hg, d1, d2⟩ := sized_dim c hc
  rw [bindO_of e]
  obtain ⟨g', i', h', e', ho', hg', q1, q2⟩ := fill_ok _ ho g hg 24 (by omega) (by omega)
  have e'' : M_s_l08Fill (c.1, i, h) g 24 = _ := e'
  simp only
  rw [bindO_of e'']
  exact ⟨g', i', h', rfl, ho', hg', by rw [q1]; exact d1, by rw [q2]; exact d2⟩
theorem grids_dim (l : List UInt8) (hl : (l.length : Int) ≤ 1048576) : ∃ z, M_s_MakeGrids l = some z ∧ (Gok z.1 ∧ Gok z.2 ∧ z.2.1 = z.1.1 ∧ z.2.2.1 = z.1.2.1 ∧ z.1.1 ≤ 10 ∧ z.1.2.1 ≤ 4) := by
  unfold M_s_MakeGrids
  obtain ⟨h0, e0, o0⟩ := new_ok l hl
  rw [bindO_of e0]
  obtain ⟨a, i, h, e, ho, ha, d1, d2⟩ := gdraw_dim _ o0
  have e' : M_s_l08Draw (l, 0, h0) = some (a, (l, i, h)) := e
  simp only
  rw [bindO_of e']
  obtain ⟨s1, s2, s3, s4, s5, s6⟩ := gsz_bounds ha.sz
  simp only
  rw [bindO_of (gcopy_s a (by omega))]
  refine join_ex (fun z => CurOk (l, z.2.2.2.2.2.2.1, z.2.2.2.2.2.2.2) ∧ Gok (z.1, z.2.1, z.2.2.1, z.2.2.2.1, z.2.2.2.2.1, z.2.2.2.2.2.1) ∧ z.1 = a.1 ∧ z.2.1 = a.2.1) ?_ ?_
  · rintro ⟨w, hh, cs, gx, gy, wr, i3, h3⟩ ⟨hc, hg, q1, q2⟩
    obtain ⟨g', i', h', f1, f2, f3, f4, f5⟩ := fill_ok _ hc (w, hh, cs, gx, gy, wr) hg 12 (by omega) (by omega)
    have f1' : M_s_l08Fill (l, i3, h3) (w, hh, cs, gx, gy, wr) 12 = some (g', (l, i', h')) := f1
    simp only
    rw [bindO_of f1']
    obtain ⟨y4, i4, h4, e4, o4, _, _, _⟩ := below_ok _ f2 g'.1
    have e4' : M_s_l01Below (l, i', h') g'.1 = some (y4, (l, i4, h4)) := e4
    simp only
    rw [bindO_of e4']
    obtain ⟨y5, i5, h5, e5, o5, _, _, _⟩ := below_ok _ o4 g'.2.1
    have e5' : M_s_l01Below (l, i4, h4) g'.2.1 = some (y5, (l, i5, h5)) := e5
    simp only
    rw [bindO_of e5']
    simp only
    rw [bindO_of (go_s _ f3 _ _)]
    exact ⟨_, rfl, ha, ggo_ok f3 _ _, f4.trans q1, f5.trans q2, d1, d2⟩
  · intro j hj
    obtain ⟨y2, i2, h2, e2, o2, _, _, _⟩ := below_ok _ ho 3
    have e2' : M_s_l01Below (l, i, h) 3 = some (y2, (l, i2, h2)) := e2
    rw [bindO_of e2']
    simp only
    refine bif_ex (fun _ => ?_) fun _ => ?_
    · have hm : a.1 * a.2.1 ≤ 8000 := by rw [← s6]; exact s5
      rw [bindO_of (new_s s1 s2 s3 s4 hm)]
      exact hj _ ⟨o2, gblank_ok s1 s2 s3 s4 hm, rfl, rfl⟩
    · exact hj _ ⟨o2, ha, rfl, rfl⟩

theorem law_FnStep (code : List UInt8) : M_l_FnStep code = some true := by
  unfold M_l_FnStep
  by_cases hl : 1048576 < (code.length : Int)
  · rw [decide_eq_true hl]; rfl
  rw [decide_eq_false hl, cond_false]
  obtain ⟨⟨a, b⟩, e, ha, hb, w1, w2, d1, d2⟩ := grids_dim code (by omega)
  rw [bindO_of e]
  simp only at ha hb w1 w2 d1 d2 ⊢
  obtain ⟨c1, c2, c3, c4, _⟩ := hb.cur
  obtain ⟨s1, s2, s3, s4, s5, s6⟩ := gsz_bounds ha.sz
  have hx : 0 ≤ b.2.2.2.1 ∧ b.2.2.2.1 < a.1 := by omega
  have hy : 0 ≤ b.2.2.2.2.1 ∧ b.2.2.2.2.1 < a.2.1 := by omega
  obtain ⟨d, ed, gd, gl⟩ := emitStep_ex a ha b.2.2.2.1 b.2.2.2.2.1 hx hy ⟨d1, d2⟩
  have hv : Vok (a, 0, [], [], 0) := ⟨ha, by simp, by simp, fun q => absurd rfl q, by simp, .inl rfl, by simp⟩
  have hfl : (farT b.2.2.2.1 b.2.2.2.2.1).length ≤ 8 := by
    have l1 := numT_len (n := b.2.2.2.2.1 + 1) (by omega)
    have l2 := numT_len (n := b.2.2.2.1 + 1) (by omega)
    unfold farT
    simp only [List.length_append, List.length_cons, List.length_nil]
    omega
  have feed : ∀ l : List UInt8, (l.length : Int) ≤ 40 → M_i_VtFeed (a, 0, [], [], 0) l = some (feedV (a, 0, [], [], 0) l) := by
    intro l hl
    rw [vtFeed_i _ (by simp) l (by omega)]
    unfold feedD'
    rw [if_pos hv]
  rw [bindO_of ed]
  simp only
  rw [bindO_of (feed d (by omega)), bindO_of (goto_i a b.2.2.2.1 b.2.2.2.2.1 hx hy ⟨d1, d2⟩), bindO_of (feed _ (by omega)), bindO_of (go_s a ha _ _), gd, far_feed a b.2.2.2.1 b.2.2.2.2.1 hx hy ⟨d1, d2⟩]
  have es := sameGrid_i (ggo a b.2.2.2.1 b.2.2.2.2.1) (by show (a.2.2.1.length : Int) ≤ 100000000; omega)
  simp only
  rw [show (bif true then decide ((d.length : Int) ≤ ((farT b.2.2.2.1 b.2.2.2.2.1).length : Int)) else false) = true by simp; omega, es, callO_pos rfl]
  simp only [cond_true]
  exact callO_pos trivial

end Go.Eng

namespace Go.Proofs.YtokbomfmkllghaaDoor.fnStep
open Go.ChangeShapes Go.WideShapes Go.ChangeAt Go.RowKit Go.Eng
open Go.ChangeMaps (open_string shut_string)

theorem own : ownKnob Tryd.prog.godebug = none := by kernel_rfl
theorem laidOut : laidOutB Tryd.prog = true := by kernel_rfl

theorem walk (a0 : Option Addr) (len0 cap0 : Nat) (z0 : List Int) (w : World) (w0 : IsRow .u8 w a0 len0 cap0 z0) :
    Calls Tryd.prog 3 #[.slice a0 len0 cap0] w fun e w' => e = .returned (.bool true) ∧ Below w.heap.size w w' := by
  obtain ⟨l0, f0⟩ := w0.byteFact
  have h := ok_l_FnStep (bytesOf (z0.take len0)) a0 cap0 len0 l0 true (law_FnStep (bytesOf (z0.take len0)) )
  refine Calls.mono (h.calls w ?_) ?_
  · intro x hx
    rcases List.mem_cons.1 hx with rfl | hx
    · exact ⟨_, f0.choose_spec⟩
    cases hx
  · rintro e w' ⟨r, -, he, hk, -⟩
    exact ⟨he, hk.below⟩

def laid : List (String × DataW Unit) := [("math/bits.deBruijn32tab", Rows.laid_math_bits_deBruijn32tab), ("math/bits.deBruijn64tab", Rows.laid_math_bits_deBruijn64tab), ("internal/strconv.uint64pow10", Rows.laid_internal_strconv_uint64pow10)]

set_option maxRecDepth 100000 in
theorem lifted (os : Os) (started : os.Started) (H : Type) (enc : TypeId × Value → H) :
    ReturnsInHanded {} Tryd.checked os 3 .any (fun w args => (Rows.fnStepSpec.pre enc Tryd.prog Tryd.f3 [] false w args ∧ laidMetH Tryd.prog laid w) ∧ sizedMet enc Tryd.prog Tryd.f3 (OpenSpec.ofChange Rows.fnStepSpec) false w args) (Rows.fnStepSpec.post enc Tryd.prog Tryd.f3 false true false false) := by
  refine returnsInHanded_of_change_and (C := Tryd.checked) (X := fun w _ => laidMetH Tryd.prog laid w) (fun _ _ _ hh h => h.of_heap hh) own started (by kernel_rfl) Tryd.func3
    (ChangeSpec.witness_shaped (enc := enc) (C := Tryd.checked) (os := os) (X := fun w _ => laidMetH Tryd.prog laid w) false (World.laidAll Tryd.prog os laid) #[.slice none 0 0] 8 (World.laidAll_os _ _ _)
      (World.shaped_of_ZipB (by kernel_rfl) (by kernel_rfl)) (by kernel_rfl) (by kernel_rfl) (by kernel_rfl)
      (by rw [MakeChecks.laidMetH_plain _ _ _ (by kernel_rfl)]; exact laidMet_laidAll _ (by kernel_rfl) (by kernel_rfl))) ?_
  intro W base args ds gs before hval0 hW _ _ _ _
  have hval : ∀ (j : Nat) t v, Tryd.f3.params[j]? = some t → args[j]? = some v → Value.okWide Tryd.prog W .any base t v := hval0
  have hW' := hW
  obtain ⟨p, q, hA0, hV, rfl, hfz, hnd⟩ := hW
  have hA : DataW.TrodAll enc Tryd.prog W 0 (fun _ => true) true Tryd.f3.params.toList args.toList ds p := hA0
  rw [Tryd.params3] at hA hval
  obtain ⟨v0, vs0, d0, ds0, p0, q0, hargs, rfl, rfl, h0, r0⟩ := trodAll_cons hA
  obtain ⟨rfl, rfl, rfl⟩ := trodAll_nil r0
  obtain rfl : args = #[v0] := by cases args; simp_all
  obtain ⟨rfl, rfl⟩ := trodVars_none hV
  obtain ⟨a0, len0, cap0, rfl⟩ := okWide_slice Tryd.underlying22 (hval 0 22 v0 rfl rfl)
  have k0 := h0
  have lt0 : ∀ x ∈ p0, x.block < W.heap.size := by obtain ⟨m, hm⟩ := k0; exact DataW.trod_lt m _ _ _ hm
  obtain ⟨z0, w0⟩ : ∃ zs, IsRow .u8 W a0 len0 cap0 zs := by
    obtain ⟨fuel, hf⟩ := h0
    rcases open_ints Tryd.underlying22 Tryd.underlying5 (by kernel_rfl) hf with ⟨hcs, _⟩ | ⟨x, l, c, zs, hcs, _, hl, hm, hz, _, hcell, hwz⟩
    · simp [Value.cells] at hcs
      obtain ⟨rfl, rfl, rfl⟩ := hcs
      exact ⟨[], .inl ⟨rfl, rfl, rfl, rfl⟩⟩
    · simp [Value.cells] at hcs
      obtain ⟨rfl, rfl, rfl⟩ := hcs
      exact ⟨zs, .inr ⟨_, rfl, hl, hm, by simpa using hz, hcell, hwz⟩⟩
  clear hA0 hval0
  simp only [List.append_nil] at hW'
  refine (walk a0 len0 cap0 z0 W w0).mono fun e W' ⟨he, bel⟩ => ?_
  subst he
  exact ⟨_, rfl, _, _, _, [], _, [], hW', trodAll_mk1 (shut_bool Tryd.underlying4 _), (trodAll_cons_mk (Below.trod laidOut (by kernel_rfl) (of_decide_eq_true (by kernel_rfl)) k0 bel lt0) trodAll_mk0), rfl, bel.frame _, fun h => by cases h⟩

theorem andI {a b : Bool} (ha : a = true) (hb : b = true) : (a && b) = true := by rw [ha, hb]; rfl
set_option maxHeartbeats 8000000 in
theorem closed : joinedFacts Tryd.checked.prog 3 Tryd.f3 Rows.fnStepSpec Rows.fnStepRow = true := by
  unfold joinedFacts
  (repeat' with_reducible refine andI ?_ ?_) <;> as_aux_lemma => kernel_rfl

theorem over : Rows.fnStepRow.holds Tryd.pinned (OpenSpec.ofChange Rows.fnStepSpec) :=
  OpenClaim.holds_of_wide 3 Tryd.f3 rfl rfl rfl rfl rfl rfl rfl ⟨rfl, rfl, rfl, rfl, rfl⟩ rfl rfl rfl rfl rfl (by kernel_rfl) Tryd.func3 closed
    (of_decide_eq_true (by kernel_rfl)) (by unfold Func.isWrapper; first | (rw [if_pos (by decide +kernel)]; kernel_rfl) | (rw [if_neg (by decide +kernel)]; exact ⟨rfl, rfl⟩))
    (fun os started H enc _ => lifted os started H enc)

theorem proved : Rows.FnStepCardSaid :=
  Claim7.holds_tied_plain_at .later [] [.data, .data, .data] true (true, "4edba031ec6377a36d32afdd93be1df6b9b3bd2cd2ab6893ec98f36bc9f06ae2") false
    over (fun _ h => by cases h) (by kernel_rfl) (fun _ h => by cases h) fnStep_row_tie rfl ⟨rfl, rfl⟩ (by kernel_rfl) rfl
    (fun f fn hf hfn => by
      obtain rfl : f = 3 := Option.some.inj ((show Tryd.prog.funcNamed "loop.example/g00600/laws.FnStep" = some 3 by kernel_rfl).symm.trans hf) |>.symm
      obtain rfl : fn = Tryd.f3 := (Option.some.inj (Tryd.func3.symm.trans hfn)).symm
      exact ⟨by kernel_rfl, fun j t ht => by
        rw [Tryd.params3] at ht
        have hm : t ∈ [22] := by simpa using Array.mem_of_getElem? ht
        have hall : ([22].all fun u => !Tryd.prog.wantsStandIn u) = true := by kernel_rfl
        exact (show Tryd.prog.wantsStandIn t = false by simpa using List.all_eq_true.1 hall t hm)⟩)
    (by kernel_rfl)
#print axioms proved
end Go.Proofs.YtokbomfmkllghaaDoor.fnStep
