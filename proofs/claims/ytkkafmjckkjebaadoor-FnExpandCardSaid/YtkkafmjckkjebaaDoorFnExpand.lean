/- FnExpand: for every input the given law returns true and leaves its arguments as they were. No condition. -/
import Derived.Test.YtkkafmjckkjebaaDoorFnExpandWalkA
import Derived.Test.YtkkafmjckkjebaaDoorRows
import Derived.WalkKit
import Derived.ProofKit
import Derived.OpenShut
import Derived.ShutString
import Derived.Test.YtkkafmjckkjebaaDoorTie
import Derived.Test.YtkkafmjckkjebaaDoorCards
import Derived.Handy
import Derived.Lay
import Derived.SevenTiedAt
set_option linter.unusedVariables false
set_option linter.unusedSimpArgs false
namespace Go.Eng
open Go Go.Proofs

theorem bindO_of {α β : Type} {m : Option α} {k : α → Option β} {y : α} (h : m = some y) : bindO m k = k y := by rw [h]; rfl

def CurOk (c : List UInt8 × Int × Int) : Prop := 0 ≤ c.2.1 ∧ c.2.1 ≤ (c.1.length : Int) ∧ (c.1.length : Int) ≤ 1048576

theorem and_bound (x : BitVec 64) (n : Nat) (hn : n < 2 ^ 64) : (x &&& BitVec.ofInt 64 (n : Int)).toNat ≤ n := by
  rw [BitVec.toNat_and]
  have : (BitVec.ofInt 64 (n : Int)).toNat = n := by
    rw [BitVec.toNat_ofInt]
    have h : ((n : Int) % ((2 ^ 64 : Nat) : Int)) = n := Int.emod_eq_of_lt (by omega) (by exact_mod_cast hn)
    rw [h]; rfl
  rw [this]
  exact Nat.and_le_right

theorem and255 (x : BitVec 64) : 0 ≤ W (((x &&& BitVec.ofInt 64 255).toNat : Nat) : Int) ∧ W (((x &&& BitVec.ofInt 64 255).toNat : Nat) : Int) ≤ 255 := by
  have h := and_bound x 255 (by decide)
  have h' : (x &&& BitVec.ofInt 64 255).toNat ≤ 255 := h
  rw [W_eq (by omega) (by omega)]
  omega

theorem byte_ok (c : List UInt8 × Int × Int) (hc : CurOk c) : ∃ y i h, M_s_l01Byte c = some (y, (c.1, i, h)) ∧ CurOk (c.1, i, h) ∧ 0 ≤ y ∧ y ≤ 255 := by
  obtain ⟨h1, h2, h3⟩ := hc
  unfold M_s_l01Byte
  simp only [joinO, Bool.cond_decide, guardO]
  split
  · rw [if_pos ⟨h1, by assumption⟩]
    exact ⟨_, _, _, rfl, ⟨by simp only; rw [W_eq (by omega) (by omega)]; omega, by simp only; rw [W_eq (by omega) (by omega)]; omega, h3⟩, and255 _⟩
  · exact ⟨_, _, _, rfl, ⟨h1, h2, h3⟩, and255 _⟩

theorem below_ok (c : List UInt8 × Int × Int) (hc : CurOk c) (n : Int) : ∃ y i h, M_s_l01Below c n = some (y, (c.1, i, h)) ∧ CurOk (c.1, i, h) ∧ 0 ≤ y ∧ (0 < n → y < n) ∧ (n ≤ 0 → y = 0) := by
  unfold M_s_l01Below
  simp only [Bool.cond_decide]
  split
  · exact ⟨0, c.2.1, c.2.2, rfl, hc, by omega, by omega, by omega⟩
  · split
    · obtain ⟨y, i, h, e, ho, y0, y1⟩ := byte_ok _ hc
      have e' : M_s_l01Byte (c.1, c.2.1, c.2.2) = _ := e
      rw [bindO_of e']
      simp only [guardO]
      rw [if_pos (by omega)]
      exact ⟨_, i, h, rfl, ho, Int.tmod_nonneg _ y0, fun hn => Int.tmod_lt_of_pos _ hn, by omega⟩
    · obtain ⟨ya, ia, ha, e1, o1, a0, a1⟩ := byte_ok _ hc
      obtain ⟨yb, ib, hb, e2, o2, b0, b1⟩ := byte_ok _ o1
      obtain ⟨yc, ic, hcc, e3, o3, c0, c1⟩ := byte_ok _ o2
      obtain ⟨yd, id, hd, e4, o4, d0, d1⟩ := byte_ok _ o3
      have e1' : M_s_l01Byte (c.1, c.2.1, c.2.2) = _ := e1
      rw [bindO_of e1', bindO_of e2, bindO_of e3, bindO_of e4]
      simp only [guardO]
      rw [if_pos (by omega)]
      rw [W_eq (x := ya * 16777216) (by omega) (by omega), W_eq (x := yb * 65536) (by omega) (by omega), W_eq (x := yc * 256) (by omega) (by omega), W_eq (x := ya * 16777216 + yb * 65536) (by omega) (by omega),
        W_eq (x := ya * 16777216 + yb * 65536 + yc * 256) (by omega) (by omega), W_eq (x := ya * 16777216 + yb * 65536 + yc * 256 + yd) (by omega) (by omega)]
      exact ⟨_, id, hd, rfl, o4, Int.tmod_nonneg _ (by omega), fun hn => Int.tmod_lt_of_pos _ hn, by omega⟩

theorem new_loop (l : List UInt8) (hl : (l.length : Int) ≤ 1048576) : ∀ (m : Nat) (h k : Int), 0 ≤ k → k ≤ 4000 → 4000 - k < m → ∃ v, fixF (M_s_l01New_L1 l fun x15 => some (l, 0, x15)) m (h, k) = some (l, 0, v) := by
  intro m
  induction m with
  | zero => intro h k _ _ h'; omega
  | succ m ih =>
    intro h k hk hk' hm
    simp only [fixF, M_s_l01New_L1, guardO, Bool.cond_decide]
    by_cases h1 : k < (l.length : Int)
    · by_cases h2 : k < 4000
      · simp only [h1, h2, hk, if_true, and_self, decide_true]
        rw [W_eq (x := k + 1) (by omega) (by omega)]
        exact ih _ _ (by omega) (by omega) (by omega)
      · simp only [h1, h2, if_true, decide_false, Bool.false_eq_true, if_false]
        exact ⟨h, rfl⟩
    · simp only [h1, if_false, cond_false]
      exact ⟨h, rfl⟩

theorem new_ok (l : List UInt8) (hl : (l.length : Int) ≤ 1048576) : ∃ h, M_s_l01New l = some (l, 0, h) ∧ CurOk (l, 0, h) := by
  unfold M_s_l01New
  simp only [joinO]
  obtain ⟨v, hv⟩ := new_loop l hl FUEL (W (600128 + (l.length : Int))) 0 (by omega) (by omega) (by rw [fuel_eq]; omega)
  exact ⟨v, hv, ⟨by simp, by simp, hl⟩⟩

theorem drop_at {α : Type} [Inhabited α] {l : List α} {k : Int} (h0 : 0 ≤ k) (h : k < (l.length : Int)) : l.drop k.toNat = at' l k :: l.drop (k + 1).toNat := by
  have hlt : k.toNat < l.length := by omega
  rw [List.drop_eq_getElem_cons hlt]
  have : (k + 1).toNat = k.toNat + 1 := by omega
  rw [this]
  congr 1
  simp [at', List.getD_eq_getElem?_getD, hlt]

theorem sub_all {α : Type} {l : List α} {k : Int} (h0 : 0 ≤ k) : sub' l k (l.length : Int) = l.drop k.toNat := by
  unfold sub'
  rw [List.take_of_length_le]
  simp

/-- A history that is valid. -/
def hOk (h : Int × List (List UInt8)) : Bool := decide (1 ≤ h.1 ∧ h.1 ≤ 1000000000 ∧ (h.2.length : Int) ≤ 60) && h.2.all fun s => decide (1 ≤ (s.length : Int) ∧ (s.length : Int) ≤ 1000)

theorem sHistOk_loop (h : Int × List (List UInt8)) (hl : (h.2.length : Int) ≤ 1048576) (b : Bool) : ∀ (m : Nat) (k : Int), 0 ≤ k → k ≤ (h.2.length : Int) → (h.2.length : Int) - k < m → 0 < m →
    fixF (M_s_HistOk_L1 h fun _ => some b) m k = some (b && (h.2.drop k.toNat).all fun s => decide (1 ≤ (s.length : Int) ∧ (s.length : Int) ≤ 1000)) := by
  intro m
  induction m with
  | zero => intro k _ _ _ h'; omega
  | succ m ih =>
    intro k hk hk' hm _
    simp only [fixF, M_s_HistOk_L1, guardO, Bool.cond_decide]
    by_cases h1 : k < (h.2.length : Int)
    · rw [if_pos h1, if_pos ⟨hk, h1⟩, W_eq (by omega) (by omega), drop_at hk h1, ih _ (by omega) (by omega) (by omega) (by omega), List.all_cons]
      by_cases c1 : ((at' h.2 k).length : Int) < 1
      · have : ¬ (1 ≤ ((at' h.2 k).length : Int) ∧ ((at' h.2 k).length : Int) ≤ 1000) := by omega
        rw [decide_eq_false this]
        simp [c1]
      · by_cases c2 : 1000 < ((at' h.2 k).length : Int)
        · have : ¬ (1 ≤ ((at' h.2 k).length : Int) ∧ ((at' h.2 k).length : Int) ≤ 1000) := by omega
          rw [decide_eq_false this]
          simp [c1, c2]
        · have : (1 ≤ ((at' h.2 k).length : Int) ∧ ((at' h.2 k).length : Int) ≤ 1000) := by omega
          rw [decide_eq_true this]
          simp [c1, c2]
    · rw [if_neg h1, List.drop_eq_nil_of_le (by omega)]
      simp

theorem sHistOk_eq (h : Int × List (List UInt8)) (hl : (h.2.length : Int) ≤ 1048576) : M_s_HistOk h = some (hOk h) := by
  unfold M_s_HistOk
  simp only [joinO]
  rw [sHistOk_loop h hl _ FUEL 0 (by omega) (by omega) (by rw [fuel_eq]; omega) (by rw [fuel_eq]; omega)]
  unfold hOk
  simp only [Int.toNat_zero, List.drop_zero]
  congr 2
  by_cases c1 : 1 ≤ h.1 <;> by_cases c2 : h.1 ≤ 1000000000 <;> by_cases c3 : (h.2.length : Int) ≤ 60 <;> simp [c1, c2, c3]

theorem iHistOk_loop (h : Int × List (List UInt8)) (hl : (h.2.length : Int) ≤ 1048576) : ∀ (m : Nat) (k : Int), 0 ≤ k → k ≤ (h.2.length : Int) → (h.2.length : Int) - k < m → 0 < m →
    fixF (M_i_HistOk_L1 h fun _ => some true) m k = some ((h.2.drop k.toNat).all fun s => decide (1 ≤ (s.length : Int) ∧ (s.length : Int) ≤ 1000)) := by
  intro m
  induction m with
  | zero => intro k _ _ _ h'; omega
  | succ m ih =>
    intro k hk hk' hm _
    simp only [fixF, M_i_HistOk_L1, guardO, Bool.cond_decide, M_i_in, bindO]
    by_cases h1 : k < (h.2.length : Int)
    · rw [if_pos h1, if_pos ⟨hk, h1⟩, W_eq (by omega) (by omega), drop_at hk h1, ih _ (by omega) (by omega) (by omega) (by omega), List.all_cons]
      by_cases c1 : 1 ≤ ((at' h.2 k).length : Int) <;> by_cases c2 : ((at' h.2 k).length : Int) ≤ 1000 <;> simp only [c1, c2, and_self, and_true, and_false, false_and, true_and, decide_true, decide_false, if_true, if_false, Bool.not_true, Bool.not_false, cond_true, cond_false, Bool.true_and, Bool.false_and]
    · rw [if_neg h1, List.drop_eq_nil_of_le (by omega)]
      simp

theorem iHistOk_eq (h : Int × List (List UInt8)) (hl : (h.2.length : Int) ≤ 1048576) : M_i_HistOk h = some (hOk h) := by
  unfold M_i_HistOk M_i_in
  simp only [joinO, bindO, Bool.cond_decide]
  rw [iHistOk_loop h hl FUEL 0 (by omega) (by omega) (by rw [fuel_eq]; omega) (by rw [fuel_eq]; omega)]
  unfold hOk
  simp only [Int.toNat_zero, List.drop_zero]
  by_cases c1 : 1 ≤ h.1 <;> by_cases c2 : h.1 ≤ 1000000000 <;> by_cases c3 : (h.2.length : Int) ≤ 60
  all_goals first
    | (have c4 : ¬ (60 < (h.2.length : Int)) := by omega); simp [c1, c2, c3, c4]
    | (have c4 : 60 < (h.2.length : Int) := by omega); simp [c1, c2, c3, c4]

theorem hOk_spec {h : Int × List (List UInt8)} (hh : hOk h = true) : 1 ≤ h.1 ∧ h.1 ≤ 1000000000 ∧ (h.2.length : Int) ≤ 60 ∧ ∀ s ∈ h.2, 1 ≤ (s.length : Int) ∧ (s.length : Int) ≤ 1000 := by
  unfold hOk at hh
  simp only [Bool.and_eq_true, decide_eq_true_eq, List.all_eq_true] at hh
  exact ⟨hh.1.1, hh.1.2.1, hh.1.2.2, hh.2⟩

/-- The number of the last line. -/
def hLast (h : Int × List (List UInt8)) : Int := if hOk h = true ∧ 0 < h.2.length then h.1 + h.2.length - 1 else 0

def hGet (h : Int × List (List UInt8)) (n : Int) : List UInt8 × Bool := if hOk h = true ∧ h.1 ≤ n ∧ n < h.1 + h.2.length then (at' h.2 (n - h.1), true) else ([], false)

theorem text_ok (c : List UInt8 × Int × Int) (hc : CurOk c) : ∃ y i h, M_s_l05Text c = some (y, (c.1, i, h)) ∧ CurOk (c.1, i, h) ∧ 1 ≤ y.length ∧ y.length ≤ 16 := by
  unfold M_s_l05Text
  obtain ⟨y, i, h, e, ho, y0, y1, _⟩ := below_ok _ hc 12
  have e' : M_s_l01Below c 12 = _ := e
  rw [bindO_of e']
  have y1 := y1 (by omega)
  simp only [guardO]
  rw [if_pos ⟨y0, y1⟩]
  refine ⟨_, i, h, rfl, ho, ?_⟩
  have key : ∀ t ∈ (([([108, 115] : List UInt8), ([101, 99, 104, 111, 32, 97] : List UInt8), ([99, 97, 116, 32, 98] : List UInt8), ([97, 32, 124, 32, 98] : List UInt8), ([120, 61, 49] : List UInt8), ([105, 102, 32, 97, 59, 32, 116, 104, 101, 110, 32, 98, 59, 32, 102, 105] : List UInt8), ([101, 99, 104, 111, 32, 39, 97, 10, 98, 39] : List UInt8), ([109, 97, 107, 101] : List UInt8), ([108, 115, 32, 45, 108] : List UInt8), ([101, 99, 104, 111, 32, 195, 169] : List UInt8), ([103, 105, 116, 32, 108, 111, 103] : List UInt8), ([119] : List UInt8)] : List (List UInt8))), 1 ≤ t.length ∧ t.length ≤ 16 := by decide
  exact key _ (List.mem_of_getElem? (at_some ⟨y0, y1⟩))

theorem hOk_mk {h : Int × List (List UInt8)} (h1 : 1 ≤ h.1 ∧ h.1 ≤ 1000000000 ∧ (h.2.length : Int) ≤ 60) (h2 : ∀ s ∈ h.2, 1 ≤ s.length ∧ s.length ≤ 16) : hOk h = true := by
  unfold hOk
  simp only [Bool.and_eq_true, decide_eq_true_eq, List.all_eq_true]
  exact ⟨h1, fun s hs => by have := h2 s hs; omega⟩

/-- A drawn history. -/
def HistD (h : Int × List (List UInt8)) : Prop := (1 ≤ h.1 ∧ h.1 ≤ 1000 ∧ (h.2.length : Int) ≤ 60) ∧ ∀ s ∈ h.2, 1 ≤ s.length ∧ s.length ≤ 16

theorem HistD.ok {h : Int × List (List UInt8)} (hd : HistD h) : hOk h = true := hOk_mk ⟨hd.1.1, by have := hd.1.2.1; omega, hd.1.2.2⟩ hd.2

theorem histAdd_ok (h : Int × List (List UInt8)) (hd : HistD h) (h9 : h.1 < 1000) (t : List UInt8) (ht : 1 ≤ t.length ∧ t.length ≤ 16) : ∃ h', M_s_HistAdd h t = some (h', true) ∧ HistD h' ∧ h'.1 ≤ h.1 + 1 := by
  have hok := hd.ok
  obtain ⟨⟨d1, d2, d3⟩, d4⟩ := hd
  unfold M_s_HistAdd
  have g1 : ([] : List (List UInt8)).length + h.2.length ≤ 536870912 := by simp; omega
  have g2 : (([] : List (List UInt8)) ++ h.2).length + ([t] : List (List UInt8)).length ≤ 536870912 := by simp; omega
  have g3 : h.2.length + ([t] : List (List UInt8)).length ≤ 536870912 := by simp; omega
  simp only [joinO, guardO, g1, g2, g3, if_true, List.nil_append, Bool.cond_decide]
  have hall : ∀ s ∈ h.2 ++ [t], 1 ≤ s.length ∧ s.length ≤ 16 := by
    intro s hs
    rcases List.mem_append.1 hs with hs | hs
    · exact d4 s hs
    · simp only [List.mem_singleton] at hs; subst hs; exact ht
  have fin : ∀ h' : Int × List (List UInt8), HistD h' → (bindO (M_s_HistOk h) fun (y30 : Bool) =>
      (callO ((!y30) = false) (M_s_HistOk (h'.1, h'.2)) false fun (y32 : Bool) =>
      (bif (bif (!y30) then true else (!y32)) then some ((0, []), false) else some ((h'.1, h'.2), true)))) = some (h', true) := by
    intro h' hd'
    rw [bindO_of (sHistOk_eq h (by omega)), hok]
    have := sHistOk_eq h' (by have := hd'.1.2.2; omega)
    rw [hd'.ok] at this
    have this' : M_s_HistOk (h'.1, h'.2) = some true := this
    rw [this']
    simp [callO, bindO]
  by_cases hc : 60 < ((h.2 ++ [t]).length : Int)
  · rw [if_pos hc, if_pos ⟨by omega, by omega, by omega⟩, W_eq (by omega) (by omega), sub_all (by omega)]
    refine ⟨(h.1 + 1, (h.2 ++ [t]).drop 1), fin (h.1 + 1, (h.2 ++ [t]).drop 1) ?_, ?_, by simp⟩
    all_goals exact ⟨⟨by simp only; omega, by simp only; omega, by simp only [List.length_drop, List.length_append, List.length_cons, List.length_nil]; omega⟩, fun s hs => hall s (List.mem_of_mem_drop hs)⟩
  · rw [if_neg hc]
    have hD : HistD (h.1, h.2 ++ [t]) := ⟨⟨d1, d2, by simp only; omega⟩, hall⟩
    exact ⟨(h.1, h.2 ++ [t]), fin (h.1, h.2 ++ [t]) hD, hD, by simp only; omega⟩

theorem histDraw_loop (c : List UInt8 × Int × Int) : ∀ (m : Nat) (n f : Int) (ls : List (List UInt8)) (i h : Int), CurOk (c.1, i, h) → 0 ≤ n → n ≤ 100 → HistD (f, ls) → f + n ≤ 900 → n < m →
    ∃ r i' h', fixF (M_s_l16Draw_L1 c fun (x53, x54, x57, x58) => some ((x53, x54), (c.1, x57, x58))) m (n, f, ls, i, h) = some (r, (c.1, i', h')) ∧ CurOk (c.1, i', h') ∧ HistD r ∧ r.1 ≤ f + n := by
  intro m
  induction m with
  | zero => intro n f ls i h _ _ _ _ _ hm; omega
  | succ m ih =>
    intro n f ls i h hc hn hn' hd hf hm
    simp only [fixF, M_s_l16Draw_L1, Bool.cond_decide]
    by_cases h1 : 0 < n
    · rw [if_pos h1]
      obtain ⟨t, i2, h2, e, o2, t1, t2⟩ := text_ok _ hc
      have e' : M_s_l05Text (c.1, i, h) = some (t, (c.1, i2, h2)) := e
      rw [bindO_of e']
      obtain ⟨h', e3, d3, l3⟩ := histAdd_ok (f, ls) hd (by simp only; omega) t ⟨t1, t2⟩
      have l3' : h'.1 ≤ f + 1 := l3
      rw [bindO_of e3, W_eq (by omega) (by omega)]
      obtain ⟨r, i', h'', r1, r2, r3, r4⟩ := ih (n - 1) h'.1 h'.2 i2 h2 o2 (by omega) (by omega) d3 (by omega) (by omega)
      exact ⟨r, i', h'', r1, r2, r3, by omega⟩
    · rw [if_neg h1]
      exact ⟨(f, ls), i, h, rfl, hc, hd, by simp only; omega⟩

theorem histDraw_ok (c : List UInt8 × Int × Int) (hc : CurOk c) : ∃ r i h, M_s_l16Draw c = some (r, (c.1, i, h)) ∧ CurOk (c.1, i, h) ∧ HistD r ∧ r.1 < 1000 := by
  unfold M_s_l16Draw
  obtain ⟨y, i, h, e, ho, y0, y1, _⟩ := below_ok _ hc 5
  have e' : M_s_l01Below c 5 = _ := e
  rw [bindO_of e']
  have y1 := y1 (by omega)
  obtain ⟨z, i2, h2, e2, o2, z0, z1, _⟩ := below_ok _ ho 8
  simp only
  rw [bindO_of e2]
  have z1 := z1 (by omega)
  obtain ⟨v, i3, h3, e3, o3, v0, v1, _⟩ := below_ok _ o2 12
  simp only [joinO, Bool.cond_decide]
  rw [bindO_of e3]
  have fin : ∀ n i h, 0 ≤ n → n ≤ 62 → CurOk (c.1, i, h) → ∃ r i' h', fixF (M_s_l16Draw_L1 c fun (x53, x54, x57, x58) => some ((x53, x54), (c.1, x57, x58))) FUEL (n, (W (1 + y)), ([] : List (List UInt8)), i, h) = some (r, (c.1, i', h')) ∧ CurOk (c.1, i', h') ∧ HistD r ∧ r.1 < 1000 := by
    intro n i h hn hn' hcu
    rw [W_eq (by omega) (by omega)]
    obtain ⟨r, i', h', r1, r2, r3, r4⟩ := histDraw_loop c FUEL n (1 + y) [] i h hcu hn (by omega) ⟨⟨by simp only; omega, by simp only; omega, by simp⟩, by simp⟩ (by omega) (by rw [fuel_eq]; omega)
    exact ⟨r, i', h', r1, r2, r3, by omega⟩
  simp only
  split
  · obtain ⟨u, i4, h4, e4, o4, u0, u1, _⟩ := below_ok _ o3 4
    have u1 := u1 (by omega)
    rw [bindO_of e4]
    rw [W_eq (x := 59 + u) (by omega) (by omega)]
    exact fin (59 + u) i4 h4 (by omega) (by omega) o4
  · exact fin z i3 h3 z0 (by omega) o3

theorem makeHist_ok (l : List UInt8) (hl : (l.length : Int) ≤ 1048576) : ∃ h t, M_s_MakeHist l = some (h, t) ∧ HistD h ∧ h.1 < 1000 ∧ 1 ≤ t.length ∧ t.length ≤ 16 := by
  unfold M_s_MakeHist
  obtain ⟨h, e, hc⟩ := new_ok l hl
  rw [bindO_of e]
  obtain ⟨r, i, h2, e2, o2, d, dl⟩ := histDraw_ok _ hc
  have e2' : M_s_l16Draw (l, 0, h) = _ := e2
  rw [bindO_of e2']
  obtain ⟨t, i3, h3, e3, o3, t1, t2⟩ := text_ok _ o2
  have e3' : M_s_l05Text (l, i, h2) = _ := e3
  simp only
  rw [bindO_of e3']
  exact ⟨r, t, rfl, d, dl, t1, t2⟩

theorem histLast_i (h : Int × List (List UInt8)) (hl : (h.2.length : Int) ≤ 1048576) : M_i_HistLast h = some (hLast h) := by
  unfold M_i_HistLast
  rw [bindO_of (iHistOk_eq h hl)]
  unfold hLast
  cases hh : hOk h with
  | false => simp
  | true =>
    obtain ⟨h1, h2, h3, _⟩ := hOk_spec hh
    simp only [Bool.cond_decide, Bool.not_true, cond_false]
    rw [W_eq (x := h.1 + (h.2.length : Int)) (by omega) (by omega), W_eq (by omega) (by omega)]
    by_cases h0 : (h.2.length : Int) = 0
    · have : ¬ (0 < h.2.length) := by omega
      simp [h0, this]
    · have : 0 < h.2.length := by omega
      simp only [h0, this, if_false, and_self, if_true]

theorem histGet_i (h : Int × List (List UInt8)) (hl : (h.2.length : Int) ≤ 1048576) (n : Int) (hn : -9223372036854775808 ≤ n ∧ n ≤ 9223372036854775807) : M_i_HistGet h n = some (hGet h n) := by
  unfold M_i_HistGet
  rw [bindO_of (iHistOk_eq h hl)]
  unfold hGet
  cases hh : hOk h with
  | false => simp [callO, bindO]
  | true =>
    obtain ⟨h1, h2, h3, _⟩ := hOk_spec hh
    simp only [Bool.cond_decide, Bool.not_true, cond_false, callO, if_true, M_i_in, bindO, guardO, true_and]
    rw [W_eq (x := h.1 + (h.2.length : Int)) (by omega) (by omega), W_eq (x := h.1 + (h.2.length : Int) - 1) (by omega) (by omega)]
    by_cases c1 : h.1 ≤ n
    · rw [W_eq (x := n - h.1) (by omega) (by omega)]
      by_cases c2 : n < h.1 + h.2.length
      · have d3 : n ≤ h.1 + (h.2.length : Int) - 1 := by omega
        have d4 : 0 ≤ n - h.1 ∧ n - h.1 < (h.2.length : Int) := by omega
        simp [c1, c2, d3, d4]
      · have d3 : ¬ (n ≤ h.1 + (h.2.length : Int) - 1) := by omega
        simp [c1, c2, d3]
    · simp [c1]

theorem ib_le (c : UInt8) : ∀ (l : List UInt8), 0 ≤ Lib.indexByte l c → Lib.indexByte l c < l.length := by
  intro l
  induction l with
  | nil => intro h; simp [Lib.indexByte] at h
  | cons b l ih =>
    unfold Lib.indexByte
    simp only [List.length_cons]
    split
    · intro _; omega
    · split
      · intro h; omega
      · rename_i he
        intro h
        have hge := Lib.indexByte_ge l c
        have : Lib.indexByte l c ≠ -1 := by simpa using he
        have := ih (by omega)
        omega

theorem single_i (l : List UInt8) (hl : (l.length : Int) ≤ 1048576) (a : Int) (h0 : 0 ≤ a) (h1 : a ≤ (l.length : Int)) :
    M_i_SkipSingle l a = some (if Lib.indexByte (l.drop a.toNat) 39 < 0 then -1 else a + Lib.indexByte (l.drop a.toNat) 39 + 1) := by
  have hx := ib_le 39 (l.drop a.toNat)
  have hy := Lib.indexByte_ge (l.drop a.toNat) 39
  simp only [List.length_drop] at hx
  unfold M_i_SkipSingle M_i_within M_strings_IndexByte
  have e : max (0:Int) (min a (l.length : Int)) = a := by omega
  simp only [bindO, guardO, e]
  rw [if_pos ⟨h0, h1, Int.le_refl _⟩, sub_all h0]
  generalize Lib.indexByte (l.drop a.toNat) 39 = p at *
  simp only [Bool.cond_decide]
  split
  · rfl
  · have := hx (by omega)
    rw [W_eq (x := a + p) (by omega) (by omega), W_eq (by omega) (by omega)]

theorem pre_iff' (s p : List UInt8) : Lib.hasPrefix s p = decide (s.take p.length = p) := by
  unfold Lib.hasPrefix
  rw [Bool.eq_iff_iff, List.isPrefixOf_iff_prefix, List.prefix_iff_eq_take]
  simp only [decide_eq_true_eq]
  exact eq_comm

/-- Where the copied stretch at k ends, and the quoting behind it; none at an exclamation mark. -/
def nx (l : List UInt8) (q : Bool) (k : Int) : Option (Bool × Int) :=
  if ((at' l k).toNat : Int) = 92 then some (q, min (k + 2) (l.length : Int))
  else if ((at' l k).toNat : Int) = 34 then some (!q, k + 1)
  else if ((at' l k).toNat : Int) = 39 ∧ q = false then some (q, if Lib.indexByte (l.drop (k + 1).toNat) 39 < 0 then (l.length : Int) else k + 1 + Lib.indexByte (l.drop (k + 1).toNat) 39 + 1)
  else if ((at' l k).toNat : Int) = 33 then none
  else some (q, k + 1)

theorem sub_step {l : List UInt8} {k n : Int} (h0 : 0 ≤ k) (h : k < n) (hk : k < (l.length : Int)) : sub' l k n = at' l k :: sub' l (k + 1) n := by
  unfold sub'
  rw [drop_at h0 hk]
  rw [show n.toNat - k.toNat = (n.toNat - (k + 1).toNat) + 1 by omega, List.take_succ_cons]

theorem expCopy (l : List UInt8) (hl : (l.length : Int) ≤ 1000) (n : Int) (hn : n ≤ (l.length : Int)) (j : List UInt8 → Option (List UInt8 × Int × Int)) : ∀ (m : Nat) (o : List UInt8) (k : Int), 0 ≤ k → k ≤ n → (o.length : Int) + (n - k) ≤ 1000 → n - k < m →
    fixF (M_i_Expand_L1 l n j) m (o, k) = j (o ++ sub' l k n) := by
  intro m
  induction m with
  | zero => intro o k _ _ _ h; omega
  | succ m ih =>
    intro o k h0 h1 ho hm
    simp only [fixF, M_i_Expand_L1, guardO, Bool.cond_decide]
    by_cases h : k < n
    · have g1 : o.length + ([at' l k] : List UInt8).length ≤ 536870912 := by simp; omega
      have g2 : ¬ (1000 < ((o ++ [at' l k]).length : Int)) := by simp; omega
      rw [if_pos h, if_pos ⟨h0, by omega⟩, if_pos g1, if_neg g2, W_eq (by omega) (by omega), ih _ _ (by omega) (by omega) (by simp; omega) (by omega), sub_step h0 h (by omega)]
      simp
    · have : n = k := by omega
      subst this
      rw [if_neg h]
      simp [sub']

theorem nx_bound {l : List UInt8} {q q' : Bool} {k n : Int} (h0 : 0 ≤ k) (h1 : k < (l.length : Int)) (h : nx l q k = some (q', n)) : k < n ∧ n ≤ (l.length : Int) := by
  unfold nx at h
  split at h
  · cases h; omega
  · split at h
    · cases h; omega
    · split at h
      · cases h
        have hx := ib_le 39 (l.drop (k + 1).toNat)
        simp only [List.length_drop] at hx
        split
        · omega
        · have := hx (by omega); omega
      · split at h
        · cases h
        · cases h; omega

theorem exp_step (h : Int × List (List UInt8)) (l : List UInt8) (hl : (l.length : Int) ≤ 1000) (j : List UInt8 → Option (List UInt8 × Int × Int)) (m : Nat) (o : List UInt8) (q q' : Bool) (k n : Int) (h0 : 0 ≤ k) (h1 : k < (l.length : Int)) (hn : nx l q k = some (q', n)) (ho : (o.length : Int) + (n - k) ≤ 1000) :
    fixF (M_i_Expand_L2 h l j) (m + 1) (o, q, k) = fixF (M_i_Expand_L2 h l j) m (o ++ sub' l k n, q', n) := by
  obtain ⟨b1, b2⟩ := nx_bound h0 h1 hn
  have cp := fun (j : List UInt8 → Option (List UInt8 × Int × Int)) => expCopy l hl n b2 j FUEL o k h0 (by omega) ho (by rw [fuel_eq]; omega)
  conv => lhs; simp only [fixF, M_i_Expand_L2, guardO, joinO, Bool.cond_decide]
  rw [if_pos h1, if_pos ⟨h0, h1⟩, W_eq (x := k + 1) (by omega) (by omega), W_eq (x := k + 2) (by omega) (by omega)]
  unfold nx at hn
  by_cases c1 : ((at' l k).toNat : Int) = 92
  · rw [if_pos c1] at hn
    cases hn
    rw [if_pos c1, cp]
  rw [if_neg c1] at hn ⊢
  by_cases c2 : ((at' l k).toNat : Int) = 34
  · rw [if_pos c2] at hn
    cases hn
    rw [if_pos c2, cp]
  rw [if_neg c2] at hn ⊢
  by_cases c3 : ((at' l k).toNat : Int) = 39 ∧ q = false
  · rw [if_pos c3] at hn
    rw [if_pos c3.1, c3.2]
    obtain ⟨c3, rfl⟩ := c3
    simp only [Bool.not_false, cond_true]
    rw [bindO_of (single_i l (by omega) (k + 1) (by omega) (by omega))]
    have hge := Lib.indexByte_ge (l.drop (k + 1).toNat) 39
    generalize Lib.indexByte (l.drop (k + 1).toNat) 39 = p at *
    by_cases c4 : p < 0
    · simp only [c4, if_true] at hn ⊢
      cases hn
      rw [if_pos (by omega), cp]
    · simp only [c4, if_false] at hn ⊢
      cases hn
      rw [if_neg (by omega), cp]
  rw [if_neg c3] at hn
  have c3' : (if ((at' l k).toNat : Int) = 39 then !q else false) = false := by
    split
    · rename_i h39
      cases q
      · exact absurd ⟨h39, rfl⟩ c3
      · rfl
    · rfl
  rw [c3', cond_false]
  by_cases c5 : ((at' l k).toNat : Int) = 33
  · rw [if_pos c5] at hn; cases hn
  · rw [if_neg c5] at hn ⊢
    cases hn
    rw [cp]

theorem exp_end (h : Int × List (List UInt8)) (l : List UInt8) (j : List UInt8 → Option (List UInt8 × Int × Int)) (m : Nat) (o : List UInt8) (q : Bool) (k : Int) (h1 : ¬ k < (l.length : Int)) : fixF (M_i_Expand_L2 h l j) (m + 1) (o, q, k) = j o := by
  simp only [fixF, M_i_Expand_L2, Bool.cond_decide]
  rw [if_neg h1]

theorem exp_plain (h : Int × List (List UInt8)) (l : List UInt8) (hl : (l.length : Int) ≤ 1000) (hb : ∀ b ∈ l, b.toNat ≠ 33) (j : List UInt8 → Option (List UInt8 × Int × Int)) : ∀ (m : Nat) (q : Bool) (k : Int), 0 ≤ k → k ≤ (l.length : Int) → (l.length : Int) - k < m →
    fixF (M_i_Expand_L2 h l j) m (l.take k.toNat, q, k) = j l := by
  intro m
  induction m with
  | zero => intro q k _ _ h; omega
  | succ m ih =>
    intro q k h0 h1 hm
    by_cases hk : k < (l.length : Int)
    · have hne : ¬ ((at' l k).toNat : Int) = 33 := by
        have := hb _ (List.mem_of_getElem? (at_some ⟨h0, hk⟩))
        omega
      obtain ⟨⟨q', n⟩, hn⟩ : ∃ r, nx l q k = some r := by
        unfold nx
        repeat' split
        all_goals first | exact ⟨_, rfl⟩ | contradiction
      obtain ⟨b1, b2⟩ := nx_bound h0 hk hn
      rw [exp_step h l hl j m _ q q' k n h0 hk hn (by rw [List.length_take]; omega)]
      have e : l.take k.toNat ++ sub' l k n = l.take n.toNat := by
        unfold sub'
        have : n.toNat = k.toNat + (n - k).toNat := by omega
        rw [this, List.take_add]
        congr 2
        omega
      rw [e]
      exact ih q' n (by omega) b2 (by omega)
    · rw [exp_end h l j m _ q k hk, List.take_of_length_le (by omega)]

theorem plain_loop (l : List UInt8) : ∀ (m : Nat) (o : List UInt8) (n i h : Int), CurOk (l, i, h) → 0 ≤ n → n ≤ 100 → (o.length : Int) + 2 * n ≤ 900 → n < m → (∀ b ∈ o, b.toNat ≠ 33) →
    ∃ r i' h', (∀ j : (List UInt8 × Int × Int) → Option (List UInt8), fixF (M_s_MakePlainText_L1 l j) m (o, n, i, h) = j (r, i', h')) ∧ (r.length : Int) ≤ o.length + 2 * n ∧ ∀ b ∈ r, b.toNat ≠ 33 := by
  intro m
  induction m with
  | zero => intro o n i h _ _ _ _ hm; omega
  | succ m ih =>
    intro o n i h hc hn hn' ho hm hd
    by_cases h1 : 0 < n
    · obtain ⟨y, i2, h2, e, o2, y0, y1, _⟩ := below_ok _ hc 12
      have y1 := y1 (by omega)
      have e' : M_s_l01Below (l, i, h) 12 = some (y, (l, i2, h2)) := e
      have key : ∀ t ∈ ([([97] : List UInt8), ([32] : List UInt8), ([108, 115] : List UInt8), ([34] : List UInt8), ([92] : List UInt8), ([39] : List UInt8), ([40] : List UInt8), ([49] : List UInt8), ([195, 169] : List UInt8), ([45] : List UInt8), ([61] : List UInt8), ([94] : List UInt8)] : List (List UInt8)), t.length ≤ 2 ∧ ∀ b ∈ t, b.toNat ≠ 33 := by decide
      have kt := key _ (List.mem_of_getElem? (at_some ⟨y0, y1⟩))
      obtain ⟨r, i', h', r1, r2, r3⟩ := ih (o ++ (at' ([([97] : List UInt8), ([32] : List UInt8), ([108, 115] : List UInt8), ([34] : List UInt8), ([92] : List UInt8), ([39] : List UInt8), ([40] : List UInt8), ([49] : List UInt8), ([195, 169] : List UInt8), ([45] : List UInt8), ([61] : List UInt8), ([94] : List UInt8)] : List (List UInt8)) y)) (n - 1) i2 h2 o2 (by omega) (by omega) (by simp only [List.length_append]; omega) (by omega) (by
        intro b hb
        rcases List.mem_append.1 hb with hb | hb
        · exact hd b hb
        · exact kt.2 b hb)
      refine ⟨r, i', h', fun j => ?_, by simp only [List.length_append] at r2; omega, r3⟩
      simp only [fixF, M_s_MakePlainText_L1, Bool.cond_decide, guardO]
      rw [if_pos h1, bindO_of e']
      simp only
      rw [if_pos ⟨y0, y1⟩, if_pos (by omega), W_eq (by omega) (by omega)]
      exact r1 j
    · refine ⟨o, i, h, fun j => ?_, by omega, hd⟩
      simp only [fixF, M_s_MakePlainText_L1, Bool.cond_decide, guardO]
      rw [if_neg h1]

theorem makePlain_ok (l : List UInt8) (hl : (l.length : Int) ≤ 1048576) : ∃ s, M_s_MakePlainText l = some s ∧ (s.length : Int) ≤ 100 ∧ (∀ b ∈ s, b.toNat ≠ 33) ∧ Lib.hasPrefix s [94] = false := by
  unfold M_s_MakePlainText
  obtain ⟨h, e, hc⟩ := new_ok l hl
  rw [bindO_of e]
  obtain ⟨y, i2, h2, e2, o2, y0, y1, _⟩ := below_ok _ hc 8
  have e2' : M_s_l01Below (l, 0, h) 8 = _ := e2
  rw [bindO_of e2']
  have y1 := y1 (by omega)
  simp only [joinO]
  obtain ⟨r, i', h', r1, r2, r3⟩ := plain_loop l FUEL [] y i2 h2 o2 y0 (by omega) (by simp; omega) (by rw [fuel_eq]; omega) (by simp)
  rw [r1]
  simp only [List.length_nil] at r2
  simp only [guardO, Bool.cond_decide]
  rcases r with _ | ⟨b, t⟩
  · exact ⟨[], rfl, by simp, by simp, by decide +kernel⟩
  · have at0 : at' (b :: t) 0 = b := rfl
    have hp : (0 : Int) < ((b :: t).length : Int) := by simp only [List.length_cons]; omega
    rw [if_pos (fun _ => ⟨by omega, hp⟩), if_pos hp, at0]
    by_cases c : (b.toNat : Int) = 94
    · rw [decide_eq_true c, cond_true, if_pos (by simp at r2 ⊢; omega)]
      refine ⟨_, rfl, by simp at r2 ⊢; omega, ?_, ?_⟩
      · intro x hx
        simp only [List.cons_append, List.nil_append] at hx
        rcases List.mem_cons.1 hx with rfl | hx
        · decide
        · exact r3 x hx
      · rw [pre_iff']; simp
    · rw [decide_eq_false c, cond_false]
      refine ⟨_, rfl, by simp at r2 ⊢; omega, r3, ?_⟩
      rw [pre_iff']
      simp
      intro hb
      exact c (by rw [hb]; rfl)

theorem refAt_bang : M_i_RefAt ([120, 32, 33, 33] : List UInt8) 2 = some ((1, 0, [], 4), true) := by
  unfold M_i_RefAt
  decide +kernel

theorem law_FnExpand (l : List UInt8) : M_l_FnExpand l = some true := by
  unfold M_l_FnExpand
  by_cases hb : 1048576 < (l.length : Int)
  · simp [hb]
  rw [decide_eq_false hb, cond_false]
  obtain ⟨h, t, eh, hd, h9, t1, t2⟩ := makeHist_ok l (by omega)
  rw [bindO_of eh]
  obtain ⟨s, es, s1, s2, s3⟩ := makePlain_ok l (by omega)
  simp only
  rw [bindO_of es]
  have hok := hd.ok
  obtain ⟨⟨d1, d2, d3⟩, d4⟩ := hd
  obtain ⟨m, hm⟩ : ∃ m, FUEL = m + 1 + 1 + 1 + 1 := ⟨FUEL - 4, by rw [fuel_eq]⟩
  have x1 : M_i_Expand h s = some (s, 0, 0) := by
    unfold M_i_Expand M_strings_HasPrefix
    rw [s3]
    simp only [bindO, cond_false, joinO]
    exact exp_plain h s (by omega) s2 _ FUEL false 0 (by omega) (by omega) (by rw [fuel_eq]; omega)
  have x2 : M_i_Expand h ([39, 33, 33, 33, 122, 122, 39] : List UInt8) = some ([39, 33, 33, 33, 122, 122, 39], 0, 0) := by
    unfold M_i_Expand M_strings_HasPrefix
    have : Lib.hasPrefix ([39, 33, 33, 33, 122, 122, 39] : List UInt8) [94] = false := by decide +kernel
    rw [this]
    simp only [bindO, cond_false, joinO]
    rw [hm, exp_step h _ (by decide) _ _ [] false false 0 7 (by omega) (by decide) (by decide +kernel) (by decide), exp_end h _ _ _ _ _ _ (by decide)]
    rfl
  have x3 : M_i_Expand h ([120, 32, 33, 33] : List UInt8) = some (if (hGet h (hLast h)).2 = true then ([120, 32] ++ (hGet h (hLast h)).1, 0, 0) else ([], 1, 2)) := by
    unfold M_i_Expand M_strings_HasPrefix
    have : Lib.hasPrefix ([120, 32, 33, 33] : List UInt8) [94] = false := by decide +kernel
    rw [this]
    simp only [bindO, cond_false, joinO]
    rw [hm, exp_step h _ (by decide) _ _ [] false false 0 1 (by omega) (by decide) (by decide +kernel) (by decide), exp_step h _ (by decide) _ _ _ false false 1 2 (by omega) (by decide) (by decide +kernel) (by decide)]
    have ee : ([] ++ sub' ([120, 32, 33, 33] : List UInt8) 0 1) ++ sub' ([120, 32, 33, 33] : List UInt8) 1 2 = [120, 32] := by decide +kernel
    rw [ee]
    have a2 : at' ([120, 32, 33, 33] : List UInt8) 2 = 33 := rfl
    have hLb : -9223372036854775808 ≤ hLast h ∧ hLast h ≤ 9223372036854775807 := by unfold hLast; split <;> omega
    have er : M_i_RefLine h (1, 0, [], 4) = some (hGet h (hLast h)) := by
      unfold M_i_RefLine
      rw [bindO_of (histLast_i h (by omega)), bindO_of (histGet_i h (by omega) _ hLb)]
      rfl
    have lg : (hGet h (hLast h)).1.length ≤ 16 := by
      unfold hGet
      split
      · rename_i hc
        have := d4 _ (List.mem_of_getElem? (at_some (show 0 ≤ hLast h - h.1 ∧ hLast h - h.1 < (h.2.length : Int) by omega)))
        exact this.2
      · simp
    generalize hGet h (hLast h) = g at *
    rw [fixF, M_i_Expand_L2]
    simp only [a2, guardO, joinO, Bool.cond_decide]
    rw [if_pos (by decide), if_pos (by decide), if_neg (by decide), if_neg (by decide), if_neg (by decide)]
    simp only [cond_false]
    rw [if_pos (by decide), bindO_of refAt_bang]
    simp only [cond_true]
    rw [bindO_of er]
    cases hg : g.2 with
    | false => simp
    | true =>
      simp only [Bool.not_true, cond_false, if_true]
      rw [if_pos (by simp; omega), if_neg (by simp; omega), exp_end h _ _ _ _ _ _ (by decide)]
  rw [bindO_of x1]
  simp only [decide_true, Bool.not_true, cond_false]
  rw [bindO_of x2]
  simp only [decide_true, Bool.not_true, cond_false]
  have hLb : -9223372036854775808 ≤ hLast h ∧ hLast h ≤ 9223372036854775807 := by unfold hLast; split <;> omega
  rw [bindO_of (histLast_i h (by omega)), bindO_of (histGet_i h (by omega) _ hLb)]
  rw [bindO_of x3]
  have lg : (hGet h (hLast h)).1.length ≤ 16 := by
    unfold hGet
    split
    · rename_i hc
      have := d4 _ (List.mem_of_getElem? (at_some (show 0 ≤ hLast h - h.1 ∧ hLast h - h.1 < (h.2.length : Int) by omega)))
      exact this.2
    · simp
  have hz : (hGet h (hLast h)).2 = false → h.2.length = 0 := by
    intro hq
    rcases Nat.eq_zero_or_pos h.2.length with h0 | h0
    · exact h0
    · exfalso
      have e : hLast h = h.1 + h.2.length - 1 := by unfold hLast; rw [if_pos ⟨hok, h0⟩]
      unfold hGet at hq
      rw [if_pos ⟨hok, by omega, by omega⟩] at hq
      cases hq
  generalize hGet h (hLast h) = g at *
  cases hg : g.2 with
  | false =>
    have := hz hg
    simp [this]
  | true =>
    simp only [if_true, Bool.not_true, cond_false]
    rw [bindO_of refAt_bang]
    simp only [guardO]
    rw [if_pos (by intro _; simp; omega)]
    simp

end Go.Eng

namespace Go.Proofs.YtkkafmjckkjebaaDoor.fnExpand
open Go.ChangeShapes Go.WideShapes Go.ChangeAt Go.RowKit Go.Eng
open Go.ChangeMaps (open_string shut_string)

theorem own : ownKnob Tryd.prog.godebug = none := by kernel_rfl
theorem laidOut : laidOutB Tryd.prog = true := by kernel_rfl

theorem walk (a0 : Option Addr) (len0 cap0 : Nat) (z0 : List Int) (w : World) (w0 : IsRow .u8 w a0 len0 cap0 z0) :
    Calls Tryd.prog 4 #[.slice a0 len0 cap0] w fun e w' => e = .returned (.bool true) ∧ Below w.heap.size w w' := by
  obtain ⟨l0, f0⟩ := w0.byteFact
  have h := ok_l_FnExpand (bytesOf (z0.take len0)) a0 cap0 len0 l0 true (law_FnExpand (bytesOf (z0.take len0)) )
  refine Calls.mono (h.calls w ?_) ?_
  · intro x hx
    rcases List.mem_cons.1 hx with rfl | hx
    · exact ⟨_, f0.choose_spec⟩
    cases hx
  · rintro e w' ⟨r, -, he, hk, -⟩
    exact ⟨he, hk.below⟩

def laid : List (String × DataW Unit) := [("unicode/utf8.acceptRanges", Rows.laid_unicode_utf8_acceptRanges), ("unicode/utf8.first", Rows.laid_unicode_utf8_first)]

set_option maxRecDepth 100000 in
theorem lifted (os : Os) (started : os.Started) (H : Type) (enc : TypeId × Value → H) :
    ReturnsInHanded {} Tryd.checked os 4 .any (fun w args => (Rows.fnExpandSpec.pre enc Tryd.prog Tryd.f4 [] false w args ∧ laidMetH Tryd.prog laid w) ∧ sizedMet enc Tryd.prog Tryd.f4 (OpenSpec.ofChange Rows.fnExpandSpec) false w args) (Rows.fnExpandSpec.post enc Tryd.prog Tryd.f4 false true false false) := by
  refine returnsInHanded_of_change_and (C := Tryd.checked) (X := fun w _ => laidMetH Tryd.prog laid w) (fun _ _ _ hh h => h.of_heap hh) own started (by kernel_rfl) Tryd.func4
    (ChangeSpec.witness_shaped (enc := enc) (C := Tryd.checked) (os := os) (X := fun w _ => laidMetH Tryd.prog laid w) false (World.laidAll Tryd.prog os laid) #[.slice none 0 0] 8 (World.laidAll_os _ _ _)
      (World.shaped_of_ZipB (by kernel_rfl) (by kernel_rfl)) (by kernel_rfl) (by kernel_rfl) (by kernel_rfl)
      (by rw [MakeChecks.laidMetH_plain _ _ _ (by kernel_rfl)]; exact laidMet_laidAll _ (by kernel_rfl) (by kernel_rfl))) ?_
  intro W base args ds gs before hval0 hW _ _ _ _
  have hval : ∀ (j : Nat) t v, Tryd.f4.params[j]? = some t → args[j]? = some v → Value.okWide Tryd.prog W .any base t v := hval0
  have hW' := hW
  obtain ⟨p, q, hA0, hV, rfl, hfz, hnd⟩ := hW
  have hA : DataW.TrodAll enc Tryd.prog W 0 (fun _ => true) true Tryd.f4.params.toList args.toList ds p := hA0
  rw [Tryd.params4] at hA hval
  obtain ⟨v0, vs0, d0, ds0, p0, q0, hargs, rfl, rfl, h0, r0⟩ := trodAll_cons hA
  obtain ⟨rfl, rfl, rfl⟩ := trodAll_nil r0
  obtain rfl : args = #[v0] := by cases args; simp_all
  obtain ⟨rfl, rfl⟩ := trodVars_none hV
  obtain ⟨a0, len0, cap0, rfl⟩ := okWide_slice Tryd.underlying32 (hval 0 32 v0 rfl rfl)
  have k0 := h0
  have lt0 : ∀ x ∈ p0, x.block < W.heap.size := by obtain ⟨m, hm⟩ := k0; exact DataW.trod_lt m _ _ _ hm
  obtain ⟨z0, w0⟩ : ∃ zs, IsRow .u8 W a0 len0 cap0 zs := by
    obtain ⟨fuel, hf⟩ := h0
    rcases open_ints Tryd.underlying32 Tryd.underlying5 (by kernel_rfl) hf with ⟨hcs, _⟩ | ⟨x, l, c, zs, hcs, _, hl, hm, hz, _, hcell, hwz⟩
    · simp [Value.cells] at hcs
      obtain ⟨rfl, rfl, rfl⟩ := hcs
      exact ⟨[], .inl ⟨rfl, rfl, rfl, rfl⟩⟩
    · simp [Value.cells] at hcs
      obtain ⟨rfl, rfl, rfl⟩ := hcs
      exact ⟨zs, .inr ⟨_, rfl, hl, hm, by simpa using hz, hcell, hwz⟩⟩
  clear hA0 hval0
  simp only [List.append_nil] at hW'
  refine (walk a0 len0 cap0 z0 W w0).mono fun e W' ⟨he, bel⟩ => ?_
  subst he
  exact ⟨_, rfl, _, _, _, [], _, [], hW', trodAll_mk1 (shut_bool Tryd.underlying4 _), (trodAll_cons_mk (Below.trod laidOut (by kernel_rfl) (of_decide_eq_true (by kernel_rfl)) k0 bel lt0) trodAll_mk0), rfl, bel.frame _, fun h => by cases h⟩

theorem andI {a b : Bool} (ha : a = true) (hb : b = true) : (a && b) = true := by rw [ha, hb]; rfl
set_option maxHeartbeats 8000000 in
theorem closed : joinedFacts Tryd.checked.prog 4 Tryd.f4 Rows.fnExpandSpec Rows.fnExpandRow = true := by
  unfold joinedFacts
  (repeat' with_reducible refine andI ?_ ?_) <;> as_aux_lemma => kernel_rfl

theorem over : Rows.fnExpandRow.holds Tryd.pinned (OpenSpec.ofChange Rows.fnExpandSpec) :=
  OpenClaim.holds_of_wide 4 Tryd.f4 rfl rfl rfl rfl rfl rfl rfl ⟨rfl, rfl, rfl, rfl, rfl⟩ rfl rfl rfl rfl rfl (by kernel_rfl) Tryd.func4 closed
    (of_decide_eq_true (by kernel_rfl)) (by unfold Func.isWrapper; first | (rw [if_pos (by decide +kernel)]; kernel_rfl) | (rw [if_neg (by decide +kernel)]; exact ⟨rfl, rfl⟩))
    (fun os started H enc _ => lifted os started H enc)

theorem proved : Rows.FnExpandCardSaid :=
  Claim7.holds_tied_plain_at .later [] [.data, .pinned] true (true, "17df7e32e606275d63a36cd64373dcc6927a66c82113949fb6477aae1738ee25") false
    over (fun _ h => by cases h) (by kernel_rfl) (fun _ h => by cases h) fnExpand_row_tie rfl ⟨rfl, rfl⟩ (by kernel_rfl) rfl
    (fun f fn hf hfn => by
      obtain rfl : f = 4 := Option.some.inj ((show Tryd.prog.funcNamed "loop.example/g00600/laws.FnExpand" = some 4 by kernel_rfl).symm.trans hf) |>.symm
      obtain rfl : fn = Tryd.f4 := (Option.some.inj (Tryd.func4.symm.trans hfn)).symm
      exact ⟨by kernel_rfl, fun j t ht => by
        rw [Tryd.params4] at ht
        have hm : t ∈ [32] := by simpa using Array.mem_of_getElem? ht
        have hall : ([32].all fun u => !Tryd.prog.wantsStandIn u) = true := by kernel_rfl
        exact (show Tryd.prog.wantsStandIn t = false by simpa using List.all_eq_true.1 hall t hm)⟩)
    (by kernel_rfl)
#print axioms proved
end Go.Proofs.YtkkafmjckkjebaaDoor.fnExpand
