/- FnExactChange: for every input the given law returns true and leaves its arguments as they were. No condition. -/
import Derived.Test.YtamjkgjmefknkaaGreatFnExactChangeWalkC
import Derived.Test.YtamjkgjmefknkaaGreatRows
import Derived.WalkKit
import Derived.ProofKit
import Derived.OpenShut
import Derived.ShutString
set_option linter.unusedVariables false
set_option linter.unusedSimpArgs false
namespace Go.Eng
open Go Go.Proofs

theorem bindO_of {α β : Type} {m : Option α} {k : α → Option β} {y : α} (h : m = some y) : bindO m k = k y := by rw [h]; rfl

theorem drop_at {α : Type} [Inhabited α] {l : List α} {k : Int} (h0 : 0 ≤ k) (h : k < (l.length : Int)) : l.drop k.toNat = at' l k :: l.drop (k + 1).toNat := by
  have hlt : k.toNat < l.length := by omega
  rw [List.drop_eq_getElem_cons hlt]
  have : (k + 1).toNat = k.toNat + 1 := by omega
  rw [this]
  congr 1
  simp [at', List.getD_eq_getElem?_getD, hlt]

theorem sub_all {α : Type} {l : List α} {k : Int} (h0 : 0 ≤ k) : sub' l k (l.length : Int) = l.drop k.toNat := by
  unfold sub'
  rw [List.take_of_length_le]
  simp

theorem ringCopy_s (xs : List (List Int)) (hl : (xs.length : Int) ≤ 1048576) (hs : ∀ s ∈ xs, (s.length : Int) ≤ 1048576) (j : List (List Int) → Option (List (List Int))) : ∀ (m : Nat) (i : Int) (ds : List (List Int)), 0 ≤ i → i ≤ (xs.length : Int) → (ds.length : Int) = i → (xs.length : Int) - i < m →
    fixF (M_s_l15Copy_L1 xs j) m (i, ds) = j (ds ++ xs.drop i.toNat) := by
  intro m
  induction m with
  | zero => intro i ds _ _ _ h; omega
  | succ m ih =>
    intro i ds hi hi' hd hm
    simp only [fixF, M_s_l15Copy_L1, guardO, Bool.cond_decide, List.nil_append]
    by_cases h1 : i < (xs.length : Int)
    · have hb := hs (at' xs i) (List.mem_of_getElem? (at_some ⟨hi, h1⟩))
      rw [if_pos h1, if_pos ⟨hi, h1⟩, if_pos (by simp; omega), if_pos (by simp; omega), W_eq (by omega) (by omega), ih (i + 1) _ (by omega) (by omega) (by simp; omega) (by omega), drop_at hi h1]
      simp
    · rw [if_neg h1, List.drop_eq_nil_of_le (by omega)]
      simp

theorem ringCopy_i (xs : List (List Int)) (hl : (xs.length : Int) ≤ 1048576) (hs : ∀ s ∈ xs, (s.length : Int) ≤ 1048576) (j : List (List Int) → Option (List (List Int))) : ∀ (m : Nat) (i : Int) (ds : List (List Int)), 0 ≤ i → i ≤ (xs.length : Int) → (ds.length : Int) = i → (xs.length : Int) - i < m →
    fixF (M_i_copyRing_L1 xs j) m (i, ds) = j (ds ++ xs.drop i.toNat) := by
  intro m
  induction m with
  | zero => intro i ds _ _ _ h; omega
  | succ m ih =>
    intro i ds hi hi' hd hm
    simp only [fixF, M_i_copyRing_L1, guardO, Bool.cond_decide]
    by_cases h1 : i < (xs.length : Int)
    · have hb := hs (at' xs i) (List.mem_of_getElem? (at_some ⟨hi, h1⟩))
      have ec : M_i_copyInts (at' xs i) = some (at' xs i) := by
        unfold M_i_copyInts guardO
        rw [if_pos (by simp; omega)]; simp
      rw [if_pos h1, if_pos ⟨hi, h1⟩, bindO_of ec, if_pos (by simp; omega), W_eq (by omega) (by omega), ih (i + 1) _ (by omega) (by omega) (by simp; omega) (by omega), drop_at hi h1]
      simp
    · rw [if_neg h1, List.drop_eq_nil_of_le (by omega)]
      simp

theorem copyRing_s (xs : List (List Int)) (hl : (xs.length : Int) ≤ 1048576) (hs : ∀ s ∈ xs, (s.length : Int) ≤ 1048576) : M_s_l15Copy xs = some xs := by
  unfold M_s_l15Copy
  simp only [joinO]
  rw [ringCopy_s xs hl hs _ FUEL 0 [] (by omega) (by omega) (by simp) (by rw [fuel_eq]; omega)]
  simp
theorem copyRing_i (xs : List (List Int)) (hl : (xs.length : Int) ≤ 1048576) (hs : ∀ s ∈ xs, (s.length : Int) ≤ 1048576) : M_i_copyRing xs = some xs := by
  unfold M_i_copyRing
  simp only [joinO]
  rw [ringCopy_i xs hl hs _ FUEL 0 [] (by omega) (by omega) (by simp) (by rw [fuel_eq]; omega)]
  simp

theorem copyInts_i (x : List Int) (h : (x.length : Int) ≤ 1048576) : M_i_copyInts x = some x := by
  unfold M_i_copyInts guardO
  rw [if_pos (by simp; omega)]; simp
theorem copyLine_i (x : List Int × Int) (h : (x.1.length : Int) ≤ 1048576) : M_i_copyLine x = some x := by
  unfold M_i_copyLine
  rw [bindO_of (copyInts_i x.1 h)]
theorem copyLine_s (x : List Int × Int) (h : (x.1.length : Int) ≤ 1048576) : M_s_l15Line x = some x := by
  unfold M_s_l15Line guardO
  rw [if_pos (by simp; omega)]; simp

theorem undoCopy_s (xs : List (List Int × Int)) (hl : (xs.length : Int) ≤ 1048576) (hs : ∀ s ∈ xs, (s.1.length : Int) ≤ 1048576) (j : List (List Int × Int) → Option (List (List Int × Int))) : ∀ (m : Nat) (i : Int) (ds : List (List Int × Int)), 0 ≤ i → i ≤ (xs.length : Int) → (ds.length : Int) = i → (xs.length : Int) - i < m →
    fixF (M_s_l15Lines_L1 xs j) m (i, ds) = j (ds ++ xs.drop i.toNat) := by
  intro m
  induction m with
  | zero => intro i ds _ _ _ h; omega
  | succ m ih =>
    intro i ds hi hi' hd hm
    simp only [fixF, M_s_l15Lines_L1, guardO, Bool.cond_decide]
    by_cases h1 : i < (xs.length : Int)
    · have hb := hs (at' xs i) (List.mem_of_getElem? (at_some ⟨hi, h1⟩))
      rw [if_pos h1, if_pos ⟨hi, h1⟩, bindO_of (copyLine_s (at' xs i) hb), if_pos (by simp; omega), W_eq (by omega) (by omega), ih (i + 1) _ (by omega) (by omega) (by simp; omega) (by omega), drop_at hi h1]
      simp
    · rw [if_neg h1, List.drop_eq_nil_of_le (by omega)]
      simp
theorem undoCopy_i (xs : List (List Int × Int)) (hl : (xs.length : Int) ≤ 1048576) (hs : ∀ s ∈ xs, (s.1.length : Int) ≤ 1048576) (j : List (List Int × Int) → Option (List (List Int × Int))) : ∀ (m : Nat) (i : Int) (ds : List (List Int × Int)), 0 ≤ i → i ≤ (xs.length : Int) → (ds.length : Int) = i → (xs.length : Int) - i < m →
    fixF (M_i_copyUndo_L1 xs j) m (i, ds) = j (ds ++ xs.drop i.toNat) := by
  intro m
  induction m with
  | zero => intro i ds _ _ _ h; omega
  | succ m ih =>
    intro i ds hi hi' hd hm
    simp only [fixF, M_i_copyUndo_L1, guardO, Bool.cond_decide]
    by_cases h1 : i < (xs.length : Int)
    · have hb := hs (at' xs i) (List.mem_of_getElem? (at_some ⟨hi, h1⟩))
      rw [if_pos h1, if_pos ⟨hi, h1⟩, bindO_of (copyLine_i (at' xs i) hb), if_pos (by simp; omega), W_eq (by omega) (by omega), ih (i + 1) _ (by omega) (by omega) (by simp; omega) (by omega), drop_at hi h1]
      simp
    · rw [if_neg h1, List.drop_eq_nil_of_le (by omega)]
      simp
theorem copyUndo_s (xs : List (List Int × Int)) (hl : (xs.length : Int) ≤ 1048576) (hs : ∀ s ∈ xs, (s.1.length : Int) ≤ 1048576) : M_s_l15Lines xs = some xs := by
  unfold M_s_l15Lines
  simp only [joinO]
  rw [undoCopy_s xs hl hs _ FUEL 0 [] (by omega) (by omega) (by simp) (by rw [fuel_eq]; omega)]
  simp
theorem copyUndo_i (xs : List (List Int × Int)) (hl : (xs.length : Int) ≤ 1048576) (hs : ∀ s ∈ xs, (s.1.length : Int) ≤ 1048576) : M_i_copyUndo xs = some xs := by
  unfold M_i_copyUndo
  simp only [joinO]
  rw [undoCopy_i xs hl hs _ FUEL 0 [] (by omega) (by omega) (by simp) (by rw [fuel_eq]; omega)]
  simp

section
variable (vi : Bool) (mode : Int) (line : List Int × Int) (count op opc wait fr fh last : Int) (ring : List (List Int)) (undo : List (List Int × Int)) (nav : Int) (own : List Int × Int) (query : List Int) (hit : Int) (back : List Int × Int)
  (h1 : line.1.length ≤ 1048576) (h2 : ring.length ≤ 1048576) (h3 : ∀ s ∈ ring, s.length ≤ 1048576) (h4 : undo.length ≤ 1048576) (h5 : ∀ s ∈ undo, s.1.length ≤ 1048576) (h6 : own.1.length ≤ 1048576) (h7 : query.length ≤ 1048576) (h8 : back.1.length ≤ 1048576)
include h1 h2 h3 h4 h5 h6 h7 h8
theorem copyEd_s : M_s_l21Copy (vi, mode, line, count, op, opc, wait, fr, fh, last, ring, undo, nav, own, query, hit, back) = some (vi, mode, line, count, op, opc, wait, fr, fh, last, ring, undo, nav, own, query, hit, back) := by
  unfold M_s_l21Copy
  simp only [copyLine_s line (by omega), copyLine_s own (by omega), copyLine_s back (by omega), copyRing_s ring (by omega) (fun s h => by have := h3 s h; omega), copyUndo_s undo (by omega) (fun s h => by have := h5 s h; omega), bindO, guardO]
  rw [if_pos (by simp; omega)]
  simp
theorem copyEd_i : M_i_copyEd (vi, mode, line, count, op, opc, wait, fr, fh, last, ring, undo, nav, own, query, hit, back) = some (vi, mode, line, count, op, opc, wait, fr, fh, last, ring, undo, nav, own, query, hit, back) := by
  unfold M_i_copyEd
  simp only [copyLine_i line (by omega), copyLine_i own (by omega), copyLine_i back (by omega), copyRing_i ring (by omega) (fun s h => by have := h3 s h; omega), copyUndo_i undo (by omega) (fun s h => by have := h5 s h; omega), copyInts_i query (by omega), bindO]
end

theorem in_eq (a b c : Int) : M_i_in a b c = some (decide (b ≤ a ∧ a ≤ c)) := by
  unfold M_i_in
  congr 1
  by_cases h1 : b ≤ a <;> by_cases h2 : a ≤ c <;> simp [h1, h2]

def pr (r : Int) : Bool := decide ((0 ≤ r ∧ r ≤ 1114111 ∧ (r < 55296 ∨ 57343 < r)) ∧ 32 ≤ r ∧ (r < 127 ∨ 159 < r))

theorem callO_of {α β : Type} {c : Prop} [Decidable c] {x d : α} {k : α → Option β} : callO c (some x) d k = k (if c then x else d) := by
  unfold callO
  split <;> simp [bindO, *]

theorem printable_s (r : Int) : M_s_Printable r = some (pr r) := by
  unfold M_s_Printable pr M_s_RuneOk
  simp only [bindO]
  congr 1
  by_cases h1 : 0 ≤ r <;> by_cases h2 : r ≤ 1114111 <;> by_cases h3 : r < 55296 <;> by_cases h4 : 57343 < r <;> by_cases h5 : 32 ≤ r <;> by_cases h6 : r < 127 <;> simp [h1, h2, h3, h4, h5, h6]

theorem printable_i (r : Int) : M_i_Printable r = some (pr r) := by
  unfold M_i_Printable pr M_i_RuneOk
  simp only [in_eq, callO_of, bindO]
  congr 1
  by_cases h1 : 0 ≤ r ∧ r ≤ 1114111
  · by_cases h2 : 55296 ≤ r ∧ r ≤ 57343
    · have : ¬ (r < 55296 ∨ 57343 < r) := by omega
      simp [h1, h2, this]
    · have : (r < 55296 ∨ 57343 < r) := by omega
      by_cases h5 : 32 ≤ r
      · by_cases h6 : 127 ≤ r ∧ r ≤ 159
        · have : ¬ (r < 127 ∨ 159 < r) := by omega
          simp [h1, h2, h5, h6, this]
        · have : (r < 127 ∨ 159 < r) := by omega
          simp [h1, h2, h5, h6, *]
      · simp [h1, h2, h5]
  · have : ¬ (0 ≤ r ∧ r ≤ 1114111 ∧ (r < 55296 ∨ 57343 < r)) := fun h => h1 ⟨h.1, h.2.1⟩
    simp [h1, this]

def adm (r : Int) : Bool := pr r || decide (r = 9) || decide (r = 10)

theorem typed_s (r : Int) : M_s_l13Typed r = some (adm r) := by
  unfold M_s_l13Typed adm
  rw [bindO_of (printable_s r)]
  cases pr r <;> by_cases h : r = 9 <;> by_cases h' : r = 10 <;> simp [h, h']

theorem admissible_i (r : Int) : M_i_admissible r = some (adm r) := by
  unfold M_i_admissible adm
  rw [bindO_of (printable_i r)]
  cases pr r <;> by_cases h : r = 9 <;> by_cases h' : r = 10 <;> simp [h, h']

theorem allTyped_loop (t : List Int) (ht : t.length ≤ 100000000) (j : Unit → Option Bool) : ∀ (m : Nat) (k : Int), 0 ≤ k → k ≤ (t.length : Int) → (t.length : Int) - k < m → fixF (M_s_l13AllTyped_L1 t j) m k = if (t.drop k.toNat).all adm then j () else some false := by
  intro m
  induction m with
  | zero => intro k _ _ h; omega
  | succ m ih =>
    intro k hk hk' hm
    simp only [fixF, M_s_l13AllTyped_L1, guardO, Bool.cond_decide, typed_s, bindO]
    by_cases h1 : k < (t.length : Int)
    · rw [if_pos h1, if_pos ⟨hk, h1⟩, W_eq (by omega) (by omega), drop_at hk h1]
      by_cases h2 : adm (at' t k)
      · rw [ih (k + 1) (by omega) (by omega) (by omega)]
        simp [h2]
      · simp [h2]
    · rw [if_neg h1, List.drop_eq_nil_of_le (by omega)]
      simp

theorem allTyped_s (t : List Int) (ht : t.length ≤ 100000000) : M_s_l13AllTyped t = some (t.all adm) := by
  unfold M_s_l13AllTyped joinO
  show fixF (M_s_l13AllTyped_L1 t fun _ => some true) FUEL 0 = _
  rw [allTyped_loop t ht _ FUEL 0 (by omega) (by omega) (by rw [fuel_eq]; omega)]
  simp only [Int.toNat_zero, List.drop_zero]
  cases t.all adm <;> simp

theorem areAdm_loop (t : List Int) (ht : t.length ≤ 100000000) (j : Unit → Option Bool) : ∀ (m : Nat) (k : Int), 0 ≤ k → k ≤ (t.length : Int) → (k = 0 ∨ k ≤ 400) → (t.length : Int) - k < m → fixF (M_i_areAdmissible_L1 t j) m k = if (t.drop k.toNat).all adm ∧ t.length ≤ 400 then j () else some false := by
  intro m
  induction m with
  | zero => intro k _ _ _ h; omega
  | succ m ih =>
    intro k hk hk' h4 hm
    simp only [fixF, M_i_areAdmissible_L1, guardO, Bool.cond_decide, admissible_i, callO_of]
    by_cases h1 : k < (t.length : Int)
    · rw [if_pos h1, if_pos ⟨hk, h1⟩, W_eq (by omega) (by omega), drop_at hk h1]
      by_cases h3 : 400 ≤ k
      · have : ¬ t.length ≤ 400 := by omega
        simp [h3, this]
      · by_cases h2 : adm (at' t k)
        · rw [ih (k + 1) (by omega) (by omega) (by omega) (by omega)]
          simp [h2, h3]
        · simp [h2, h3]
    · rw [if_neg h1, List.drop_eq_nil_of_le (by omega)]
      have : t.length ≤ 400 := by omega
      simp [this]

def allAdm (t : List Int) : Bool := t.all adm && decide (t.length ≤ 400)

theorem areAdm_i (t : List Int) (ht : t.length ≤ 100000000) : M_i_areAdmissible t = some (allAdm t) := by
  unfold M_i_areAdmissible joinO allAdm
  show fixF (M_i_areAdmissible_L1 t fun _ => some true) FUEL 0 = _
  rw [areAdm_loop t ht _ FUEL 0 (by omega) (by omega) (.inl rfl) (by rw [fuel_eq]; omega)]
  simp only [Int.toNat_zero, List.drop_zero]
  by_cases h : t.length ≤ 400 <;> cases t.all adm <;> simp [h]

def lineOk (l : List Int × Int) : Bool := allAdm l.1 && decide (0 ≤ l.2 ∧ l.2 ≤ (l.1.length : Int))

theorem lineOk_s (l : List Int × Int) (hl : l.1.length ≤ 100000000) : M_s_LineOk l = some (lineOk l) := by
  unfold M_s_LineOk lineOk allAdm
  rw [allTyped_s _ hl]
  simp only [callO_of]
  congr 1
  by_cases h : l.1.length ≤ 400
  · have h' : (l.1.length : Int) ≤ 400 := by omega
    by_cases h2 : 0 ≤ l.2 <;> by_cases h3 : l.2 ≤ (l.1.length : Int) <;> cases l.1.all adm <;> simp [h, h', h2, h3]
  · have h' : ¬ (l.1.length : Int) ≤ 400 := by omega
    simp [h, h']

theorem lineOk_i (l : List Int × Int) (hl : l.1.length ≤ 100000000) : M_i_LineOk l = some (lineOk l) := by
  unfold M_i_LineOk lineOk
  rw [bindO_of (areAdm_i _ hl)]
  simp only [in_eq, callO_of]
  congr 1
  cases allAdm l.1 <;> simp

def pieceOk (p : List Int) : Bool := allAdm p && !(decide (p.length = 0))
theorem ringLoop_s (r : List (List Int)) (hr : r.length ≤ 100000000) (hp : ∀ p ∈ r, p.length ≤ 100000000) (j : Unit → Option Bool) : ∀ (m : Nat) (k : Int), 0 ≤ k → k ≤ (r.length : Int) → (r.length : Int) - k < m → fixF (M_s_RingOk_L1 r j) m k = if (r.drop k.toNat).all pieceOk then j () else some false := by
  intro m
  induction m with
  | zero => intro k _ _ h; omega
  | succ m ih =>
    intro k hk hk' hm
    simp only [fixF, M_s_RingOk_L1, guardO, Bool.cond_decide]
    by_cases h1 : k < (r.length : Int)
    · have hq := hp (at' r k) (List.mem_of_getElem? (at_some ⟨hk, h1⟩))
      have e : M_s_l15Piece (at' r k) = some (allAdm (at' r k)) := by
        unfold M_s_l15Piece allAdm
        rw [allTyped_s _ hq, callO_of]
        congr 1
        by_cases h : (at' r k).length ≤ 400
        · have h' : ((at' r k).length : Int) ≤ 400 := by omega
          simp [h, h']
        · have h' : ¬ ((at' r k).length : Int) ≤ 400 := by omega
          simp [h, h']
      rw [if_pos h1, if_pos ⟨hk, h1⟩, W_eq (by omega) (by omega), drop_at hk h1, e, callO_of, ih (k + 1) (by omega) (by omega) (by omega)]
      have hb : (if ((at' r k).length : Int) = 0 then true else !(if decide (((at' r k).length : Int) = 0) = false then allAdm (at' r k) else false)) = !(pieceOk (at' r k)) := by
        unfold pieceOk
        by_cases hz : (at' r k).length = 0
        · have hz' : ((at' r k).length : Int) = 0 := by omega
          rw [if_pos hz', decide_eq_true hz]; simp
        · have hz' : ¬ ((at' r k).length : Int) = 0 := by omega
          rw [if_neg hz', decide_eq_false hz, decide_eq_false hz']; simp
      rw [hb]
      by_cases hz : pieceOk (at' r k) = true <;> simp [hz]
    · rw [if_neg h1, List.drop_eq_nil_of_le (by omega)]
      simp

theorem ringLoop_i (r : List (List Int)) (hr : r.length ≤ 100000000) (hp : ∀ p ∈ r, p.length ≤ 100000000) (j : Unit → Option Bool) : ∀ (m : Nat) (k : Int), 0 ≤ k → k ≤ (r.length : Int) → (r.length : Int) - k < m → fixF (M_i_RingOk_L1 r j) m k = if (r.drop k.toNat).all pieceOk then j () else some false := by
  intro m
  induction m with
  | zero => intro k _ _ h; omega
  | succ m ih =>
    intro k hk hk' hm
    simp only [fixF, M_i_RingOk_L1, guardO, Bool.cond_decide]
    by_cases h1 : k < (r.length : Int)
    · have hq := hp (at' r k) (List.mem_of_getElem? (at_some ⟨hk, h1⟩))
      rw [if_pos h1, if_pos ⟨hk, h1⟩, W_eq (by omega) (by omega), drop_at hk h1, areAdm_i _ hq, callO_of, ih (k + 1) (by omega) (by omega) (by omega)]
      have hb : (if ((at' r k).length : Int) = 0 then true else !(if decide (((at' r k).length : Int) = 0) = false then allAdm (at' r k) else false)) = !(pieceOk (at' r k)) := by
        unfold pieceOk
        by_cases hz : (at' r k).length = 0
        · have hz' : ((at' r k).length : Int) = 0 := by omega
          rw [if_pos hz', decide_eq_true hz]; simp
        · have hz' : ¬ ((at' r k).length : Int) = 0 := by omega
          rw [if_neg hz', decide_eq_false hz, decide_eq_false hz']; simp
      rw [hb]
      by_cases hz : pieceOk (at' r k) = true <;> simp [hz]
    · rw [if_neg h1, List.drop_eq_nil_of_le (by omega)]
      simp

def ringOk (r : List (List Int)) : Bool := r.all pieceOk && decide (r.length ≤ 6)

theorem dec_len {n m : Nat} : decide ((n : Int) ≤ (m : Int)) = decide (n ≤ m) := by
  by_cases h : n ≤ m
  · rw [decide_eq_true h, decide_eq_true (by omega)]
  · rw [decide_eq_false h, decide_eq_false (by omega)]

theorem ringOk_s (r : List (List Int)) (hr : r.length ≤ 100000000) (hp : ∀ p ∈ r, p.length ≤ 100000000) : M_s_RingOk r = some (ringOk r) := by
  unfold M_s_RingOk ringOk
  simp only [joinO]
  rw [ringLoop_s r hr hp _ FUEL 0 (by omega) (by omega) (by rw [fuel_eq]; omega)]
  have := dec_len (n := r.length) (m := 6)
  simp only [Int.toNat_zero, List.drop_zero] at this ⊢
  have e6 : ((6 : Nat) : Int) = 6 := rfl
  rw [e6] at this
  rw [this]
  cases r.all pieceOk <;> simp

theorem ringOk_i (r : List (List Int)) (hr : r.length ≤ 100000000) (hp : ∀ p ∈ r, p.length ≤ 100000000) : M_i_RingOk r = some (ringOk r) := by
  unfold M_i_RingOk ringOk
  simp only [joinO]
  rw [ringLoop_i r hr hp _ FUEL 0 (by omega) (by omega) (by rw [fuel_eq]; omega)]
  have := dec_len (n := r.length) (m := 6)
  simp only [Int.toNat_zero, List.drop_zero] at this ⊢
  have e6 : ((6 : Nat) : Int) = 6 := rfl
  rw [e6] at this
  rw [this]
  cases r.all pieceOk <;> simp

theorem undoLoop_s (r : List (List Int × Int)) (hr : r.length ≤ 100000000) (hp : ∀ p ∈ r, p.1.length ≤ 100000000) (j : Unit → Option Bool) : ∀ (m : Nat) (k : Int), 0 ≤ k → k ≤ (r.length : Int) → (r.length : Int) - k < m → fixF (M_s_UndoOk_L1 r j) m k = if (r.drop k.toNat).all lineOk then j () else some false := by
  intro m
  induction m with
  | zero => intro k _ _ h; omega
  | succ m ih =>
    intro k hk hk' hm
    simp only [fixF, M_s_UndoOk_L1, guardO, Bool.cond_decide]
    by_cases h1 : k < (r.length : Int)
    · have hq := hp (at' r k) (List.mem_of_getElem? (at_some ⟨hk, h1⟩))
      rw [if_pos h1, if_pos ⟨hk, h1⟩, W_eq (by omega) (by omega), drop_at hk h1, bindO_of (lineOk_s (at' r k) hq), ih (k + 1) (by omega) (by omega) (by omega)]
      obtain ⟨x, hx⟩ : ∃ x, x = lineOk (at' r k) := ⟨_, rfl⟩
      rw [List.all_cons, ← hx]
      cases x <;> rfl
    · rw [if_neg h1, List.drop_eq_nil_of_le (by omega)]
      simp

theorem undoLoop_i (r : List (List Int × Int)) (hr : r.length ≤ 100000000) (hp : ∀ p ∈ r, p.1.length ≤ 100000000) (j : Unit → Option Bool) : ∀ (m : Nat) (k : Int), 0 ≤ k → k ≤ (r.length : Int) → (r.length : Int) - k < m → fixF (M_i_UndoOk_L1 r j) m k = if (r.drop k.toNat).all lineOk then j () else some false := by
  intro m
  induction m with
  | zero => intro k _ _ h; omega
  | succ m ih =>
    intro k hk hk' hm
    simp only [fixF, M_i_UndoOk_L1, guardO, Bool.cond_decide]
    by_cases h1 : k < (r.length : Int)
    · have hq := hp (at' r k) (List.mem_of_getElem? (at_some ⟨hk, h1⟩))
      rw [if_pos h1, if_pos ⟨hk, h1⟩, W_eq (by omega) (by omega), drop_at hk h1, bindO_of (lineOk_i (at' r k) hq), ih (k + 1) (by omega) (by omega) (by omega)]
      obtain ⟨x, hx⟩ : ∃ x, x = lineOk (at' r k) := ⟨_, rfl⟩
      rw [List.all_cons, ← hx]
      cases x <;> rfl
    · rw [if_neg h1, List.drop_eq_nil_of_le (by omega)]
      simp

def undoOk (r : List (List Int × Int)) : Bool := r.all lineOk && decide (r.length ≤ 20)

theorem undoOk_s (r : List (List Int × Int)) (hr : r.length ≤ 100000000) (hp : ∀ p ∈ r, p.1.length ≤ 100000000) : M_s_UndoOk r = some (undoOk r) := by
  unfold M_s_UndoOk undoOk
  simp only [joinO]
  rw [undoLoop_s r hr hp _ FUEL 0 (by omega) (by omega) (by rw [fuel_eq]; omega)]
  have := dec_len (n := r.length) (m := 20)
  simp only [Int.toNat_zero, List.drop_zero] at this ⊢
  have e6 : ((20 : Nat) : Int) = 20 := rfl
  rw [e6] at this
  rw [this]
  cases r.all lineOk <;> simp

theorem undoOk_i (r : List (List Int × Int)) (hr : r.length ≤ 100000000) (hp : ∀ p ∈ r, p.1.length ≤ 100000000) : M_i_UndoOk r = some (undoOk r) := by
  unfold M_i_UndoOk undoOk
  simp only [joinO]
  rw [undoLoop_i r hr hp _ FUEL 0 (by omega) (by omega) (by rw [fuel_eq]; omega)]
  have := dec_len (n := r.length) (m := 20)
  simp only [Int.toNat_zero, List.drop_zero] at this ⊢
  have e6 : ((20 : Nat) : Int) = 20 := rfl
  rw [e6] at this
  rw [this]
  cases r.all lineOk <;> simp

def among (n : Int) (l : List Int) : Bool := l.any (fun x => decide (x = n))

theorem hasInt_loop (l : List Int) (n : Int) (hl : l.length ≤ 100000000) : ∀ (m : Nat) (k : Int), 0 ≤ k → k ≤ (l.length : Int) → (l.length : Int) - k < m → fixF (M_s_l03HasInt_L1 l n fun _ => some false) m k = some (among n (l.drop k.toNat)) := by
  intro m
  induction m with
  | zero => intro k _ _ h; omega
  | succ m ih =>
    intro k hk hk' hm
    simp only [fixF, M_s_l03HasInt_L1, guardO, Bool.cond_decide]
    by_cases h1 : k < (l.length : Int)
    · rw [if_pos h1, if_pos ⟨hk, h1⟩, W_eq (by omega) (by omega), drop_at hk h1, ih (k + 1) (by omega) (by omega) (by omega)]
      unfold among
      by_cases h2 : at' l k = n
      · simp [h2]
      · simp [h2]
    · rw [if_neg h1, List.drop_eq_nil_of_le (by omega)]
      simp [among]

theorem among_s (n : Int) (l : List Int) (hl : l.length ≤ 100000000) : M_s_l21Among n l = some (among n l) := by
  unfold M_s_l21Among M_s_l03HasInt
  simp only [joinO]
  rw [hasInt_loop l n hl FUEL 0 (by omega) (by omega) (by rw [fuel_eq]; omega)]
  simp [bindO]

theorem isAmong_loop (l : List UInt8) (n : Int) (hl : l.length ≤ 100000000) : ∀ (m : Nat) (k : Int), 0 ≤ k → k ≤ (l.length : Int) → (l.length : Int) - k < m → fixF (M_i_isAmong_L1 n l fun _ => some false) m k = some (among n ((l.drop k.toNat).map (fun b => (b.toNat : Int)))) := by
  intro m
  induction m with
  | zero => intro k _ _ h; omega
  | succ m ih =>
    intro k hk hk' hm
    simp only [fixF, M_i_isAmong_L1, guardO, Bool.cond_decide]
    by_cases h1 : k < (l.length : Int)
    · rw [if_pos h1, if_pos ⟨hk, h1⟩, W_eq (by omega) (by omega), drop_at hk h1, ih (k + 1) (by omega) (by omega) (by omega)]
      unfold among
      by_cases h2 : ((at' l k).toNat : Int) = n
      · simp [h2]
      · simp [h2]
    · rw [if_neg h1, List.drop_eq_nil_of_le (by omega)]
      simp [among]

theorem among_i (n : Int) (l : List UInt8) (hl : l.length ≤ 100000000) : M_i_isAmong n l = some (among n (l.map (fun b => (b.toNat : Int)))) := by
  unfold M_i_isAmong
  simp only [joinO]
  rw [isAmong_loop l n hl FUEL 0 (by omega) (by omega) (by rw [fuel_eq]; omega)]
  simp

def emptyL (l : List Int × Int) : Bool := decide ((l.1.length : Int) = 0) && decide (l.2 = 0)
theorem empty_s (l : List Int × Int) : M_s_l21Empty l = some (emptyL l) := by
  unfold M_s_l21Empty emptyL; cases decide ((l.1.length : Int) = 0) <;> rfl
theorem empty_i (l : List Int × Int) : M_i_emptyLine l = some (emptyL l) := by
  unfold M_i_emptyLine emptyL; cases decide ((l.1.length : Int) = 0) <;> rfl

def atEnd (l : List Int × Int) : Bool := decide (0 < (l.1.length : Int)) && decide (l.2 = (l.1.length : Int))
theorem atEnd_i (l : List Int × Int) : M_i_isAtEnd l = some (atEnd l) := by
  unfold M_i_isAtEnd atEnd; cases decide (0 < (l.1.length : Int)) <;> rfl

abbrev EdT := Bool × Int × (List Int × Int) × Int × Int × Int × Int × Int × Int × Int × List (List Int) × (List (List Int × Int)) × Int × (List Int × Int) × List Int × Int × List Int × Int

def modeB (vi : Bool) (mode : Int) (line : List Int × Int) (op opc wait : Int) : Bool :=
  decide (0 ≤ mode ∧ mode ≤ 3 ∧ (mode = 0 → vi = false) ∧ (mode = 1 → vi = true) ∧ (mode = 2 → vi = true) ∧ (mode = 2 → atEnd line = false) ∧ (mode ≠ 2 → op = 0 ∧ opc = 0 ∧ wait = 0) ∧ (op = 0 → opc = 0)) && among op [0, 100, 99, 121] && among wait [0, 102, 70, 116, 84, 114]

def searchB (mode : Int) (query : List Int) (hit : Int) (back : List Int × Int) : Bool :=
  decide (mode = 3) || (decide ((query.length : Int) = 0) && decide (hit = 0) && emptyL back)

set_option maxHeartbeats 4000000 in
theorem mode_s (vi : Bool) (mode : Int) (line : List Int × Int) (count op opc wait fr fh last : Int) (ring : List (List Int)) (undo : List (List Int × Int)) (nav : Int) (own : List Int × Int) (query : List Int) (hit : Int) (back : List Int × Int) :
    M_s_l21Mode (vi, mode, line, count, op, opc, wait, fr, fh, last, ring, undo, nav, own, query, hit, back) = some (modeB vi mode line op opc wait && searchB mode query hit back) := by
  unfold M_s_l21Mode
  have hg : (gl (among op [0, 100, 99, 121]) ([0, 102, 70, 116, 84, 114] : List Int)).length ≤ 100000000 := by
    cases among op [0, 100, 99, 121] <;> simp [gl]
  simp only [empty_s, among_s _ _ (show ([0, 100, 99, 121] : List Int).length ≤ 100000000 by simp), bindO, callO_of]
  rw [among_s _ _ hg, callO_of]
  unfold modeB searchB
  generalize hA : among op [0, 100, 99, 121] = A
  generalize hE : emptyL back = E
  have hW : (if A = true then among wait (gl A [0, 102, 70, 116, 84, 114]) else false) = (A && among wait [0, 102, 70, 116, 84, 114]) := by
    cases A <;> simp [gl]
  rw [hW]
  generalize hB : among wait [0, 102, 70, 116, 84, 114] = Bw
  have hAt : (bif (bif (decide (mode = 2)) then (decide (0 < (line.1.length : Int))) else false) then (decide (line.2 = (line.1.length : Int))) else false) = (decide (mode = 2) && atEnd line) := by
    unfold atEnd
    by_cases h : mode = 2 <;> simp [h]
  rw [hAt]
  generalize atEnd line = T
  generalize hQ : (query.length : Int) = q
  have hq : 0 ≤ q := by omega
  by_cases m0 : mode < 0
  · have : ¬ 0 ≤ mode := by omega
    simp [m0, this]
  by_cases m3 : 3 < mode
  · have : ¬ mode ≤ 3 := by omega
    simp [m0, m3, this]
  have hm : mode = 0 ∨ mode = 1 ∨ mode = 2 ∨ mode = 3 := by omega
  by_cases q0 : 0 < q
  · have q0' : ¬ q = 0 := by omega
    rcases hm with rfl | rfl | rfl | rfl <;> cases vi <;> cases A <;> cases Bw <;> cases T <;> by_cases o : op = 0 <;> by_cases oc : opc = 0 <;> by_cases w : wait = 0 <;> simp [o, oc, w, q0, q0']
  · have q0' : q = 0 := by omega
    by_cases hh : hit = 0 <;> rcases hm with rfl | rfl | rfl | rfl <;> cases vi <;> cases A <;> cases Bw <;> cases T <;> cases E <;> by_cases o : op = 0 <;> by_cases oc : opc = 0 <;> by_cases w : wait = 0 <;> simp [o, oc, w, q0', hh]

theorem among_op (op : Int) : among op [0, 100, 99, 121] = (decide (op = 0) || among op [100, 99, 121]) := by
  have e : decide (0 = op) = decide (op = 0) := by simp [eq_comm]
  simp only [among, List.any_cons, e]
theorem among_wt (op : Int) : among op [0, 102, 70, 116, 84, 114] = (decide (op = 0) || among op [102, 70, 116, 84, 114]) := by
  have e : decide (0 = op) = decide (op = 0) := by simp [eq_comm]
  simp only [among, List.any_cons, e]

set_option maxHeartbeats 4000000 in
theorem mode_i (vi : Bool) (mode : Int) (line : List Int × Int) (count op opc wait fr fh last : Int) (ring : List (List Int)) (undo : List (List Int × Int)) (nav : Int) (own : List Int × Int) (query : List Int) (hit : Int) (back : List Int × Int) :
    M_i_modeOk (vi, mode, line, count, op, opc, wait, fr, fh, last, ring, undo, nav, own, query, hit, back) = some (modeB vi mode line op opc wait) := by
  unfold M_i_modeOk modeB
  have e1 : ([100, 99, 121] : List UInt8).map (fun b => (b.toNat : Int)) = [100, 99, 121] := rfl
  have e2 : ([102, 70, 116, 84, 114] : List UInt8).map (fun b => (b.toNat : Int)) = [102, 70, 116, 84, 114] := rfl
  simp only [atEnd_i, among_i _ _ (show ([100, 99, 121] : List UInt8).length ≤ 100000000 by simp), among_i _ _ (show ([102, 70, 116, 84, 114] : List UInt8).length ≤ 100000000 by simp), callO_of, joinO, e1, e2, among_op, among_wt]
  generalize among op [100, 99, 121] = A
  generalize among wait [102, 70, 116, 84, 114] = Bw
  generalize atEnd line = T
  by_cases m0 : mode < 0
  · have h1 : ¬ 0 ≤ mode := by omega
    have h2 : ¬ mode = 0 := by omega
    have h3 : ¬ mode = 1 := by omega
    have h4 : ¬ mode = 2 := by omega
    have h5 : ¬ mode = 3 := by omega
    simp [h1, h2, h3, h4, h5]
  by_cases m3 : 3 < mode
  · have h1 : ¬ mode ≤ 3 := by omega
    have h2 : ¬ mode = 0 := by omega
    have h3 : ¬ mode = 1 := by omega
    have h4 : ¬ mode = 2 := by omega
    have h5 : ¬ mode = 3 := by omega
    simp [h1, h2, h3, h4, h5]
  have hm : mode = 0 ∨ mode = 1 ∨ mode = 2 ∨ mode = 3 := by omega
  rcases hm with rfl | rfl | rfl | rfl <;> cases vi <;> cases A <;> cases Bw <;> cases T <;> by_cases o : op = 0 <;> by_cases oc : opc = 0 <;> by_cases w : wait = 0 <;> simp [o, oc, w]

def findB (fr fh : Int) : Bool := decide ((fr = 0 → fh = 0) ∧ (fr ≠ 0 → 0 ≤ fh ∧ fh ≤ 3)) && (decide (fr = 0) || pr fr)

def edOkB (e : EdT) : Bool := match e with
  | (vi, mode, line, count, op, opc, wait, fr, fh, last, ring, undo, nav, own, query, hit, back) =>
    lineOk line && lineOk own && lineOk back && decide (0 ≤ count ∧ count ≤ 999) && decide (0 ≤ opc ∧ opc ≤ 999) && modeB vi mode line op opc wait && findB fr fh && decide (0 ≤ last ∧ last ≤ 3) && ringOk ring && undoOk undo && decide (0 ≤ nav ∧ nav ≤ 1000000060) && decide (0 ≤ hit ∧ hit ≤ 1000000060) && (!decide (nav = 0) || emptyL own) && decide ((query.length : Int) ≤ 40) && query.all pr && searchB mode query hit back

def Small (N : Nat) (e : EdT) : Prop := match e with
  | (_, _, line, _, _, _, _, _, _, _, ring, undo, _, own, query, _, back) =>
    line.1.length ≤ N ∧ (ring.length ≤ N ∧ ∀ s ∈ ring, s.length ≤ N) ∧ (undo.length ≤ N ∧ ∀ s ∈ undo, s.1.length ≤ N) ∧ own.1.length ≤ N ∧ query.length ≤ N ∧ back.1.length ≤ N

theorem rng (X : Bool) (c lo hi : Int) : (bif (bif X then true else decide (c < lo)) then true else decide (hi < c)) = (X || !decide (lo ≤ c ∧ c ≤ hi)) := by
  by_cases h1 : c < lo
  · have : ¬ (lo ≤ c ∧ c ≤ hi) := by omega
    rw [decide_eq_true h1, decide_eq_false this]; cases X <;> rfl
  · by_cases h2 : hi < c
    · have : ¬ (lo ≤ c ∧ c ≤ hi) := by omega
      rw [decide_eq_true h2, decide_eq_false this]; cases X <;> simp
    · have : (lo ≤ c ∧ c ≤ hi) := by omega
      rw [decide_eq_false h1, decide_eq_false h2, decide_eq_true this]; cases X <;> rfl

theorem rng0 (c lo hi : Int) : (bif decide (c < lo) then true else decide (hi < c)) = !decide (lo ≤ c ∧ c ≤ hi) := by
  have := rng false c lo hi
  simpa using this

theorem gt_le (c hi : Int) : decide (hi < c) = !decide (c ≤ hi) := by
  by_cases h : hi < c
  · rw [decide_eq_true h, decide_eq_false (by omega)]; rfl
  · rw [decide_eq_false h, decide_eq_true (by omega)]; rfl

section
variable (vi : Bool) (mode : Int) (line : List Int × Int) (count op opc wait fr fh last : Int) (ring : List (List Int)) (undo : List (List Int × Int)) (nav : Int) (own : List Int × Int) (query : List Int) (hit : Int) (back : List Int × Int)

theorem edLoop_s (hq : query.length ≤ 100000000) : ∀ (m : Nat) (k : Int), 0 ≤ k → k ≤ (query.length : Int) → (query.length : Int) - k < m → fixF (M_s_EdOk_L1 (vi, mode, line, count, op, opc, wait, fr, fh, last, ring, undo, nav, own, query, hit, back) fun _ => some true) m k = some ((query.drop k.toNat).all pr) := by
  intro m
  induction m with
  | zero => intro k _ _ h; omega
  | succ m ih =>
    intro k hk hk' hm
    simp only [fixF, M_s_EdOk_L1, guardO, Bool.cond_decide, printable_s, bindO]
    by_cases h1 : k < (query.length : Int)
    · rw [if_pos h1, if_pos ⟨hk, h1⟩, W_eq (by omega) (by omega), drop_at hk h1]
      by_cases h2 : pr (at' query k) = true
      · rw [ih (k + 1) (by omega) (by omega) (by omega)]
        simp [h2]
      · simp [h2]
    · rw [if_neg h1, List.drop_eq_nil_of_le (by omega)]
      simp

theorem edLoop_i (hq : query.length ≤ 100000000) (j : Unit → Option Bool) : ∀ (m : Nat) (k : Int), 0 ≤ k → k ≤ (query.length : Int) → (query.length : Int) - k < m → fixF (M_i_EdOk_L1 (vi, mode, line, count, op, opc, wait, fr, fh, last, ring, undo, nav, own, query, hit, back) j) m k = if (query.drop k.toNat).all pr then j () else some false := by
  intro m
  induction m with
  | zero => intro k _ _ h; omega
  | succ m ih =>
    intro k hk hk' hm
    simp only [fixF, M_i_EdOk_L1, guardO, Bool.cond_decide, printable_i, bindO]
    by_cases h1 : k < (query.length : Int)
    · rw [if_pos h1, if_pos ⟨hk, h1⟩, W_eq (by omega) (by omega), drop_at hk h1]
      by_cases h2 : pr (at' query k) = true
      · rw [ih (k + 1) (by omega) (by omega) (by omega)]
        simp [h2]
      · simp [h2]
    · rw [if_neg h1, List.drop_eq_nil_of_le (by omega)]
      simp

theorem edOk_s (hs : Small 100000000 (vi, mode, line, count, op, opc, wait, fr, fh, last, ring, undo, nav, own, query, hit, back)) : M_s_EdOk (vi, mode, line, count, op, opc, wait, fr, fh, last, ring, undo, nav, own, query, hit, back) = some (edOkB (vi, mode, line, count, op, opc, wait, fr, fh, last, ring, undo, nav, own, query, hit, back)) := by
  obtain ⟨h1, ⟨h2, h3⟩, ⟨h4, h5⟩, h6, h7, h8⟩ := hs
  unfold M_s_EdOk edOkB
  simp only [lineOk_s line h1, lineOk_s own h6, lineOk_s back h8, mode_s, ringOk_s ring h2 h3, undoOk_s undo h4 h5, printable_s, empty_s, callO_of, joinO, rng, rng0]
  simp only [gt_le]
  rw [edLoop_s vi mode line count op opc wait fr fh last ring undo nav own query hit back h7 FUEL 0 (by omega) (by omega) (by rw [fuel_eq]; omega)]
  simp only [bindO, Int.toNat_zero, List.drop_zero]
  have hF : (bif (bif (decide (fr = 0)) then (!(decide (fh = 0))) else false) then true else (bif (!(decide (fr = 0))) then (!(if (!decide (fr = 0)) = true ∧ (bif decide (fr = 0) then !decide (fh = 0) else false) = false then pr fr else false) || !decide (0 ≤ fh ∧ fh ≤ 3)) else false)) = !(findB fr fh) := by
    unfold findB
    by_cases a : fr = 0
    · by_cases b : fh = 0 <;> simp [a, b]
    · by_cases b : 0 ≤ fh ∧ fh ≤ 3
      · cases pr fr <;> simp [a, b]
      · cases pr fr <;> simp [a, b]
  rw [hF]
  generalize lineOk line = A1
  generalize lineOk own = A2
  generalize lineOk back = A3
  generalize modeB vi mode line op opc wait = M
  generalize searchB mode query hit back = S
  generalize decide (0 ≤ count ∧ count ≤ 999) = C
  generalize decide (0 ≤ opc ∧ opc ≤ 999) = OC
  generalize decide (0 ≤ last ∧ last ≤ 3) = L
  generalize ringOk ring = R
  generalize undoOk undo = U
  generalize findB fr fh = F
  generalize decide (0 ≤ nav ∧ nav ≤ 1000000060) = N
  generalize decide (0 ≤ hit ∧ hit ≤ 1000000060) = H
  generalize decide (nav = 0) = N0
  generalize emptyL own = EO
  generalize decide ((query.length : Int) ≤ 40) = Q
  generalize query.all pr = P
  cases A1
  · simp
  cases A2
  · simp
  cases A3
  · simp
  cases M
  · simp
  cases S
  · simp
  cases C
  · simp
  cases OC
  · simp
  cases L
  · simp
  cases R
  · simp
  cases U
  · simp
  cases F
  · simp
  cases N
  · simp
  cases H
  · simp
  cases N0 <;> cases EO <;> cases Q <;> cases P <;> rfl

theorem edOk_i (hs : Small 100000000 (vi, mode, line, count, op, opc, wait, fr, fh, last, ring, undo, nav, own, query, hit, back)) : M_i_EdOk (vi, mode, line, count, op, opc, wait, fr, fh, last, ring, undo, nav, own, query, hit, back) = some (edOkB (vi, mode, line, count, op, opc, wait, fr, fh, last, ring, undo, nav, own, query, hit, back)) := by
  obtain ⟨h1, ⟨h2, h3⟩, ⟨h4, h5⟩, h6, h7, h8⟩ := hs
  unfold M_i_EdOk edOkB
  simp only [lineOk_i line h1, lineOk_i own h6, lineOk_i back h8, mode_i, ringOk_i ring h2 h3, undoOk_i undo h4 h5, printable_i, empty_i, callO_of, joinO, in_eq, gt_le]
  rw [edLoop_i vi mode line count op opc wait fr fh last ring undo nav own query hit back h7 _ FUEL 0 (by omega) (by omega) (by rw [fuel_eq]; omega)]
  simp only [bindO, Int.toNat_zero, List.drop_zero]
  have hF : (bif (bif (decide (fr = 0)) then (!(decide (fh = 0))) else false) then true else (bif (!(decide (fr = 0))) then (bif (!(if (!decide (fr = 0)) = true ∧ (bif decide (fr = 0) then !decide (fh = 0) else false) = false then pr fr else false)) then true else (!(if (!if (!decide (fr = 0)) = true ∧ (bif decide (fr = 0) then !decide (fh = 0) else false) = false then pr fr else false) = false ∧ (!decide (fr = 0)) = true ∧ (bif decide (fr = 0) then !decide (fh = 0) else false) = false then decide (0 ≤ fh ∧ fh ≤ 3) else false))) else false)) = !(findB fr fh) := by
    unfold findB
    by_cases a : fr = 0
    · by_cases b : fh = 0 <;> simp [a, b]
    · by_cases b : 0 ≤ fh ∧ fh ≤ 3
      · cases pr fr <;> simp [a, b]
      · cases pr fr <;> simp [a, b]
  rw [hF]
  have hS : (bif (decide (mode = 3)) then true else (bif (bif (decide ((query.length : Int) = 0)) then (decide (hit = 0)) else false) then (if (bif (decide ((query.length : Int) = 0)) then (decide (hit = 0)) else false) = true ∧ (decide (mode = 3)) = false then emptyL back else false) else false)) = searchB mode query hit back := by
    unfold searchB
    by_cases a : mode = 3 <;> by_cases b : (query.length : Int) = 0 <;> by_cases c : hit = 0 <;> cases emptyL back <;> simp [a, b, c]
  have hS' : emptyL (back.1, back.2) = emptyL back := rfl
  rw [hS', hS]
  generalize lineOk line = A1
  generalize lineOk own = A2
  generalize lineOk back = A3
  generalize modeB vi mode line op opc wait = M
  generalize searchB mode query hit back = S
  generalize decide (0 ≤ count ∧ count ≤ 999) = C
  generalize decide (0 ≤ opc ∧ opc ≤ 999) = OC
  generalize decide (0 ≤ last ∧ last ≤ 3) = L
  generalize ringOk ring = R
  generalize undoOk undo = U
  generalize findB fr fh = F
  generalize decide (0 ≤ nav ∧ nav ≤ 1000000060) = N
  generalize decide (0 ≤ hit ∧ hit ≤ 1000000060) = H
  generalize decide (nav = 0) = N0
  generalize emptyL own = EO
  generalize decide ((query.length : Int) ≤ 40) = Q
  generalize query.all pr = P
  cases A1
  · simp
  cases A2
  · simp
  cases A3
  · simp
  cases C
  · simp
  cases OC
  · simp
  cases M
  · simp
  cases F
  · simp
  cases L
  · simp
  cases R
  · simp
  cases U
  · simp
  cases N
  · simp
  cases H
  · simp
  cases N0 <;> cases EO <;> cases Q <;> cases P <;> cases S <;> rfl
end

def clipAt (mode : Int) (l : List Int × Int) : Int := if mode = 2 ∧ l.2 = (l.1.length : Int) ∧ 0 < l.2 then l.2 - 1 else l.2

def zEd : EdT := (false, 0, ([], 0), 0, 0, 0, 0, 0, 0, 0, [], [], 0, ([], 0), [], 0, ([], 0))

theorem edOkB_parts {vi : Bool} {mode : Int} {line : List Int × Int} {count op opc wait fr fh last : Int} {ring : List (List Int)} {undo : List (List Int × Int)} {nav : Int} {own : List Int × Int} {query : List Int} {hit : Int} {back : List Int × Int} (h : edOkB (vi, mode, line, count, op, opc, wait, fr, fh, last, ring, undo, nav, own, query, hit, back) = true) : lineOk line = true ∧ undoOk undo = true := by
  unfold edOkB at h
  simp only [Bool.and_eq_true] at h
  exact ⟨h.1.1.1.1.1.1.1.1.1.1.1.1.1.1.1, h.1.1.1.1.1.1.2⟩

theorem clip_s (vi : Bool) (mode : Int) (l : List Int × Int) (count op opc wait fr fh last : Int) (ring : List (List Int)) (undo : List (List Int × Int)) (nav : Int) (own : List Int × Int) (query : List Int) (hit : Int) (back : List Int × Int) (wl : l.2 ≤ 9223372036854775807) :
    M_s_l21Clip (vi, mode, l, count, op, opc, wait, fr, fh, last, ring, undo, nav, own, query, hit, back) = some (vi, mode, (l.1, clipAt mode l), count, op, opc, wait, fr, fh, last, ring, undo, nav, own, query, hit, back) := by
  unfold M_s_l21Clip clipAt
  simp only [joinO]
  by_cases a : mode = 2
  · by_cases b : l.2 = (l.1.length : Int)
    · by_cases c : 0 < l.2
      · rw [W_eq (x := l.2 - 1) (by omega) (by omega), if_pos (show mode = 2 ∧ l.2 = (l.1.length : Int) ∧ 0 < l.2 from ⟨a, b, c⟩), decide_eq_true a, decide_eq_true b, decide_eq_true c]
        rfl
      · rw [if_neg (show ¬ (mode = 2 ∧ l.2 = (l.1.length : Int) ∧ 0 < l.2) from fun h => c h.2.2), decide_eq_true a, decide_eq_true b, decide_eq_false c]
        rfl
    · rw [if_neg (show ¬ (mode = 2 ∧ l.2 = (l.1.length : Int) ∧ 0 < l.2) from fun h => b h.2.1), decide_eq_true a, decide_eq_false b]
      rfl
  · rw [if_neg (show ¬ (mode = 2 ∧ l.2 = (l.1.length : Int) ∧ 0 < l.2) from fun h => a h.1), decide_eq_false a]
    rfl

theorem inCommand_i (l : List Int × Int) (mode : Int) (wl : l.2 ≤ 9223372036854775807) : M_i_inCommand l mode = some (l.1, clipAt mode l) := by
  unfold M_i_inCommand clipAt
  simp only [joinO, atEnd_i, callO_of]
  unfold atEnd
  by_cases a : mode = 2
  · by_cases b : l.2 = (l.1.length : Int)
    · by_cases c : 0 < l.2
      · have c' : 0 < (l.1.length : Int) := by omega
        rw [W_eq (x := l.2 - 1) (by omega) (by omega), if_pos (show mode = 2 ∧ l.2 = (l.1.length : Int) ∧ 0 < l.2 from ⟨a, b, c⟩), decide_eq_true a, decide_eq_true b, decide_eq_true c']
        rfl
      · have c' : ¬ 0 < (l.1.length : Int) := by omega
        rw [if_neg (show ¬ (mode = 2 ∧ l.2 = (l.1.length : Int) ∧ 0 < l.2) from fun h => c h.2.2), decide_eq_true a, decide_eq_false c']
        rfl
    · rw [if_neg (show ¬ (mode = 2 ∧ l.2 = (l.1.length : Int) ∧ 0 < l.2) from fun h => b h.2.1), decide_eq_true a, decide_eq_false b]
      simp
  · rw [if_neg (show ¬ (mode = 2 ∧ l.2 = (l.1.length : Int) ∧ 0 < l.2) from fun h => a h.1), decide_eq_false a]
    rfl

theorem clamp_eq (a n : Int) (hn : 0 ≤ n) : M_s_l08Clamp a n = some (max 0 (min a n)) := by
  simp only [M_s_l08Clamp, Bool.cond_decide]
  split
  · congr 1; omega
  · split <;> (congr 1; omega)

theorem join_s (a b c : List Int) (h : a.length + b.length + c.length ≤ 536870912) : M_s_l13Join a b c = some (a ++ b ++ c) := by
  unfold M_s_l13Join guardO
  rw [if_pos (by simp; omega), if_pos (by simp; omega), if_pos (by simp; omega)]
  simp

theorem piece_s (t : List Int) (h : t.length ≤ 100000000) : M_s_l15Piece t = some (allAdm t) := by
  unfold M_s_l15Piece allAdm
  rw [allTyped_s t h, callO_of]
  by_cases c : t.length ≤ 400
  · have c' : (t.length : Int) ≤ 400 := by omega
    simp [c, c']
  · have c' : ¬ (t.length : Int) ≤ 400 := by omega
    simp [c, c']

def ringPutR (r : List (List Int)) (t : List Int) (how : Int) : List (List Int) :=
  if t.length = 0 then r
  else if how = 0 ∨ r.length = 0 ∨ 400 < (at' r 0).length + t.length then ([t] ++ r).take 6
  else r.set 0 (if how = 1 then at' r 0 ++ t else t ++ at' r 0)

theorem allAdm_len {t : List Int} (h : allAdm t = true) : t.length ≤ 400 := by
  unfold allAdm at h
  simp only [Bool.and_eq_true, decide_eq_true_eq] at h
  exact h.2

theorem ringOk_spec {r : List (List Int)} (h : ringOk r = true) : r.length ≤ 6 ∧ ∀ s ∈ r, allAdm s = true ∧ 0 < s.length := by
  unfold ringOk at h
  simp only [Bool.and_eq_true, decide_eq_true_eq, List.all_eq_true] at h
  refine ⟨h.2, fun s hs => ?_⟩
  have := h.1 s hs
  unfold pieceOk at this
  simp only [Bool.and_eq_true, Bool.not_eq_true', decide_eq_false_iff_not] at this
  exact ⟨this.1, by omega⟩

theorem ringOk_of {r : List (List Int)} (h1 : r.length ≤ 6) (h2 : ∀ s ∈ r, allAdm s = true ∧ 0 < s.length) : ringOk r = true := by
  unfold ringOk
  simp only [Bool.and_eq_true, decide_eq_true_eq, List.all_eq_true]
  refine ⟨fun s hs => ?_, h1⟩
  obtain ⟨a, b⟩ := h2 s hs
  unfold pieceOk
  simp only [Bool.and_eq_true, Bool.not_eq_true', decide_eq_false_iff_not]
  exact ⟨a, by omega⟩

theorem allAdm_app {a b : List Int} (ha : allAdm a = true) (hb : allAdm b = true) (hl : a.length + b.length ≤ 400) : allAdm (a ++ b) = true := by
  unfold allAdm at *
  simp only [Bool.and_eq_true, decide_eq_true_eq, List.all_append, List.length_append] at *
  exact ⟨⟨ha.1, hb.1⟩, hl⟩

theorem ringPutR_ok {r : List (List Int)} {t : List Int} {how : Int} (hr : ringOk r = true) (ht : allAdm t = true) : ringOk (ringPutR r t how) = true := by
  obtain ⟨h1, h2⟩ := ringOk_spec hr
  unfold ringPutR
  split
  · exact hr
  · rename_i h0
    split
    · refine ringOk_of (by simp; omega) fun s hs => ?_
      have := List.mem_of_mem_take hs
      simp only [List.singleton_append, List.mem_cons] at this
      rcases this with rfl | hm
      · exact ⟨ht, by omega⟩
      · exact h2 s hm
    · rename_i h3
      simp only [not_or] at h3
      have hm : at' r 0 ∈ r := List.mem_of_getElem? (at_some (xs := r) (i := 0) ⟨by omega, by omega⟩)
      obtain ⟨k1, k2⟩ := h2 _ hm
      refine ringOk_of (by simp; omega) fun s hs => ?_
      rcases List.mem_or_eq_of_mem_set hs with hs | rfl
      · exact h2 s hs
      · split
        · exact ⟨allAdm_app k1 ht (by omega), by simp; omega⟩
        · exact ⟨allAdm_app ht k1 (by omega), by simp; omega⟩

theorem take6_s (x : List (List Int)) (hx : (x.length : Int) ≤ 1000) (j : List (List Int) → Option (List (List Int) × Bool)) :
    (bif decide (6 < (x.length : Int)) then (guardO (0 ≤ (0 : Int) ∧ (0 : Int) ≤ (6 : Int) ∧ (6 : Int) ≤ (x.length : Int)) <| j (sub' x 0 (6 : Int))) else j x) = j (x.take 6) := by
  by_cases h : 6 < (x.length : Int)
  · rw [decide_eq_true h, cond_true, guardO, if_pos (by omega)]
    simp [sub']
  · rw [decide_eq_false h, cond_false, List.take_of_length_le (by omega)]

theorem ringPut_s (r : List (List Int)) (t : List Int) (how : Int) (hr : ringOk r = true) (ht : allAdm t = true) (hh : 0 ≤ how ∧ how ≤ 2) : M_s_RingPut r t how = some (ringPutR r t how, true) := by
  obtain ⟨r1, r2⟩ := ringOk_spec hr
  have r3 : ∀ s ∈ r, s.length ≤ 400 := fun s hs => allAdm_len (r2 s hs).1
  have tl := allAdm_len ht
  have c1 : ¬ how < 0 := by omega
  have c2 : ¬ 2 < how := by omega
  unfold M_s_RingPut ringPutR
  rw [bindO_of (ringOk_s r (by omega) (fun s hs => by have := r3 s hs; omega)), piece_s t (by omega), callO_of, hr, ht, copyRing_s r (by omega) (fun s hs => by have := r3 s hs; omega)]
  simp only [c1, c2, decide_false, Bool.not_true, cond_false, if_true, bindO]
  by_cases h0 : t.length = 0
  · have h0' : (t.length : Int) = 0 := by omega
    simp [h0]
  · have h0' : ¬ (t.length : Int) = 0 := by omega
    rw [if_neg h0, decide_eq_false h0', cond_false]
    have hat : 0 < r.length → (at' r 0).length ≤ 400 := fun hp => r3 _ (List.mem_of_getElem? (at_some (xs := r) (i := 0) ⟨by omega, by omega⟩))
    simp only [guardO]
    rw [if_pos (fun h => by
      by_cases hp : 0 < (r.length : Int)
      · exact ⟨by omega, hp⟩
      · rw [decide_eq_false hp] at h; simp at h)]
    by_cases hp : 0 < r.length
    · have hp' : 0 < (r.length : Int) := by omega
      have := hat hp
      rw [decide_eq_true hp', W_eq (by omega) (by omega)]
      by_cases hz : how = 0
      · rw [if_pos (Or.inl hz)]
        have e0 : (!decide (how = 0)) = false := by simp [hz]
        simp only [e0, cond_false, joinO, List.nil_append]
        rw [if_pos (by simp; omega), if_pos (by simp; omega)]
        have := take6_s ([t] ++ r) (by simp; omega) (fun x => some (x, true))
        simp only [guardO] at this
        exact this
      · have e0 : (!decide (how = 0)) = true := by simp [hz]
        by_cases h4 : 400 < (at' r 0).length + t.length
        · rw [if_pos (Or.inr (Or.inr h4))]
          have e1 : ¬ (((at' r 0).length : Int) + (t.length : Int) ≤ 400) := by omega
          simp only [e0, e1, decide_false, cond_false, cond_true, joinO, List.nil_append]
          rw [if_pos (by simp; omega), if_pos (by simp; omega)]
          have := take6_s ([t] ++ r) (by simp; omega) (fun x => some (x, true))
          simp only [guardO] at this
          exact this
        · rw [if_neg (show ¬ (how = 0 ∨ r.length = 0 ∨ 400 < (at' r 0).length + t.length) by omega)]
          have e1 : (((at' r 0).length : Int) + (t.length : Int) ≤ 400) := by omega
          have g : (0 ≤ (0 : Int) ∧ 0 < (r.length : Int)) := ⟨by omega, hp'⟩
          have j1 := join_s (at' r 0) t [] (by simp; omega)
          have j2 := join_s t (at' r 0) [] (by simp; omega)
          simp only [List.append_nil] at j1 j2
          simp only [e0, e1, decide_true, cond_true, joinO, if_pos g, j1, j2]
          by_cases h2 : how = 2
          · have : ¬ how = 1 := by omega
            simp [h2]
          · have : how = 1 := by omega
            simp [this]
    · have hp' : ¬ 0 < (r.length : Int) := by omega
      have hz : r.length = 0 := by omega
      rw [decide_eq_false hp', if_pos (Or.inr (Or.inl hz))]
      have e0 : (bif (!decide (how = 0)) then false else false) = false := by cases (!decide (how = 0)) <;> rfl
      simp only [e0, cond_false, joinO, List.nil_append]
      rw [if_pos (by simp; omega), if_pos (by simp; omega)]
      have := take6_s ([t] ++ r) (by simp; omega) (fun x => some (x, true))
      simp only [guardO] at this
      exact this

theorem ringPut_i (r : List (List Int)) (t : List Int) (how : Int) (hr : ringOk r = true) (ht : allAdm t = true) (hh : 0 ≤ how ∧ how ≤ 2) : M_i_RingPut r t how = some (ringPutR r t how, true) := by
  obtain ⟨r1, r2⟩ := ringOk_spec hr
  have r3 : ∀ s ∈ r, s.length ≤ 400 := fun s hs => allAdm_len (r2 s hs).1
  have tl := allAdm_len ht
  unfold M_i_RingPut ringPutR
  rw [bindO_of (ringOk_i r (by omega) (fun s hs => by have := r3 s hs; omega)), in_eq, callO_of, areAdm_i t (by omega), callO_of, hr, ht, copyRing_i r (by omega) (fun s hs => by have := r3 s hs; omega), decide_eq_true hh]
  simp only [Bool.not_true, cond_false, if_true, bindO, joinO, copyInts_i t (by omega)]
  by_cases h0 : t.length = 0
  · have h0' : (t.length : Int) = 0 := by omega
    simp [h0]
  · have h0' : ¬ (t.length : Int) = 0 := by omega
    rw [if_neg h0, decide_eq_false h0', cond_false]
    have hat : 0 < r.length → (at' r 0).length ≤ 400 := fun hp => r3 _ (List.mem_of_getElem? (at_some (xs := r) (i := 0) ⟨by omega, by omega⟩))
    simp only [guardO]
    rw [if_pos (fun h => by
      by_cases hp : (r.length : Int) = 0
      · rw [decide_eq_true hp] at h; simp at h
      · exact ⟨by omega, by omega⟩)]
    have T : (if [t].length + r.length ≤ 536870912 then if 0 ≤ (0 : Int) ∧ (0 : Int) ≤ min (([t] ++ r).length : Int) 6 ∧ min (([t] ++ r).length : Int) 6 ≤ (([t] ++ r).length : Int) then some (sub' ([t] ++ r) 0 (min (([t] ++ r).length : Int) 6), true) else none else none) = some (([t] ++ r).take 6, true) := by
      rw [if_pos (by simp; omega), if_pos (by omega)]
      congr 2
      unfold sub'
      simp only [Int.toNat_zero, List.drop_zero, Int.sub_zero]
      by_cases h : ([t] ++ r).length ≤ 6
      · have e : (min (([t] ++ r).length : Int) 6).toNat = ([t] ++ r).length := by omega
        rw [Nat.sub_zero, e, List.take_length, List.take_of_length_le h]
      · have e : (min (([t] ++ r).length : Int) 6).toNat = 6 := by omega
        rw [Nat.sub_zero, e]
    by_cases hp : 0 < r.length
    · have hp' : ¬ (r.length : Int) = 0 := by omega
      have := hat hp
      rw [decide_eq_false hp', W_eq (by omega) (by omega)]
      by_cases hz : how = 0
      · rw [if_pos (Or.inl hz)]
        simp only [hz, decide_true, cond_true]
        exact T
      · by_cases h4 : 400 < (at' r 0).length + t.length
        · rw [if_pos (Or.inr (Or.inr h4))]
          have e1 : 400 < ((at' r 0).length : Int) + (t.length : Int) := by omega
          simp only [hz, e1, decide_false, decide_true, cond_false, cond_true]
          exact T
        · rw [if_neg (show ¬ (how = 0 ∨ r.length = 0 ∨ 400 < (at' r 0).length + t.length) by omega)]
          have e1 : ¬ 400 < ((at' r 0).length : Int) + (t.length : Int) := by omega
          have g : (0 ≤ (0 : Int) ∧ 0 < (r.length : Int)) := ⟨by omega, by omega⟩
          simp only [hz, e1, decide_false, cond_false, if_pos g]
          by_cases h2 : how = 1
          · simp only [h2, decide_true, cond_true, if_true]
            rw [if_pos (by omega)]; rfl
          · simp only [h2, decide_false, cond_false, if_false]
            rw [if_pos (by omega)]; rfl
    · have hp' : (r.length : Int) = 0 := by omega
      have hz : r.length = 0 := by omega
      rw [decide_eq_true hp', if_pos (Or.inr (Or.inl hz))]
      have e0 : (bif bif decide (how = 0) then true else true then true else decide (400 < W (((at' r 0).length : Int) + (t.length : Int)))) = true := by cases decide (how = 0) <;> rfl
      rw [e0, cond_true]
      exact T

def goL (l : List Int × Int) (at_ : Int) : List Int × Int := (l.1, max 0 (min at_ (l.1.length : Int)))

theorem goTo_i (l : List Int × Int) (a : Int) (hl : l.1.length ≤ 1048576) : M_i_goTo l a = some (goL l a) := by
  unfold M_i_goTo goL
  rw [bindO_of (copyInts_i l.1 (by omega))]

theorem allAdm_of {l : List Int × Int} (h : lineOk l = true) : allAdm l.1 = true := by
  unfold lineOk at h
  simp only [Bool.and_eq_true] at h
  exact h.1

theorem lineOk_mk {t : List Int} {a : Int} (h : allAdm t = true) (h0 : 0 ≤ a) (h1 : a ≤ (t.length : Int)) : lineOk (t, a) = true := by
  unfold lineOk
  simp only [h, Bool.true_and, decide_eq_true_eq]
  exact ⟨h0, h1⟩

theorem goL_ok {l : List Int × Int} (h : lineOk l = true) (a : Int) : lineOk (goL l a) = true := lineOk_mk (allAdm_of h) (by omega) (by omega)

theorem lineOk_at {l : List Int × Int} (h : lineOk l = true) : 0 ≤ l.2 ∧ l.2 ≤ (l.1.length : Int) ∧ l.1.length ≤ 400 := by
  unfold lineOk allAdm at h
  simp only [Bool.and_eq_true, decide_eq_true_eq] at h
  exact ⟨h.2.1, h.2.2, h.1.2⟩

theorem lineGo_s (l : List Int × Int) (a : Int) (h : lineOk l = true) : M_s_LineGo l a = some (goL l a, true) := by
  obtain ⟨h0, h1, h2⟩ := lineOk_at h
  unfold M_s_LineGo M_s_l13If
  have hg := goL_ok h a
  have e : goL l a = (l.1, max 0 (min a (l.1.length : Int))) := rfl
  rw [bindO_of (join_s l.1 [] [] (by simp; omega)), bindO_of (clamp_eq a _ (by omega)), bindO_of (lineOk_s l (by omega)), h]
  simp only [List.append_nil]
  rw [← e, lineOk_s _ (by rw [e]; simp only; omega), callO_of, hg]
  rfl

theorem inLine_i (l : List Int × Int) (a b : Int) (hl : l.1.length ≤ 100000000) : M_i_inLine l a b = some (lineOk l && decide (0 ≤ a ∧ a ≤ b ∧ b ≤ (l.1.length : Int))) := by
  unfold M_i_inLine
  rw [bindO_of (lineOk_i l hl)]
  congr 1
  by_cases h1 : 0 ≤ a <;> by_cases h2 : a ≤ b <;> by_cases h3 : b ≤ (l.1.length : Int) <;> cases lineOk l <;> simp [h1, h2, h3]

theorem span_s (l : List Int × Int) (a b : Int) (hl : l.1.length ≤ 100000000) : M_s_l13Span l a b = some (lineOk l && decide (0 ≤ a ∧ a ≤ b ∧ b ≤ (l.1.length : Int))) := by
  unfold M_s_l13Span
  rw [bindO_of (lineOk_s l hl)]
  congr 1
  by_cases h1 : 0 ≤ a <;> by_cases h2 : a ≤ b <;> by_cases h3 : b ≤ (l.1.length : Int) <;> cases lineOk l <;> simp [h1, h2, h3]

def cutL (l : List Int × Int) (a b : Int) : List Int × Int :=
  (sub' l.1 0 a ++ sub' l.1 b (l.1.length : Int), if b ≤ l.2 then l.2 - (b - a) else if a < l.2 then a else l.2)

def cutR (l : List Int × Int) (a b : Int) : (List Int × Int) × List Int × Bool :=
  if lineOk l && decide (0 ≤ a ∧ a ≤ b ∧ b ≤ (l.1.length : Int)) then (cutL l a b, sub' l.1 a b, true) else (([], 0), [], false)

theorem lineCut_i (l : List Int × Int) (a b : Int) (hl : l.1.length ≤ 1048576) : M_i_LineCut l a b = some (cutR l a b) := by
  unfold M_i_LineCut cutR
  rw [bindO_of (inLine_i l a b (by omega))]
  by_cases h : lineOk l = true ∧ (0 ≤ a ∧ a ≤ b ∧ b ≤ (l.1.length : Int))
  · obtain ⟨h1, h2⟩ := h
    obtain ⟨p0, p1, p2⟩ := lineOk_at h1
    rw [h1, decide_eq_true h2]
    simp only [Bool.and_self, Bool.not_true, cond_false, if_true, joinO, guardO]
    have s1 : (sub' l.1 0 a).length ≤ 400 := by have := sub_len (xs := l.1) (lo := 0) (hi := a) (by omega); omega
    have s2 : (sub' l.1 b (l.1.length : Int)).length ≤ 400 := by have := sub_len (xs := l.1) (lo := b) (hi := (l.1.length : Int)) (by omega); omega
    have s3 : (sub' l.1 a b).length ≤ 400 := by have := sub_len (xs := l.1) (lo := a) (hi := b) (by omega); omega
    have g1 : (0 ≤ (0 : Int) ∧ (0 : Int) ≤ a ∧ a ≤ (l.1.length : Int)) := by omega
    have g2 : (0 ≤ b ∧ b ≤ (l.1.length : Int) ∧ (l.1.length : Int) ≤ (l.1.length : Int)) := by omega
    have g3 : (sub' l.1 0 a).length + (sub' l.1 b (l.1.length : Int)).length ≤ 536870912 := by omega
    simp only [if_pos g1, copyInts_i (sub' l.1 0 a) (by omega), copyInts_i (sub' l.1 a b) (by omega), bindO, if_pos g2, if_pos g3, if_pos h2, Bool.cond_decide]
    have hW : b ≤ l.2 → W (l.2 - W (b - a)) = l.2 - (b - a) := fun hb => by
      rw [W_eq (x := b - a) (by omega) (by omega), W_eq (by omega) (by omega)]
    unfold cutL
    by_cases c1 : b ≤ l.2
    · rw [if_pos c1, if_pos c1, hW c1]
    · rw [if_neg c1, if_neg c1]
      by_cases c2 : a < l.2
      · rw [if_pos c2, if_pos c2]
      · rw [if_neg c2, if_neg c2]
  · have : (lineOk l && decide (0 ≤ a ∧ a ≤ b ∧ b ≤ (l.1.length : Int))) = false := by
      cases hq : (lineOk l && decide (0 ≤ a ∧ a ≤ b ∧ b ≤ (l.1.length : Int)))
      · rfl
      · simp only [Bool.and_eq_true, decide_eq_true_eq] at hq
        exact absurd hq h
    rw [this]
    simp

theorem lineCut_s (l : List Int × Int) (a b : Int) (hl : l.1.length ≤ 1048576) : M_s_LineCut l a b = some (cutR l a b) := by
  unfold M_s_LineCut cutR
  rw [bindO_of (span_s l a b (by omega))]
  by_cases h : lineOk l = true ∧ (0 ≤ a ∧ a ≤ b ∧ b ≤ (l.1.length : Int))
  · obtain ⟨h1, h2⟩ := h
    obtain ⟨p0, p1, p2⟩ := lineOk_at h1
    rw [h1, decide_eq_true h2]
    simp only [Bool.and_self, Bool.not_true, cond_false, if_true, joinO, guardO]
    have s1 : (sub' l.1 0 a).length ≤ 400 := by have := sub_len (xs := l.1) (lo := 0) (hi := a) (by omega); omega
    have s2 : (sub' l.1 b (l.1.length : Int)).length ≤ 400 := by have := sub_len (xs := l.1) (lo := b) (hi := (l.1.length : Int)) (by omega); omega
    have s3 : (sub' l.1 a b).length ≤ 400 := by have := sub_len (xs := l.1) (lo := a) (hi := b) (by omega); omega
    rw [join_s _ _ _ (by simp; omega), join_s _ _ _ (by simp; omega)]
    have g1 : (0 ≤ (0 : Int) ∧ (0 : Int) ≤ a ∧ a ≤ (l.1.length : Int)) := by omega
    have g2 : (0 ≤ b ∧ b ≤ (l.1.length : Int) ∧ (l.1.length : Int) ≤ (l.1.length : Int)) := by omega
    simp only [bindO, if_pos g1, if_pos g2, if_pos h2, Bool.cond_decide, List.append_nil, List.nil_append]
    have hW : b ≤ l.2 → W (l.2 - W (b - a)) = l.2 - (b - a) := fun hb => by
      rw [W_eq (x := b - a) (by omega) (by omega), W_eq (by omega) (by omega)]
    unfold cutL
    by_cases c1 : b ≤ l.2
    · rw [if_pos c1, if_pos c1, hW c1]
    · rw [if_neg c1, if_neg c1]
      by_cases c2 : a < l.2
      · rw [if_pos c2, if_pos c2]
      · rw [if_neg c2, if_neg c2]
  · have : (lineOk l && decide (0 ≤ a ∧ a ≤ b ∧ b ≤ (l.1.length : Int))) = false := by
      cases hq : (lineOk l && decide (0 ≤ a ∧ a ≤ b ∧ b ≤ (l.1.length : Int)))
      · rfl
      · simp only [Bool.and_eq_true, decide_eq_true_eq] at hq
        exact absurd hq h
    rw [this]
    simp

theorem sub_mem {α : Type} {xs : List α} {a b : Int} {x : α} (h : x ∈ sub' xs a b) : x ∈ xs := List.mem_of_mem_drop (List.mem_of_mem_take h)

theorem allAdm_sub {t : List Int} (h : allAdm t = true) (a b : Int) : allAdm (sub' t a b) = true := by
  unfold allAdm at *
  simp only [Bool.and_eq_true, decide_eq_true_eq, List.all_eq_true] at *
  refine ⟨fun x hx => h.1 x (sub_mem hx), ?_⟩
  have : (sub' t a b).length ≤ t.length := by unfold sub'; simp only [List.length_take, List.length_drop]; omega
  omega

theorem cutL_ok {l : List Int × Int} {a b : Int} (h : lineOk l = true) (hr : 0 ≤ a ∧ a ≤ b ∧ b ≤ (l.1.length : Int)) : lineOk (cutL l a b) = true ∧ ((cutL l a b).1.length : Int) = l.1.length - (b - a) := by
  obtain ⟨p0, p1, p2⟩ := lineOk_at h
  have ha := allAdm_of h
  have s1 := sub_len (xs := l.1) (lo := 0) (hi := a) (by omega)
  have s2 := sub_len (xs := l.1) (lo := b) (hi := (l.1.length : Int)) (by omega)
  have hlen : ((sub' l.1 0 a ++ sub' l.1 b (l.1.length : Int)).length : Int) = l.1.length - (b - a) := by simp only [List.length_append]; omega
  refine ⟨?_, hlen⟩
  unfold cutL
  refine lineOk_mk (allAdm_app (allAdm_sub ha _ _) (allAdm_sub ha _ _) (by omega)) ?_ ?_
  · split
    · omega
    · split <;> omega
  · rw [hlen]
    split
    · omega
    · split <;> omega

theorem same_loop_s (a b : List Int) (hl : a.length = b.length) (ha : (a.length : Int) ≤ 100000000) : ∀ (m : Nat) (k : Int), 0 ≤ k → k ≤ (a.length : Int) → (a.length : Int) - k < m → fixF (M_s_l15Same_L1 a b fun _ => some true) m k = some (decide (a.drop k.toNat = b.drop k.toNat)) := by
  intro m
  induction m with
  | zero => intro k _ _ h; omega
  | succ m ih =>
    intro k hk hk' hm
    simp only [fixF, M_s_l15Same_L1, guardO, Bool.cond_decide]
    by_cases h1 : k < (a.length : Int)
    · have h2 : k < (b.length : Int) := by omega
      rw [if_pos h1, if_pos ⟨hk, h1⟩, if_pos ⟨hk, h2⟩, drop_at hk h1, drop_at hk h2, W_eq (by omega) (by omega), ih (k + 1) (by omega) (by omega) (by omega)]
      by_cases h3 : at' a k = at' b k
      · simp [h3]
      · simp [h3]
    · rw [if_neg h1, List.drop_eq_nil_of_le (by omega), List.drop_eq_nil_of_le (by omega)]
      simp
theorem same_s (a b : List Int) (ha : (a.length : Int) ≤ 100000000) : M_s_l15Same a b = some (decide (a = b)) := by
  unfold M_s_l15Same
  by_cases h : a.length = b.length
  · have h' : (a.length : Int) = (b.length : Int) := by omega
    rw [decide_eq_true h']
    simp only [Bool.not_true, cond_false, joinO]
    rw [same_loop_s a b h ha FUEL 0 (by omega) (by omega) (by rw [fuel_eq]; omega)]
    simp
  · have h' : ¬ (a.length : Int) = (b.length : Int) := by omega
    have h2 : a ≠ b := fun e => h (by rw [e])
    rw [decide_eq_false h', decide_eq_false h2]; rfl
theorem same_loop_i (a b : List Int) (hl : a.length = b.length) (ha : (a.length : Int) ≤ 100000000) : ∀ (m : Nat) (k : Int), 0 ≤ k → k ≤ (a.length : Int) → (a.length : Int) - k < m → fixF (M_i_sameInts_L1 a b fun _ => some true) m k = some (decide (a.drop k.toNat = b.drop k.toNat)) := by
  intro m
  induction m with
  | zero => intro k _ _ h; omega
  | succ m ih =>
    intro k hk hk' hm
    simp only [fixF, M_i_sameInts_L1, guardO, Bool.cond_decide]
    by_cases h1 : k < (a.length : Int)
    · have h2 : k < (b.length : Int) := by omega
      rw [if_pos h1, if_pos ⟨hk, h1⟩, if_pos ⟨hk, h2⟩, drop_at hk h1, drop_at hk h2, W_eq (by omega) (by omega), ih (k + 1) (by omega) (by omega) (by omega)]
      by_cases h3 : at' a k = at' b k
      · simp [h3]
      · simp [h3]
    · rw [if_neg h1, List.drop_eq_nil_of_le (by omega), List.drop_eq_nil_of_le (by omega)]
      simp
theorem same_i (a b : List Int) (ha : (a.length : Int) ≤ 100000000) : M_i_sameInts a b = some (decide (a = b)) := by
  unfold M_i_sameInts
  by_cases h : a.length = b.length
  · have h' : (a.length : Int) = (b.length : Int) := by omega
    rw [decide_eq_true h']
    simp only [Bool.not_true, cond_false, joinO]
    rw [same_loop_i a b h ha FUEL 0 (by omega) (by omega) (by rw [fuel_eq]; omega)]
    simp
  · have h' : ¬ (a.length : Int) = (b.length : Int) := by omega
    have h2 : a ≠ b := fun e => h (by rw [e])
    rw [decide_eq_false h', decide_eq_false h2]; rfl

/-- What a line that is put onto a valid list makes of it. -/
def putU (u : List (List Int × Int)) (l : List Int × Int) : List (List Int × Int) :=
  if 0 < u.length ∧ (at' u ((u.length : Int) - 1)).1 = l.1 then u
  else if u.length = 20 then (u ++ [l]).drop 1 else u ++ [l]

theorem undoPut_s (u : List (List Int × Int)) (l : List Int × Int) (hu : undoOk u = true) (hl : lineOk l = true) (h1 : (u.length : Int) ≤ 1048576) (h2 : ∀ s ∈ u, (s.1.length : Int) ≤ 1048576) (h3 : (l.1.length : Int) ≤ 1048576) :
    M_s_UndoPut u l = some (putU u l, true) := by
  unfold M_s_UndoPut putU
  rw [bindO_of (undoOk_s u (by omega) (fun s h => by have := h2 s h; omega)), lineOk_s l (by omega), callO_of, hu, hl]
  simp only [Bool.not_true, cond_false, if_true]
  rw [bindO_of (copyUndo_s u h1 h2), bindO_of (copyLine_s l h3), W_eq (by omega) (by omega)]
  have hg : (decide (0 < (u.length : Int)) = true → 0 ≤ (u.length : Int) - 1 ∧ (u.length : Int) - 1 < (u.length : Int)) := by
    intro h; have := of_decide_eq_true h; omega
  simp only [guardO]
  rw [if_pos hg]
  have hlen : (at' u ((u.length : Int) - 1)).1.length ≤ 100000000 := by
    by_cases h0 : 0 < u.length
    · have := h2 _ (List.mem_of_getElem? (at_some (xs := u) (i := (u.length : Int) - 1) ⟨by omega, by omega⟩))
      omega
    · have : u = [] := List.length_eq_zero_iff.1 (by omega)
      subst this; simp [at']; decide
  rw [same_s _ _ (by omega), callO_of, if_pos (show u.length + ([l] : List (List Int × Int)).length ≤ 536870912 by simp; omega)]
  have gT : (0 ≤ (1 : Int) ∧ (1 : Int) ≤ ((u ++ [l]).length : Int) ∧ ((u ++ [l]).length : Int) ≤ ((u ++ [l]).length : Int)) := ⟨by omega, by simp only [List.length_append, List.length_singleton]; omega, by omega⟩
  simp only [if_pos gT, joinO, sub_all (show (0 : Int) ≤ 1 by omega)]
  have e1 : Int.toNat 1 = 1 := rfl
  rw [e1]
  by_cases h0 : 0 < u.length
  · have h0' : 0 < (u.length : Int) := by omega
    by_cases hs : (at' u ((u.length : Int) - 1)).1 = l.1
    · rw [if_pos (show 0 < u.length ∧ (at' u ((u.length : Int) - 1)).1 = l.1 from ⟨h0, hs⟩)]
      simp only [h0', hs, decide_true, if_true, cond_true]
    · rw [if_neg (show ¬ (0 < u.length ∧ (at' u ((u.length : Int) - 1)).1 = l.1) from fun h => hs h.2)]
      simp only [h0', hs, decide_true, decide_false, if_true, cond_true, cond_false]
      by_cases h20 : u.length = 20
      · have h20' : (u.length : Int) = 20 := by omega
        rw [if_pos h20]
        simp only [h20', decide_true, cond_true]
      · have h20' : ¬ (u.length : Int) = 20 := by omega
        rw [if_neg h20]
        simp only [h20', decide_false, cond_false]
  · have h0' : ¬ 0 < (u.length : Int) := by omega
    have h20 : ¬ u.length = 20 := by omega
    have h20' : ¬ (u.length : Int) = 20 := by omega
    rw [if_neg (show ¬ (0 < u.length ∧ (at' u ((u.length : Int) - 1)).1 = l.1) from fun h => h0 h.1), if_neg h20]
    simp only [h0', h20', decide_false, cond_false]

theorem undoPut_i (u : List (List Int × Int)) (l : List Int × Int) (hu : undoOk u = true) (hl : lineOk l = true) (h1 : (u.length : Int) ≤ 1048576) (h2 : ∀ s ∈ u, (s.1.length : Int) ≤ 1048576) (h3 : (l.1.length : Int) ≤ 1048576) :
    M_i_UndoPut u l = some (putU u l, true) := by
  unfold M_i_UndoPut putU
  rw [bindO_of (undoOk_i u (by omega) (fun s h => by have := h2 s h; omega)), lineOk_i l (by omega), callO_of, hu, hl]
  simp only [Bool.not_true, cond_false, if_true]
  rw [bindO_of (copyUndo_i u h1 h2), bindO_of (copyLine_i l h3), W_eq (by omega) (by omega)]
  have hg : (decide (0 < (u.length : Int)) = true → 0 ≤ (u.length : Int) - 1 ∧ (u.length : Int) - 1 < (u.length : Int)) := by
    intro h; have := of_decide_eq_true h; omega
  have hu20 : u.length ≤ 20 := by
    unfold undoOk at hu
    simp only [Bool.and_eq_true, decide_eq_true_eq] at hu
    exact hu.2
  simp only [guardO]
  rw [if_pos hg]
  have hlen : (at' u ((u.length : Int) - 1)).1.length ≤ 100000000 := by
    by_cases h0 : 0 < u.length
    · have := h2 _ (List.mem_of_getElem? (at_some (xs := u) (i := (u.length : Int) - 1) ⟨by omega, by omega⟩))
      omega
    · have : u = [] := List.length_eq_zero_iff.1 (by omega)
      subst this; simp [at']; decide
  rw [same_i _ _ (by omega), callO_of, if_pos (show u.length + ([l] : List (List Int × Int)).length ≤ 536870912 by simp; omega)]
  have hd : decide (20 < ((u ++ [l]).length : Int)) = decide (u.length = 20) := by
    by_cases h20 : u.length = 20
    · rw [decide_eq_true h20, decide_eq_true (by simp; omega)]
    · rw [decide_eq_false h20, decide_eq_false (by simp; omega)]
  have gT : (0 ≤ (1 : Int) ∧ (1 : Int) ≤ ((u ++ [l]).length : Int) ∧ ((u ++ [l]).length : Int) ≤ ((u ++ [l]).length : Int)) := ⟨by omega, by simp only [List.length_append, List.length_singleton]; omega, by omega⟩
  simp only [if_pos gT, joinO, sub_all (show (0 : Int) ≤ 1 by omega)]
  have e1 : Int.toNat 1 = 1 := rfl
  rw [e1]
  by_cases h0 : 0 < u.length
  · have h0' : 0 < (u.length : Int) := by omega
    by_cases hs : (at' u ((u.length : Int) - 1)).1 = l.1
    · rw [if_pos (show 0 < u.length ∧ (at' u ((u.length : Int) - 1)).1 = l.1 from ⟨h0, hs⟩)]
      simp only [h0', hs, decide_true, if_true, cond_true]
    · rw [if_neg (show ¬ (0 < u.length ∧ (at' u ((u.length : Int) - 1)).1 = l.1) from fun h => hs h.2)]
      simp only [h0', hs, decide_true, decide_false, if_true, cond_true, cond_false]
      by_cases h20 : u.length = 20
      · have h20' : (u.length : Int) = 20 := by omega
        rw [if_pos h20]
        simp only [hd, h20, decide_true, cond_true]
      · have h20' : ¬ (u.length : Int) = 20 := by omega
        rw [if_neg h20]
        simp only [hd, h20, decide_false, cond_false]
  · have h0' : ¬ 0 < (u.length : Int) := by omega
    have h20 : ¬ u.length = 20 := by omega
    have h20' : ¬ (u.length : Int) = 20 := by omega
    rw [if_neg (show ¬ (0 < u.length ∧ (at' u ((u.length : Int) - 1)).1 = l.1) from fun h => h0 h.1), if_neg h20]
    simp only [h0', hd, h20, decide_false, cond_false]

theorem at_get {α : Type} [Inhabited α] {l : List α} {k : Int} (h0 : 0 ≤ k) (h : k < (l.length : Int)) : l[k.toNat]? = some (at' l k) := at_some ⟨h0, h⟩

theorem toIntS_loop (xs : List Int) (hl : (xs.length : Int) ≤ 100000000) (j : List Int → Option (List Int)) : ∀ (m : Nat) (ys : List Int) (k : Int), 0 ≤ k → k ≤ (xs.length : Int) → ys.length = xs.length → (∀ i : Nat, (i : Int) < k → ys[i]? = xs[i]?) → (xs.length : Int) - k < m → 0 < m →
    fixF (M_l_toIntS_L1 xs j) m (ys, k) = j xs := by
  intro m
  induction m with
  | zero => intro ys k _ _ _ _ h h'; omega
  | succ m ih =>
    intro ys k hk hk' hy hyx hm _
    simp only [fixF, M_l_toIntS_L1, guardO, Bool.cond_decide]
    by_cases h1 : k < (xs.length : Int)
    · have h2 : k < (ys.length : Int) := by omega
      simp only [h1, h2, hk, if_true, and_self]
      rw [W_eq (by omega) (by omega)]
      refine ih _ _ (by omega) (by omega) (by simpa using hy) (fun i hi => ?_) (by omega) (by omega)
      rw [List.getElem?_set]
      by_cases he : k.toNat = i
      · subst he
        rw [if_pos rfl, if_pos (by omega), at_get hk h1]
      · rw [if_neg he]
        exact hyx i (by omega)
    · simp only [h1, if_false]
      congr 1
      apply List.ext_getElem?
      intro i
      by_cases hi : (i : Int) < k
      · exact hyx i hi
      · rw [List.getElem?_eq_none (by omega), List.getElem?_eq_none (by omega)]

theorem toIntS_eq (xs : List Int) (hl : (xs.length : Int) ≤ 100000000) : M_l_toIntS xs = some xs := by
  unfold M_l_toIntS guardO
  rw [if_pos (by omega)]
  exact toIntS_loop xs hl _ FUEL _ 0 (by omega) (by omega) (by simp) (fun i hi => by omega) (by rw [fuel_eq]; omega) (by rw [fuel_eq]; omega)

theorem eqIntS_loop (xs : List Int) (hl : (xs.length : Int) ≤ 100000000) (j : Unit → Option Bool) : ∀ (m : Nat) (k : Int), 0 ≤ k → k ≤ (xs.length : Int) → (xs.length : Int) - k < m → 0 < m → fixF (M_l_eqIntS_L1 xs xs j) m k = j () := by
  intro m
  induction m with
  | zero => intro k _ _ h h'; omega
  | succ m ih =>
    intro k hk hk' hm _
    simp only [fixF, M_l_eqIntS_L1, guardO, Bool.cond_decide]
    by_cases h1 : k < (xs.length : Int)
    · simp only [h1, hk, if_true, and_self, decide_true, Bool.not_true, cond_false]
      rw [W_eq (by omega) (by omega)]
      exact ih _ (by omega) (by omega) (by omega) (by omega)
    · simp only [h1, if_false]

theorem eqIntS_self (xs : List Int) (hl : (xs.length : Int) ≤ 100000000) : M_l_eqIntS xs xs = some true := by
  unfold M_l_eqIntS
  simp only [decide_true, Bool.not_true, cond_false]
  exact eqIntS_loop xs hl _ FUEL 0 (by omega) (by omega) (by rw [fuel_eq]; omega) (by rw [fuel_eq]; omega)

theorem szIntS_ok (xs : List Int) (hx : xs.length ≤ maxLen) (left : Int) (h0 : 0 ≤ left) (h1 : left ≤ 1048576) :
    ∃ v, M_l_szIntS xs left = some v ∧ (v = -1 ∨ (0 ≤ v ∧ v ≤ left ∧ (xs.length : Int) ≤ left)) := by
  have hM' : maxLen ≤ 9223372036854775807 := by decide
  unfold M_l_szIntS
  rw [W_eq (by omega) (by omega)]
  by_cases h : left - (xs.length : Int) < 0
  · exact ⟨-1, by simp [h], .inl rfl⟩
  · exact ⟨left - xs.length, by simp [h], .inr (by omega)⟩

theorem szLine_ok (l : List Int × Int) (hx : l.1.length ≤ maxLen) (left : Int) (h0 : 0 ≤ left) (h1 : left ≤ 1048576) :
    ∃ v, M_l_szLine l left = some v ∧ (v = -1 ∨ (0 ≤ v ∧ v ≤ left ∧ (l.1.length : Int) ≤ left)) := by
  obtain ⟨v, e, hv⟩ := szIntS_ok l.1 hx left h0 h1
  unfold M_l_szLine
  rw [bindO_of e]
  rcases hv with rfl | ⟨v0, v1, v2⟩
  · exact ⟨-1, rfl, .inl rfl⟩
  · have : ¬ v < 0 := by omega
    exact ⟨v, by simp [this], .inr ⟨v0, v1, v2⟩⟩

theorem szPiece_ok (l : List Int) (hx : l.length ≤ maxLen) (left : Int) (h0 : 0 ≤ left) (h1 : left ≤ 1048576) :
    ∃ v, M_l_szPiece l left = some v ∧ (v = -1 ∨ (0 ≤ v ∧ v ≤ left ∧ (l.length : Int) ≤ left)) := by
  obtain ⟨v, e, hv⟩ := szIntS_ok l hx left h0 h1
  unfold M_l_szPiece
  rw [bindO_of e]
  rcases hv with rfl | ⟨v0, v1, v2⟩
  · exact ⟨-1, rfl, .inl rfl⟩
  · have : ¬ v < 0 := by omega
    exact ⟨v, by simp [this], .inr ⟨v0, v1, v2⟩⟩

theorem szPieceS_loop (xs : List (List Int)) (hx : xs.length ≤ maxLen) (hs : ∀ s ∈ xs, s.length ≤ maxLen) : ∀ (m : Nat) (left k : Int), 0 ≤ left → left ≤ 1048576 → 0 ≤ k → k ≤ (xs.length : Int) → (xs.length : Int) - k < m → 0 < m →
    ∃ v, fixF (M_l_szPieceS_L1 xs fun x => some x) m (left, k) = some v ∧ (v = -1 ∨ (0 ≤ v ∧ v ≤ left ∧ ∀ s ∈ xs.drop k.toNat, (s.length : Int) ≤ left)) := by
  have hM' : maxLen ≤ 9223372036854775807 := by decide
  intro m
  induction m with
  | zero => intro left k _ _ _ _ _ h; omega
  | succ m ih =>
    intro left k h0 h1 hk hk' hm _
    simp only [fixF, M_l_szPieceS_L1, guardO, Bool.cond_decide]
    by_cases h2 : k < (xs.length : Int)
    · rw [if_pos h2, if_pos ⟨hk, h2⟩]
      have hb := hs (at' xs k) (List.mem_of_getElem? (at_some ⟨hk, h2⟩))
      obtain ⟨v, e, hv⟩ := szPiece_ok (at' xs k) hb left h0 h1
      rw [bindO_of e, W_eq (x := k + 1) (by omega) (by omega)]
      rcases hv with rfl | ⟨v0, v1, v2⟩
      · exact ⟨-1, rfl, .inl rfl⟩
      · rw [if_neg (by omega)]
        obtain ⟨u, e', hu⟩ := ih v (k + 1) v0 (by omega) (by omega) (by omega) (by omega) (by omega)
        refine ⟨u, e', ?_⟩
        rcases hu with hu | ⟨g1, g2, g3⟩
        · exact .inl hu
        · refine .inr ⟨g1, by omega, ?_⟩
          rw [drop_at hk h2]
          intro s hs'
          rcases List.mem_cons.1 hs' with rfl | hs'
          · omega
          · have := g3 s hs'; omega
    · rw [if_neg h2]
      exact ⟨left, rfl, .inr ⟨h0, Int.le_refl _, by rw [List.drop_eq_nil_of_le (by omega)]; simp⟩⟩

theorem szPieceS_ok (xs : List (List Int)) (hx : xs.length ≤ maxLen) (hs : ∀ s ∈ xs, s.length ≤ maxLen) (left : Int) (h0 : 0 ≤ left) (h1 : left ≤ 1048576) :
    ∃ v, M_l_szPieceS xs left = some v ∧ (v = -1 ∨ (0 ≤ v ∧ v ≤ left ∧ (xs.length : Int) ≤ left ∧ ∀ s ∈ xs, (s.length : Int) ≤ left)) := by
  have hM' : maxLen ≤ 9223372036854775807 := by decide
  unfold M_l_szPieceS
  simp only [Bool.cond_decide, joinO]
  rw [W_eq (x := left - (xs.length : Int)) (by omega) (by omega)]
  by_cases h : left - (xs.length : Int) < 0
  · rw [if_pos h]; exact ⟨-1, rfl, .inl rfl⟩
  · rw [if_neg h]
    obtain ⟨v, e, hv⟩ := szPieceS_loop xs hx hs FUEL (left - (xs.length : Int)) 0 (by omega) (by omega) (by omega) (by omega) (by rw [fuel_eq]; omega) (by rw [fuel_eq]; omega)
    refine ⟨v, e, ?_⟩
    rcases hv with hv | ⟨g1, g2, g3⟩
    · exact .inl hv
    · refine .inr ⟨g1, by omega, by omega, fun s hs' => ?_⟩
      have := g3 s (by simpa using hs')
      omega

theorem szRing_ok (xs : List (List Int)) (hx : xs.length ≤ maxLen) (hs : ∀ s ∈ xs, s.length ≤ maxLen) (left : Int) (h0 : 0 ≤ left) (h1 : left ≤ 1048576) :
    ∃ v, M_l_szRing xs left = some v ∧ (v = -1 ∨ (0 ≤ v ∧ v ≤ left ∧ (xs.length : Int) ≤ left ∧ ∀ s ∈ xs, (s.length : Int) ≤ left)) := by
  obtain ⟨v, e, hv⟩ := szPieceS_ok xs hx hs left h0 h1
  unfold M_l_szRing
  rw [bindO_of e]
  rcases hv with rfl | ⟨v0, v1, v2⟩
  · exact ⟨-1, rfl, .inl rfl⟩
  · have : ¬ v < 0 := by omega
    exact ⟨v, by simp [this], .inr ⟨v0, v1, v2⟩⟩

theorem szLineS_loop (xs : List (List Int × Int)) (hx : xs.length ≤ maxLen) (hs : ∀ s ∈ xs, s.1.length ≤ maxLen) : ∀ (m : Nat) (left k : Int), 0 ≤ left → left ≤ 1048576 → 0 ≤ k → k ≤ (xs.length : Int) → (xs.length : Int) - k < m → 0 < m →
    ∃ v, fixF (M_l_szLineS_L1 xs fun x => some x) m (left, k) = some v ∧ (v = -1 ∨ (0 ≤ v ∧ v ≤ left ∧ ∀ s ∈ xs.drop k.toNat, (s.1.length : Int) ≤ left)) := by
  have hM' : maxLen ≤ 9223372036854775807 := by decide
  intro m
  induction m with
  | zero => intro left k _ _ _ _ _ h; omega
  | succ m ih =>
    intro left k h0 h1 hk hk' hm _
    simp only [fixF, M_l_szLineS_L1, guardO, Bool.cond_decide]
    by_cases h2 : k < (xs.length : Int)
    · rw [if_pos h2, if_pos ⟨hk, h2⟩]
      have hb := hs (at' xs k) (List.mem_of_getElem? (at_some ⟨hk, h2⟩))
      obtain ⟨v, e, hv⟩ := szLine_ok (at' xs k) hb left h0 h1
      rw [bindO_of e, W_eq (x := k + 1) (by omega) (by omega)]
      rcases hv with rfl | ⟨v0, v1, v2⟩
      · exact ⟨-1, rfl, .inl rfl⟩
      · rw [if_neg (by omega)]
        obtain ⟨u, e', hu⟩ := ih v (k + 1) v0 (by omega) (by omega) (by omega) (by omega) (by omega)
        refine ⟨u, e', ?_⟩
        rcases hu with hu | ⟨g1, g2, g3⟩
        · exact .inl hu
        · refine .inr ⟨g1, by omega, ?_⟩
          rw [drop_at hk h2]
          intro s hs'
          rcases List.mem_cons.1 hs' with rfl | hs'
          · omega
          · have := g3 s hs'; omega
    · rw [if_neg h2]
      exact ⟨left, rfl, .inr ⟨h0, Int.le_refl _, by rw [List.drop_eq_nil_of_le (by omega)]; simp⟩⟩

theorem szLineS_ok (xs : List (List Int × Int)) (hx : xs.length ≤ maxLen) (hs : ∀ s ∈ xs, s.1.length ≤ maxLen) (left : Int) (h0 : 0 ≤ left) (h1 : left ≤ 1048576) :
    ∃ v, M_l_szLineS xs left = some v ∧ (v = -1 ∨ (0 ≤ v ∧ v ≤ left ∧ (xs.length : Int) ≤ left ∧ ∀ s ∈ xs, (s.1.length : Int) ≤ left)) := by
  have hM' : maxLen ≤ 9223372036854775807 := by decide
  unfold M_l_szLineS
  simp only [Bool.cond_decide, joinO]
  rw [W_eq (x := left - (xs.length : Int)) (by omega) (by omega)]
  by_cases h : left - (xs.length : Int) < 0
  · rw [if_pos h]; exact ⟨-1, rfl, .inl rfl⟩
  · rw [if_neg h]
    obtain ⟨v, e, hv⟩ := szLineS_loop xs hx hs FUEL (left - (xs.length : Int)) 0 (by omega) (by omega) (by omega) (by omega) (by rw [fuel_eq]; omega) (by rw [fuel_eq]; omega)
    refine ⟨v, e, ?_⟩
    rcases hv with hv | ⟨g1, g2, g3⟩
    · exact .inl hv
    · refine .inr ⟨g1, by omega, by omega, fun s hs' => ?_⟩
      have := g3 s (by simpa using hs')
      omega

theorem szUndo_ok (xs : List (List Int × Int)) (hx : xs.length ≤ maxLen) (hs : ∀ s ∈ xs, s.1.length ≤ maxLen) (left : Int) (h0 : 0 ≤ left) (h1 : left ≤ 1048576) :
    ∃ v, M_l_szUndo xs left = some v ∧ (v = -1 ∨ (0 ≤ v ∧ v ≤ left ∧ (xs.length : Int) ≤ left ∧ ∀ s ∈ xs, (s.1.length : Int) ≤ left)) := by
  obtain ⟨v, e, hv⟩ := szLineS_ok xs hx hs left h0 h1
  unfold M_l_szUndo
  rw [bindO_of e]
  rcases hv with rfl | ⟨v0, v1, v2⟩
  · exact ⟨-1, rfl, .inl rfl⟩
  · have : ¬ v < 0 := by omega
    exact ⟨v, by simp [this], .inr ⟨v0, v1, v2⟩⟩

theorem toLine_eq (l : List Int × Int) (hl : (l.1.length : Int) ≤ 100000000) : M_l_toLine l = some l := by
  unfold M_l_toLine; rw [bindO_of (toIntS_eq l.1 hl)]
theorem toPiece_eq (l : List Int) (hl : (l.length : Int) ≤ 100000000) : M_l_toPiece l = some l := by
  unfold M_l_toPiece; rw [bindO_of (toIntS_eq l hl)]

theorem toPieceS_loop (xs : List (List Int)) (hl : (xs.length : Int) ≤ 100000000) (hs : ∀ s ∈ xs, (s.length : Int) ≤ 100000000) (j : List (List Int) → Option (List (List Int))) : ∀ (m : Nat) (ys : List (List Int)) (k : Int), 0 ≤ k → k ≤ (xs.length : Int) → ys.length = xs.length → (∀ i : Nat, (i : Int) < k → ys[i]? = xs[i]?) → (xs.length : Int) - k < m → 0 < m →
    fixF (M_l_toPieceS_L1 xs j) m (ys, k) = j xs := by
  intro m
  induction m with
  | zero => intro ys k _ _ _ _ h h'; omega
  | succ m ih =>
    intro ys k hk hk' hy hyx hm _
    simp only [fixF, M_l_toPieceS_L1, guardO, Bool.cond_decide]
    by_cases h1 : k < (xs.length : Int)
    · have h2 : k < (ys.length : Int) := by omega
      have hb := hs (at' xs k) (List.mem_of_getElem? (at_some ⟨hk, h1⟩))
      rw [if_pos h1, if_pos ⟨hk, h1⟩, bindO_of (toPiece_eq _ hb), if_pos ⟨hk, h2⟩]
      rw [W_eq (by omega) (by omega)]
      refine ih _ _ (by omega) (by omega) (by simpa using hy) (fun i hi => ?_) (by omega) (by omega)
      rw [List.getElem?_set]
      by_cases he : k.toNat = i
      · subst he
        rw [if_pos rfl, if_pos (by omega), at_some ⟨hk, h1⟩]
      · rw [if_neg he]
        exact hyx i (by omega)
    · simp only [h1, if_false]
      congr 1
      apply List.ext_getElem?
      intro i
      by_cases hi : (i : Int) < k
      · exact hyx i hi
      · rw [List.getElem?_eq_none (by omega), List.getElem?_eq_none (by omega)]

theorem toRing_eq (xs : List (List Int)) (hl : (xs.length : Int) ≤ 100000000) (hs : ∀ s ∈ xs, (s.length : Int) ≤ 100000000) : M_l_toRing xs = some xs := by
  unfold M_l_toRing M_l_toPieceS guardO
  rw [if_pos (by omega)]
  simp only [joinO]
  rw [toPieceS_loop xs hl hs _ FUEL _ 0 (by omega) (by omega) (by simp) (fun i hi => by omega) (by rw [fuel_eq]; omega) (by rw [fuel_eq]; omega)]
  rfl

theorem toLineS_loop (xs : List (List Int × Int)) (hl : (xs.length : Int) ≤ 100000000) (hs : ∀ s ∈ xs, (s.1.length : Int) ≤ 100000000) (j : List (List Int × Int) → Option (List (List Int × Int))) : ∀ (m : Nat) (ys : List (List Int × Int)) (k : Int), 0 ≤ k → k ≤ (xs.length : Int) → ys.length = xs.length → (∀ i : Nat, (i : Int) < k → ys[i]? = xs[i]?) → (xs.length : Int) - k < m → 0 < m →
    fixF (M_l_toLineS_L1 xs j) m (ys, k) = j xs := by
  intro m
  induction m with
  | zero => intro ys k _ _ _ _ h h'; omega
  | succ m ih =>
    intro ys k hk hk' hy hyx hm _
    simp only [fixF, M_l_toLineS_L1, guardO, Bool.cond_decide]
    by_cases h1 : k < (xs.length : Int)
    · have h2 : k < (ys.length : Int) := by omega
      have hb := hs (at' xs k) (List.mem_of_getElem? (at_some ⟨hk, h1⟩))
      rw [if_pos h1, if_pos ⟨hk, h1⟩, bindO_of (toLine_eq (at' xs k) hb), if_pos ⟨hk, h2⟩]
      rw [W_eq (by omega) (by omega)]
      refine ih _ _ (by omega) (by omega) (by simpa using hy) (fun i hi => ?_) (by omega) (by omega)
      rw [List.getElem?_set]
      by_cases he : k.toNat = i
      · subst he
        rw [if_pos rfl, if_pos (by omega), at_some ⟨hk, h1⟩]
      · rw [if_neg he]
        exact hyx i (by omega)
    · simp only [h1, if_false]
      congr 1
      apply List.ext_getElem?
      intro i
      by_cases hi : (i : Int) < k
      · exact hyx i hi
      · rw [List.getElem?_eq_none (by omega), List.getElem?_eq_none (by omega)]

theorem toUndo_eq (xs : List (List Int × Int)) (hl : (xs.length : Int) ≤ 100000000) (hs : ∀ s ∈ xs, (s.1.length : Int) ≤ 100000000) : M_l_toUndo xs = some xs := by
  unfold M_l_toUndo M_l_toLineS guardO
  rw [if_pos (by omega)]
  simp only [joinO]
  rw [toLineS_loop xs hl hs _ FUEL _ 0 (by omega) (by omega) (by simp) (fun i hi => by omega) (by rw [fuel_eq]; omega) (by rw [fuel_eq]; omega)]
  rfl

theorem eqLine_self (l : List Int × Int) (hl : (l.1.length : Int) ≤ 100000000) : M_l_eqLine l l = some true := by
  unfold M_l_eqLine; rw [bindO_of (eqIntS_self l.1 hl)]; simp
theorem eqPiece_self (l : List Int) (hl : (l.length : Int) ≤ 100000000) : M_l_eqPiece l l = some true := by
  unfold M_l_eqPiece; rw [bindO_of (eqIntS_self l hl)]; simp

theorem eqRing_self (xs : List (List Int)) (hl : (xs.length : Int) ≤ 100000000) (hs : ∀ s ∈ xs, (s.length : Int) ≤ 100000000) : M_l_eqRing xs xs = some true := by
  have loop : ∀ (j : Unit → Option Bool) (m : Nat) (k : Int), 0 ≤ k → k ≤ (xs.length : Int) → (xs.length : Int) - k < m → 0 < m → fixF (M_l_eqPieceS_L1 xs xs j) m k = j () := by
    intro j m
    induction m with
    | zero => intro k _ _ h h'; omega
    | succ m ih =>
      intro k hk hk' hm _
      simp only [fixF, M_l_eqPieceS_L1, guardO, Bool.cond_decide]
      by_cases h1 : k < (xs.length : Int)
      · have hb := hs (at' xs k) (List.mem_of_getElem? (at_some ⟨hk, h1⟩))
        rw [if_pos h1, if_pos ⟨hk, h1⟩, if_pos ⟨hk, h1⟩, bindO_of (eqPiece_self _ hb)]
        simp only [Bool.not_true, cond_false]
        rw [W_eq (by omega) (by omega)]
        exact ih _ (by omega) (by omega) (by omega) (by omega)
      · simp only [h1, if_false]
  unfold M_l_eqRing M_l_eqPieceS
  simp only [decide_true, Bool.not_true, cond_false, joinO]
  rw [loop _ FUEL 0 (by omega) (by omega) (by rw [fuel_eq]; omega) (by rw [fuel_eq]; omega)]
  rfl

theorem eqUndo_self (xs : List (List Int × Int)) (hl : (xs.length : Int) ≤ 100000000) (hs : ∀ s ∈ xs, (s.1.length : Int) ≤ 100000000) : M_l_eqUndo xs xs = some true := by
  have loop : ∀ (j : Unit → Option Bool) (m : Nat) (k : Int), 0 ≤ k → k ≤ (xs.length : Int) → (xs.length : Int) - k < m → 0 < m → fixF (M_l_eqLineS_L1 xs xs j) m k = j () := by
    intro j m
    induction m with
    | zero => intro k _ _ h h'; omega
    | succ m ih =>
      intro k hk hk' hm _
      simp only [fixF, M_l_eqLineS_L1, guardO, Bool.cond_decide]
      by_cases h1 : k < (xs.length : Int)
      · have hb := hs (at' xs k) (List.mem_of_getElem? (at_some ⟨hk, h1⟩))
        rw [if_pos h1, if_pos ⟨hk, h1⟩, if_pos ⟨hk, h1⟩, bindO_of (eqLine_self (at' xs k) hb)]
        simp only [Bool.not_true, cond_false]
        rw [W_eq (by omega) (by omega)]
        exact ih _ (by omega) (by omega) (by omega) (by omega)
      · simp only [h1, if_false]
  unfold M_l_eqUndo M_l_eqLineS
  simp only [decide_true, Bool.not_true, cond_false, joinO]
  rw [loop _ FUEL 0 (by omega) (by omega) (by rw [fuel_eq]; omega) (by rw [fuel_eq]; omega)]
  rfl

theorem szEd_ok (vi : Bool) (mode : Int) (line : List Int × Int) (count op opc wait fr fh last : Int) (ring : List (List Int)) (undo : List (List Int × Int)) (nav : Int) (own : List Int × Int) (query : List Int) (hit : Int) (back : List Int × Int)
    (w : WfT (.pair .bool (.pair (.int .i64) (.pair (.pair (.sl (.int .i64)) (.int .i64)) (.pair (.int .i64) (.pair (.int .i64) (.pair (.int .i64) (.pair (.int .i64) (.pair (.int .i64) (.pair (.int .i64) (.pair (.int .i64) (.pair (.sl (.sl (.int .i64))) (.pair (.sl (.pair (.sl (.int .i64)) (.int .i64))) (.pair (.int .i64) (.pair (.pair (.sl (.int .i64)) (.int .i64)) (.pair (.sl (.int .i64)) (.pair (.int .i64) (.pair (.sl (.int .i64)) (.int .i64)))))))))))))))))) (vi, mode, line, count, op, opc, wait, fr, fh, last, ring, undo, nav, own, query, hit, back))
    (left : Int) (h0 : 0 ≤ left) (h1 : left ≤ 1048576) :
    ∃ v, M_l_szEd (vi, mode, line, count, op, opc, wait, fr, fh, last, ring, undo, nav, own, query, hit, back) left = some v ∧ (v = -1 ∨ (0 ≤ v ∧ v ≤ left ∧ Small 1048576 (vi, mode, line, count, op, opc, wait, fr, fh, last, ring, undo, nav, own, query, hit, back))) := by
  obtain ⟨w1, w2, ⟨⟨w3, _⟩, w4⟩, w5, w6, w7, w8, w9, w10, w11, ⟨w12, w12'⟩, ⟨w13, w13'⟩, w14, ⟨⟨w15, _⟩, _⟩, ⟨w16, _⟩, w17, ⟨w18, _⟩, _⟩ := w
  unfold M_l_szEd
  obtain ⟨a1, e1, v1⟩ := szLine_ok line w3 left h0 h1
  simp only [Bool.cond_decide]
  rw [bindO_of e1]
  rcases v1 with rfl | ⟨p1, q1, s1⟩
  · exact ⟨-1, rfl, .inl rfl⟩
  rw [if_neg (by omega)]
  obtain ⟨a2, e2, v2⟩ := szRing_ok ring w12 (fun s hs => (w12' s hs).1) a1 p1 (by omega)
  rw [bindO_of e2]
  rcases v2 with rfl | ⟨p2, q2, s2, s2'⟩
  · exact ⟨-1, rfl, .inl rfl⟩
  rw [if_neg (by omega)]
  obtain ⟨a3, e3, v3⟩ := szUndo_ok undo w13 (fun s hs => (w13' s hs).1.1) a2 p2 (by omega)
  rw [bindO_of e3]
  rcases v3 with rfl | ⟨p3, q3, s3, s3'⟩
  · exact ⟨-1, rfl, .inl rfl⟩
  rw [if_neg (by omega)]
  obtain ⟨a4, e4, v4⟩ := szLine_ok own w15 a3 p3 (by omega)
  rw [bindO_of e4]
  rcases v4 with rfl | ⟨p4, q4, s4⟩
  · exact ⟨-1, rfl, .inl rfl⟩
  rw [if_neg (by omega)]
  obtain ⟨a5, e5, v5⟩ := szIntS_ok query w16 a4 p4 (by omega)
  rw [bindO_of e5]
  rcases v5 with rfl | ⟨p5, q5, s5⟩
  · exact ⟨-1, rfl, .inl rfl⟩
  rw [if_neg (by omega)]
  obtain ⟨a6, e6, v6⟩ := szLine_ok back w18 a5 p5 (by omega)
  rw [bindO_of e6]
  rcases v6 with rfl | ⟨p6, q6, s6⟩
  · exact ⟨-1, rfl, .inl rfl⟩
  rw [if_neg (by omega)]
  refine ⟨a6, rfl, .inr ⟨p6, by omega, ?_⟩⟩
  refine ⟨by omega, ⟨by omega, fun s hs => ?_⟩, ⟨by omega, fun s hs => ?_⟩, by omega, by omega, by omega⟩
  · have := s2' s hs; omega
  · have := s3' s hs; omega

theorem small_le {N M : Nat} (h : N ≤ M) {e : EdT} (hs : Small N e) : Small M e := by
  obtain ⟨vi, mode, line, count, op, opc, wait, fr, fh, last, ring, undo, nav, own, query, hit, back⟩ := e
  obtain ⟨h1, ⟨h2, h3⟩, ⟨h4, h5⟩, h6, h7, h8⟩ := hs
  exact ⟨by omega, ⟨by omega, fun s hs => by have := h3 s hs; omega⟩, ⟨by omega, fun s hs => by have := h5 s hs; omega⟩, by omega, by omega, by omega⟩

theorem toEd_eq (vi : Bool) (mode : Int) (line : List Int × Int) (count op opc wait fr fh last : Int) (ring : List (List Int)) (undo : List (List Int × Int)) (nav : Int) (own : List Int × Int) (query : List Int) (hit : Int) (back : List Int × Int) (hs : Small 100000000 (vi, mode, line, count, op, opc, wait, fr, fh, last, ring, undo, nav, own, query, hit, back)) :
    M_l_toEd (vi, mode, line, count, op, opc, wait, fr, fh, last, ring, undo, nav, own, query, hit, back) = some (vi, mode, line, count, op, opc, wait, fr, fh, last, ring, undo, nav, own, query, hit, back) := by
  obtain ⟨h1, ⟨h2, h3⟩, ⟨h4, h5⟩, h6, h7, h8⟩ := hs
  unfold M_l_toEd
  simp only [toLine_eq line (by omega), toLine_eq own (by omega), toLine_eq back (by omega), toRing_eq ring (by omega) (fun s hs => by have := h3 s hs; omega), toUndo_eq undo (by omega) (fun s hs => by have := h5 s hs; omega), toIntS_eq query (by omega), bindO]

theorem eqEd_self (vi : Bool) (mode : Int) (line : List Int × Int) (count op opc wait fr fh last : Int) (ring : List (List Int)) (undo : List (List Int × Int)) (nav : Int) (own : List Int × Int) (query : List Int) (hit : Int) (back : List Int × Int) (hs : Small 100000000 (vi, mode, line, count, op, opc, wait, fr, fh, last, ring, undo, nav, own, query, hit, back)) :
    M_l_eqEd (vi, mode, line, count, op, opc, wait, fr, fh, last, ring, undo, nav, own, query, hit, back) (vi, mode, line, count, op, opc, wait, fr, fh, last, ring, undo, nav, own, query, hit, back) = some true := by
  obtain ⟨h1, ⟨h2, h3⟩, ⟨h4, h5⟩, h6, h7, h8⟩ := hs
  unfold M_l_eqEd
  simp only [eqLine_self line (by omega), eqLine_self own (by omega), eqLine_self back (by omega), eqRing_self ring (by omega) (fun s hs => by have := h3 s hs; omega), eqUndo_self undo (by omega) (fun s hs => by have := h5 s hs; omega), eqIntS_self query (by omega), bindO, decide_true, Bool.not_true, cond_false, beq_self_eq_true]

def setU (line : List Int × Int) (l : List Int × Int) (undo : List (List Int × Int)) (last nl : Int) : List (List Int × Int) :=
  if line.1 ≠ l.1 ∧ ¬ (nl = 1 ∧ last = 1) then putU undo line else undo

def setR (ok : Bool) (r : EdT) : EdT × Bool := if ok then (r, true) else (zEd, false)

section
variable (vi : Bool) (mode : Int) (line : List Int × Int) (count op opc wait fr fh last : Int) (ring : List (List Int)) (undo : List (List Int × Int)) (nav : Int) (own : List Int × Int) (query : List Int) (hit : Int) (back : List Int × Int)
  (hs : Small 1048576 (vi, mode, line, count, op, opc, wait, fr, fh, last, ring, undo, nav, own, query, hit, back)) (l : List Int × Int) (hl : l.1.length ≤ 1048576) (nl : Int) (wl : l.2 ≤ 9223372036854775807)
include hs hl wl

theorem edSet_s : M_s_EdSet (vi, mode, line, count, op, opc, wait, fr, fh, last, ring, undo, nav, own, query, hit, back) l nl =
    some (setR (edOkB (vi, mode, line, count, op, opc, wait, fr, fh, last, ring, undo, nav, own, query, hit, back) && lineOk l && decide (0 ≤ nl ∧ nl ≤ 3)) (vi, mode, (l.1, clipAt mode l), 0, 0, 0, 0, fr, fh, nl, ring, setU line l undo last nl, nav, own, query, hit, back)) := by
  unfold M_s_EdSet
  have hparts : edOkB (vi, mode, line, count, op, opc, wait, fr, fh, last, ring, undo, nav, own, query, hit, back) = true → lineOk line = true ∧ undoOk undo = true := fun h => edOkB_parts h
  rw [bindO_of (edOk_s vi mode line count op opc wait fr fh last ring undo nav own query hit back (small_le (by omega) hs)), lineOk_s l (by omega), callO_of]
  obtain ⟨h1, ⟨h2, h3⟩, ⟨h4, h5⟩, h6, h7, h8⟩ := hs
  generalize edOkB (vi, mode, line, count, op, opc, wait, fr, fh, last, ring, undo, nav, own, query, hit, back) = K at *
  generalize hL : lineOk l = L
  cases K
  · simp [zEd, setR]
  · cases L
    · simp [zEd, setR]
    · by_cases hn : 0 ≤ nl ∧ nl ≤ 3
      · have n1 : ¬ nl < 0 := by omega
        have n2 : ¬ 3 < nl := by omega
        rw [decide_eq_true hn]
        simp only [Bool.not_true, n1, n2, decide_false, if_true, cond_false, Bool.and_self, setR]
        rw [bindO_of (copyEd_s vi mode line count op opc wait fr fh last ring undo nav own query hit back h1 h2 h3 h4 h5 h6 h7 h8)]
        unfold M_s_l21Idle
        simp only [bindO, joinO]
        rw [same_s _ _ (by omega), copyLine_s (l.1, l.2) (by simp only; omega)]
        obtain ⟨p1, p2⟩ := hparts rfl
        rw [undoPut_s undo line p2 p1 (by omega) (fun s h => by have := h5 s h; omega) (by omega)]
        have hS : ∀ (X Y : Option (EdT × Bool)), (bif (bif (!(decide (line.1 = l.1))) then (!(bif (decide (nl = 1)) then (decide (last = 1)) else false)) else false) then X else Y) = if line.1 ≠ l.1 ∧ ¬ (nl = 1 ∧ last = 1) then X else Y := by
          intro X Y
          by_cases a : line.1 = l.1 <;> by_cases b : nl = 1 <;> by_cases c : last = 1 <;> simp [a, b, c]
        have hc := fun u : List (List Int × Int) => clip_s vi mode (l.1, l.2) 0 0 0 0 fr fh nl ring u nav (own.1, own.2) query hit (back.1, back.2) wl
        simp only [hS, hc]
        unfold setU
        split <;> rfl
      · rw [decide_eq_false hn]
        by_cases n1 : nl < 0
        · simp [n1, zEd, setR]
        · have n2 : 3 < nl := by omega
          simp [n1, n2, zEd, setR]

end

def settledE (nl : Int) : EdT → EdT
  | (vi, mode, line, _, _, _, _, fr, fh, _, ring, undo, nav, own, query, hit, back) => (vi, mode, line, 0, 0, 0, 0, fr, fh, nl, ring, undo, nav, own, query, hit, back)
def setE (l : List Int × Int) (nl : Int) : EdT → EdT
  | (vi, mode, line, _, _, _, _, fr, fh, last, ring, undo, nav, own, query, hit, back) => (vi, mode, (l.1, clipAt mode l), 0, 0, 0, 0, fr, fh, nl, ring, setU line l undo last nl, nav, own, query, hit, back)
def ringE (r : List (List Int)) : EdT → EdT
  | (vi, mode, line, count, op, opc, wait, fr, fh, last, _, undo, nav, own, query, hit, back) => (vi, mode, line, count, op, opc, wait, fr, fh, last, r, undo, nav, own, query, hit, back)
def typE (at_ : Int) : EdT → EdT
  | (vi, _, line, count, op, opc, wait, fr, fh, last, ring, undo, nav, own, query, hit, back) => (vi, 1, (line.1, at_), count, op, opc, wait, fr, fh, last, ring, undo, nav, own, query, hit, back)

section
variable {vi : Bool} {mode : Int} {line : List Int × Int} {count op opc wait fr fh last : Int} {ring : List (List Int)} {undo : List (List Int × Int)} {nav : Int} {own : List Int × Int} {query : List Int} {hit : Int} {back : List Int × Int}

theorem edOkB_all (h : edOkB (vi, mode, line, count, op, opc, wait, fr, fh, last, ring, undo, nav, own, query, hit, back) = true) :
    lineOk line = true ∧ lineOk own = true ∧ lineOk back = true ∧ (0 ≤ count ∧ count ≤ 999) ∧ (0 ≤ opc ∧ opc ≤ 999) ∧ modeB vi mode line op opc wait = true ∧ findB fr fh = true ∧ (0 ≤ last ∧ last ≤ 3) ∧ ringOk ring = true ∧ undoOk undo = true ∧ (0 ≤ nav ∧ nav ≤ 1000000060) ∧ (0 ≤ hit ∧ hit ≤ 1000000060) ∧ (!decide (nav = 0) || emptyL own) = true ∧ (query.length : Int) ≤ 40 ∧ query.all pr = true ∧ searchB mode query hit back = true := by
  unfold edOkB at h
  simp only [Bool.and_eq_true, decide_eq_true_eq] at h
  obtain ⟨⟨⟨⟨⟨⟨⟨⟨⟨⟨⟨⟨⟨⟨⟨h1, h2⟩, h3⟩, h4⟩, h5⟩, h6⟩, h7⟩, h8⟩, h9⟩, h10⟩, h11⟩, h12⟩, h13⟩, h14⟩, h15⟩, h16⟩ := h
  exact ⟨h1, h2, h3, h4, h5, h6, h7, h8, h9, h10, h11, h12, h13, h14, h15, h16⟩

theorem edOkB_mk (h : lineOk line = true ∧ lineOk own = true ∧ lineOk back = true ∧ (0 ≤ count ∧ count ≤ 999) ∧ (0 ≤ opc ∧ opc ≤ 999) ∧ modeB vi mode line op opc wait = true ∧ findB fr fh = true ∧ (0 ≤ last ∧ last ≤ 3) ∧ ringOk ring = true ∧ undoOk undo = true ∧ (0 ≤ nav ∧ nav ≤ 1000000060) ∧ (0 ≤ hit ∧ hit ≤ 1000000060) ∧ (!decide (nav = 0) || emptyL own) = true ∧ (query.length : Int) ≤ 40 ∧ query.all pr = true ∧ searchB mode query hit back = true) :
    edOkB (vi, mode, line, count, op, opc, wait, fr, fh, last, ring, undo, nav, own, query, hit, back) = true := by
  obtain ⟨h1, h2, h3, h4, h5, h6, h7, h8, h9, h10, h11, h12, h13, h14, h15, h16⟩ := h
  unfold edOkB
  simp only [Bool.and_eq_true, decide_eq_true_eq]
  exact ⟨⟨⟨⟨⟨⟨⟨⟨⟨⟨⟨⟨⟨⟨⟨h1, h2⟩, h3⟩, h4⟩, h5⟩, h6⟩, h7⟩, h8⟩, h9⟩, h10⟩, h11⟩, h12⟩, h13⟩, h14⟩, h15⟩, h16⟩

theorem undoOk_spec {u : List (List Int × Int)} (h : undoOk u = true) : u.length ≤ 20 ∧ ∀ s ∈ u, lineOk s = true := by
  unfold undoOk at h
  simp only [Bool.and_eq_true, decide_eq_true_eq, List.all_eq_true] at h
  exact ⟨h.2, h.1⟩

theorem small_of (h : edOkB (vi, mode, line, count, op, opc, wait, fr, fh, last, ring, undo, nav, own, query, hit, back) = true) : Small 400 (vi, mode, line, count, op, opc, wait, fr, fh, last, ring, undo, nav, own, query, hit, back) := by
  obtain ⟨h1, h2, h3, h4, h5, h6, h7, h8, h9, h10, h11, h12, h13, h14, h15, h16⟩ := edOkB_all h
  obtain ⟨r1, r2⟩ := ringOk_spec h9
  obtain ⟨u1, u2⟩ := undoOk_spec h10
  exact ⟨(lineOk_at h1).2.2, ⟨by omega, fun s hs => allAdm_len (r2 s hs).1⟩, ⟨by omega, fun s hs => (lineOk_at (u2 s hs)).2.2⟩, (lineOk_at h2).2.2, by omega, (lineOk_at h3).2.2⟩

theorem small_zEd : Small 400 zEd := ⟨by simp, ⟨by simp, by simp⟩, ⟨by simp, by simp⟩, by simp, by simp, by simp⟩
end

theorem putU_ok {u : List (List Int × Int)} {l : List Int × Int} (hu : undoOk u = true) (hl : lineOk l = true) : undoOk (putU u l) = true := by
  obtain ⟨u1, u2⟩ := undoOk_spec hu
  have hm : ∀ s ∈ u ++ [l], lineOk s = true := by
    intro s hs
    rcases List.mem_append.1 hs with hs | hs
    · exact u2 s hs
    · simp only [List.mem_singleton] at hs; subst hs; exact hl
  unfold putU
  split
  · exact hu
  · split
    · unfold undoOk
      simp only [Bool.and_eq_true, decide_eq_true_eq, List.all_eq_true]
      exact ⟨fun s hs => hm s (List.mem_of_mem_drop hs), by simp; omega⟩
    · unfold undoOk
      simp only [Bool.and_eq_true, decide_eq_true_eq, List.all_eq_true]
      exact ⟨hm, by simp; omega⟩

theorem setU_ok {line l : List Int × Int} {undo : List (List Int × Int)} {last nl : Int} (hu : undoOk undo = true) (hl : lineOk line = true) : undoOk (setU line l undo last nl) = true := by
  unfold setU
  split
  · exact putU_ok hu hl
  · exact hu

theorem clipAt_bound {mode : Int} {l : List Int × Int} (h : lineOk l = true) : 0 ≤ clipAt mode l ∧ clipAt mode l ≤ (l.1.length : Int) := by
  obtain ⟨a, b, _⟩ := lineOk_at h
  unfold clipAt
  split <;> omega

theorem clip_ok {mode : Int} {l : List Int × Int} (h : lineOk l = true) : lineOk (l.1, clipAt mode l) = true := lineOk_mk (allAdm_of h) (clipAt_bound h).1 (clipAt_bound h).2

section
variable (vi : Bool) (mode : Int) (line : List Int × Int) (count op opc wait fr fh last : Int) (ring : List (List Int)) (undo : List (List Int × Int)) (nav : Int) (own : List Int × Int) (query : List Int) (hit : Int) (back : List Int × Int)
  (hv : edOkB (vi, mode, line, count, op, opc, wait, fr, fh, last, ring, undo, nav, own, query, hit, back) = true)
include hv

theorem modeB_idle (l : List Int × Int) (hl : lineOk l = true) : modeB vi mode (l.1, clipAt mode l) 0 0 0 = true := by
  obtain ⟨h1, h2, h3, h4, h5, h6, h7, h8, h9, h10, h11, h12, h13, h14, h15, h16⟩ := edOkB_all hv
  obtain ⟨p0, p1, p2⟩ := lineOk_at hl
  unfold modeB at h6 ⊢
  simp only [Bool.and_eq_true, decide_eq_true_eq] at h6 ⊢
  obtain ⟨⟨⟨a1, a2, a3, a4, a5, a6, a7, a8⟩, _⟩, _⟩ := h6
  refine ⟨⟨⟨a1, a2, a3, a4, a5, fun hm => ?_, by simp, by simp⟩, by decide⟩, by decide⟩
  unfold atEnd clipAt
  by_cases c : mode = 2 ∧ l.2 = (l.1.length : Int) ∧ 0 < l.2
  · rw [if_pos c]
    have : ¬ (l.2 - 1 = (l.1.length : Int)) := by omega
    simp [this]
  · rw [if_neg c]
    by_cases e : l.2 = (l.1.length : Int)
    · have : ¬ 0 < (l.1.length : Int) := by
        intro hp; exact c ⟨hm, e, by omega⟩
      rw [decide_eq_false this]; rfl
    · rw [decide_eq_false e]; simp

theorem clip_self : clipAt mode line = line.2 := by
  obtain ⟨h1, h2, h3, h4, h5, h6, h7, h8, h9, h10, h11, h12, h13, h14, h15, h16⟩ := edOkB_all hv
  obtain ⟨p0, p1, p2⟩ := lineOk_at h1
  unfold modeB at h6
  simp only [Bool.and_eq_true, decide_eq_true_eq] at h6
  obtain ⟨⟨⟨a1, a2, a3, a4, a5, a6, a7, a8⟩, _⟩, _⟩ := h6
  unfold clipAt
  split
  · rename_i c
    have := a6 c.1
    unfold atEnd at this
    have e1 : 0 < (line.1.length : Int) := by omega
    rw [decide_eq_true e1, decide_eq_true c.2.1] at this
    cases this
  · rfl

theorem settledE_ok (nl : Int) (hn : 0 ≤ nl ∧ nl ≤ 3) : edOkB (settledE nl (vi, mode, line, count, op, opc, wait, fr, fh, last, ring, undo, nav, own, query, hit, back)) = true := by
  obtain ⟨h1, h2, h3, h4, h5, h6, h7, h8, h9, h10, h11, h12, h13, h14, h15, h16⟩ := edOkB_all hv
  have := modeB_idle vi mode line count op opc wait fr fh last ring undo nav own query hit back hv line h1
  rw [clip_self vi mode line count op opc wait fr fh last ring undo nav own query hit back hv] at this
  exact edOkB_mk ⟨h1, h2, h3, by omega, by omega, this, h7, hn, h9, h10, h11, h12, h13, h14, h15, h16⟩

theorem setE_ok (l : List Int × Int) (hl : lineOk l = true) (nl : Int) (hn : 0 ≤ nl ∧ nl ≤ 3) : edOkB (setE l nl (vi, mode, line, count, op, opc, wait, fr, fh, last, ring, undo, nav, own, query, hit, back)) = true := by
  obtain ⟨h1, h2, h3, h4, h5, h6, h7, h8, h9, h10, h11, h12, h13, h14, h15, h16⟩ := edOkB_all hv
  exact edOkB_mk ⟨clip_ok hl, h2, h3, by omega, by omega, modeB_idle vi mode line count op opc wait fr fh last ring undo nav own query hit back hv l hl, h7, hn, h9, setU_ok h10 h1, h11, h12, h13, h14, h15, h16⟩

theorem ringE_ok (r : List (List Int)) (hr : ringOk r = true) : edOkB (ringE r (vi, mode, line, count, op, opc, wait, fr, fh, last, ring, undo, nav, own, query, hit, back)) = true := by
  obtain ⟨h1, h2, h3, h4, h5, h6, h7, h8, h9, h10, h11, h12, h13, h14, h15, h16⟩ := edOkB_all hv
  exact edOkB_mk ⟨h1, h2, h3, h4, h5, h6, h7, h8, hr, h10, h11, h12, h13, h14, h15, h16⟩

theorem copyV_s : M_s_l21Copy (vi, mode, line, count, op, opc, wait, fr, fh, last, ring, undo, nav, own, query, hit, back) = some (vi, mode, line, count, op, opc, wait, fr, fh, last, ring, undo, nav, own, query, hit, back) := by
  obtain ⟨h1, ⟨h2, h3⟩, ⟨h4, h5⟩, h6, h7, h8⟩ := small_le (M := 1048576) (by omega) (small_of hv)
  exact copyEd_s vi mode line count op opc wait fr fh last ring undo nav own query hit back h1 h2 h3 h4 h5 h6 h7 h8
theorem copyV_i : M_i_copyEd (vi, mode, line, count, op, opc, wait, fr, fh, last, ring, undo, nav, own, query, hit, back) = some (vi, mode, line, count, op, opc, wait, fr, fh, last, ring, undo, nav, own, query, hit, back) := by
  obtain ⟨h1, ⟨h2, h3⟩, ⟨h4, h5⟩, h6, h7, h8⟩ := small_le (M := 1048576) (by omega) (small_of hv)
  exact copyEd_i vi mode line count op opc wait fr fh last ring undo nav own query hit back h1 h2 h3 h4 h5 h6 h7 h8

theorem settled_i (nl : Int) : M_i_settled (vi, mode, line, count, op, opc, wait, fr, fh, last, ring, undo, nav, own, query, hit, back) nl = some (settledE nl (vi, mode, line, count, op, opc, wait, fr, fh, last, ring, undo, nav, own, query, hit, back)) := by
  unfold M_i_settled
  rw [bindO_of (copyV_i vi mode line count op opc wait fr fh last ring undo nav own query hit back hv)]
  rfl

theorem bell_i : M_i_bell (vi, mode, line, count, op, opc, wait, fr, fh, last, ring, undo, nav, own, query, hit, back) = some (settledE 0 (vi, mode, line, count, op, opc, wait, fr, fh, last, ring, undo, nav, own, query, hit, back), 1) := by
  unfold M_i_bell
  rw [bindO_of (settled_i vi mode line count op opc wait fr fh last ring undo nav own query hit back hv 0)]

theorem bell_s : M_s_l23Bell (vi, mode, line, count, op, opc, wait, fr, fh, last, ring, undo, nav, own, query, hit, back) = some (settledE 0 (vi, mode, line, count, op, opc, wait, fr, fh, last, ring, undo, nav, own, query, hit, back), 1) := by
  unfold M_s_l23Bell M_s_l21Idle
  rw [bindO_of (copyV_s vi mode line count op opc wait fr fh last ring undo nav own query hit back hv)]
  rfl

theorem set_i (l : List Int × Int) (hl : lineOk l = true) (nl : Int) : M_i_set (vi, mode, line, count, op, opc, wait, fr, fh, last, ring, undo, nav, own, query, hit, back) l nl = some (setE l nl (vi, mode, line, count, op, opc, wait, fr, fh, last, ring, undo, nav, own, query, hit, back)) := by
  obtain ⟨h1, h2, h3, h4, h5, h6, h7, h8, h9, h10, h11, h12, h13, h14, h15, h16⟩ := edOkB_all hv
  obtain ⟨p0, p1, p2⟩ := lineOk_at hl
  obtain ⟨q0, q1, q2⟩ := lineOk_at h1
  obtain ⟨u1, u2⟩ := undoOk_spec h10
  unfold M_i_set
  rw [bindO_of (settled_i vi mode line count op opc wait fr fh last ring undo nav own query hit back hv nl)]
  simp only [bindO, joinO, settledE, setE]
  rw [same_i _ _ (by omega), copyLine_i (l.1, l.2) (by simp only; omega)]
  rw [undoPut_i undo line h10 h1 (by omega) (fun s h => by have := (lineOk_at (u2 s h)).2.2; omega) (by omega)]
  have hS : ∀ (X Y : Option EdT), (bif (bif (!(decide (l.1 = line.1))) then (!(bif (decide (nl = 1)) then (decide (last = 1)) else false)) else false) then X else Y) = if line.1 ≠ l.1 ∧ ¬ (nl = 1 ∧ last = 1) then X else Y := by
    intro X Y
    by_cases a : line.1 = l.1
    · by_cases b : nl = 1 <;> by_cases c : last = 1 <;> simp [a, b, c]
    · have a' : ¬ l.1 = line.1 := fun h => a h.symm
      by_cases b : nl = 1 <;> by_cases c : last = 1 <;> simp [a, a', b, c]
  have hc := inCommand_i (l.1, l.2) mode (by simp only; omega)
  simp only [hS, hc]
  unfold setU
  by_cases hq : line.1 ≠ l.1 ∧ ¬ (nl = 1 ∧ last = 1)
  · simp only [if_pos hq]
  · simp only [if_neg hq]

theorem edSet_v (l : List Int × Int) (hl : lineOk l = true) (nl : Int) (hn : 0 ≤ nl ∧ nl ≤ 3) : M_s_EdSet (vi, mode, line, count, op, opc, wait, fr, fh, last, ring, undo, nav, own, query, hit, back) l nl = some (setE l nl (vi, mode, line, count, op, opc, wait, fr, fh, last, ring, undo, nav, own, query, hit, back), true) := by
  obtain ⟨p0, p1, p2⟩ := lineOk_at hl
  rw [edSet_s vi mode line count op opc wait fr fh last ring undo nav own query hit back (small_le (by omega) (small_of hv)) l (by omega) nl (by omega), hv, hl, decide_eq_true hn]
  rfl

theorem l23Set_v (l : List Int × Int) (hl : lineOk l = true) (nl : Int) (hn : 0 ≤ nl ∧ nl ≤ 3) : M_s_l23Set (vi, mode, line, count, op, opc, wait, fr, fh, last, ring, undo, nav, own, query, hit, back) l true nl = some (setE l nl (vi, mode, line, count, op, opc, wait, fr, fh, last, ring, undo, nav, own, query, hit, back), 0) := by
  unfold M_s_l23Set
  rw [bindO_of (edSet_v vi mode line count op opc wait fr fh last ring undo nav own query hit back hv l hl nl hn)]
  rfl

theorem put_i (l : List Int × Int) (hl : lineOk l = true) : M_i_put (vi, mode, line, count, op, opc, wait, fr, fh, last, ring, undo, nav, own, query, hit, back) l = some (setE l 0 (vi, mode, line, count, op, opc, wait, fr, fh, last, ring, undo, nav, own, query, hit, back), 0) := by
  unfold M_i_put
  rw [bindO_of (set_i vi mode line count op opc wait fr fh last ring undo nav own query hit back hv l hl 0)]

theorem go_s (a : Int) : M_s_l23Go (vi, mode, line, count, op, opc, wait, fr, fh, last, ring, undo, nav, own, query, hit, back) a = some (setE (goL line a) 0 (vi, mode, line, count, op, opc, wait, fr, fh, last, ring, undo, nav, own, query, hit, back), 0) := by
  obtain ⟨h1, _⟩ := edOkB_all hv
  unfold M_s_l23Go
  rw [bindO_of (lineGo_s line a h1)]
  simp only
  rw [bindO_of (l23Set_v vi mode line count op opc wait fr fh last ring undo nav own query hit back hv (goL line a) (goL_ok h1 a) 0 (by omega))]
end

def MkI (ys : List Int) (k : Int) : Prop := ∀ i : Nat, i < ys.length → ys[i]? = some (k + i)

theorem markIntS_loop (xs : List Int) (hl : (xs.length : Int) ≤ 100000000) (k0 : Int) (hk0 : 0 ≤ k0 ∧ k0 ≤ 4000000000000000000) (j : List Int × Int → Option (Int × List Int)) : ∀ (m : Nat) (ys : List Int) (i : Int), 0 ≤ i → i ≤ (xs.length : Int) → ys.length = xs.length → (∀ q : Nat, (q : Int) < i → ys[q]? = some (k0 + q)) → (xs.length : Int) - i < m → 0 < m →
    ∃ zs, fixF (M_l_markIntS_L1 xs j) m (ys, k0 + i, i) = j (zs, k0 + xs.length) ∧ zs.length = xs.length ∧ MkI zs k0 := by
  intro m
  induction m with
  | zero => intro ys k _ _ _ _ h h'; omega
  | succ m ih =>
    intro ys k hk hk' hy hyx hm _
    simp only [fixF, M_l_markIntS_L1, guardO, Bool.cond_decide]
    by_cases h1 : k < (xs.length : Int)
    · simp only [h1, hk, if_true, and_self]
      rw [W_eq (x := k + 1) (by omega) (by omega), W_eq (x := k0 + k + 1) (by omega) (by omega)]
      have e : k0 + k + 1 = k0 + (k + 1) := by omega
      rw [e]
      refine ih _ _ (by omega) (by omega) (by simpa using hy) (fun q hq => ?_) (by omega) (by omega)
      rw [List.getElem?_set]
      by_cases he : k.toNat = q
      · subst he
        rw [if_pos rfl, if_pos (by omega)]
        congr 1; omega
      · rw [if_neg he]
        exact hyx q (by omega)
    · simp only [h1, if_false]
      have : k = (xs.length : Int) := by omega
      subst this
      exact ⟨ys, rfl, hy, fun q hq => hyx q (by omega)⟩

theorem markIntS_ok (xs : List Int) (hl : (xs.length : Int) ≤ 100000000) (k : Int) (hk0 : 0 ≤ k ∧ k ≤ 4000000000000000000) : ∃ ys, M_l_markIntS xs k = some (k + xs.length, ys) ∧ ys.length = xs.length ∧ MkI ys k := by
  obtain ⟨zs, h1, h2, h3⟩ := markIntS_loop xs hl k hk0 (fun x => some (x.2, x.1)) FUEL xs 0 (by omega) (by omega) rfl (fun q hq => by omega) (by rw [fuel_eq]; omega) (by rw [fuel_eq]; omega)
  refine ⟨zs, ?_, h2, h3⟩
  unfold M_l_markIntS joinO
  have e : k + 0 = k := by omega
  rw [e] at h1
  exact h1

theorem heldIntS_loop (xs : List Int) (hl : (xs.length : Int) ≤ 100000000) (k0 : Int) (hk0 : 0 ≤ k0 ∧ k0 ≤ 4000000000000000000) (hM : MkI xs k0) (j : Int → Option Int) : ∀ (m : Nat) (i : Int), 0 ≤ i → i ≤ (xs.length : Int) → (xs.length : Int) - i < m → 0 < m →
    fixF (M_l_heldIntS_L1 xs j) m (k0 + i, i) = j (k0 + xs.length) := by
  intro m
  induction m with
  | zero => intro k _ _ h h'; omega
  | succ m ih =>
    intro k hk hk' hm _
    simp only [fixF, M_l_heldIntS_L1, guardO, Bool.cond_decide]
    by_cases h1 : k < (xs.length : Int)
    · have h2 := hM k.toNat (by omega)
      rw [at_some ⟨hk, h1⟩] at h2
      have h3 : at' xs k = k0 + k := by
        injection h2 with h2
        rw [h2]; omega
      simp only [h1, hk, if_true, and_self, h3, decide_true, Bool.not_true, cond_false]
      rw [W_eq (x := k + 1) (by omega) (by omega), W_eq (x := k0 + k + 1) (by omega) (by omega)]
      have e : k0 + k + 1 = k0 + (k + 1) := by omega
      rw [e]
      exact ih _ (by omega) (by omega) (by omega) (by omega)
    · simp only [h1, if_false]
      congr 1; omega

theorem heldIntS_ok (xs : List Int) (hl : (xs.length : Int) ≤ 100000000) (k : Int) (hk0 : 0 ≤ k ∧ k ≤ 4000000000000000000) (hM : MkI xs k) : M_l_heldIntS xs k = some (k + xs.length) := by
  have h := heldIntS_loop xs hl k hk0 hM (fun x => some x) FUEL 0 (by omega) (by omega) (by rw [fuel_eq]; omega) (by rw [fuel_eq]; omega)
  unfold M_l_heldIntS joinO
  have e : k + 0 = k := by omega
  rw [e] at h
  exact h

def totP : List (List Int) → Int
  | [] => 0
  | p :: t => (p.length : Int) + totP t
def MkP : List (List Int) → Int → Prop
  | [], _ => True
  | p :: t, k => MkI p k ∧ MkP t (k + p.length)

theorem totP_app (a b : List (List Int)) : totP (a ++ b) = totP a + totP b := by
  induction a with
  | nil => simp [totP]
  | cons p t ih => simp only [List.cons_append, totP, ih]; omega
theorem MkP_app (a b : List (List Int)) : ∀ k, MkP (a ++ b) k ↔ MkP a k ∧ MkP b (k + totP a) := by
  induction a with
  | nil => intro k; simp [MkP, totP]
  | cons p t ih =>
    intro k
    simp only [List.cons_append, MkP, ih, totP, and_assoc]
    have : k + ↑p.length + totP t = k + (↑p.length + totP t) := by omega
    rw [this]
theorem totP_bound (xs : List (List Int)) (N : Int) (hN : 0 ≤ N) (hs : ∀ s ∈ xs, (s.length : Int) ≤ N) : 0 ≤ totP xs ∧ totP xs ≤ N * xs.length := by
  induction xs with
  | nil => simp [totP]
  | cons p t ih =>
    have h1 := hs p (by simp)
    have h2 := ih (fun s h => hs s (by simp [h]))
    simp only [totP, List.length_cons]
    have e : N * ((t.length + 1 : Nat) : Int) = N * t.length + N := by rw [Int.natCast_add, Int.mul_add]; simp
    omega
theorem totP_len {xs ys : List (List Int)} (h : xs.map List.length = ys.map List.length) : totP xs = totP ys := by
  induction xs generalizing ys with
  | nil => cases ys with
    | nil => rfl
    | cons _ _ => simp at h
  | cons p t ih => cases ys with
    | nil => simp at h
    | cons q u =>
      simp only [List.map_cons, List.cons.injEq] at h
      simp only [totP, ih h.2, h.1]

theorem mul_small {a b : Int} (ha : 0 ≤ a) (hb : 0 ≤ b) (ha' : a ≤ 1048576) (hb' : b ≤ 1048576) : a * b ≤ 1099511627776 := by
  have h1 : a * b ≤ 1048576 * b := Int.mul_le_mul_of_nonneg_right ha' hb
  omega

theorem markPieceS_loop (xs : List (List Int)) (hl : (xs.length : Int) ≤ 1048576) (hs : ∀ s ∈ xs, (s.length : Int) ≤ 1048576) (k0 : Int) (hk0 : 0 ≤ k0 ∧ k0 ≤ 1000000000000000000) (j : List (List Int) × Int → Option (Int × List (List Int))) : ∀ (rest : List (List Int)) (m : Nat) (ds : List (List Int)), xs.length = ds.length + rest.length → xs.map List.length = (ds ++ rest).map List.length → MkP ds k0 → rest.length < m →
    ∃ zs, fixF (M_l_markPieceS_L1 xs j) m (ds ++ rest, k0 + totP ds, (ds.length : Int)) = j (zs, k0 + totP xs) ∧ zs.map List.length = xs.map List.length ∧ MkP zs k0 := by
  intro rest
  induction rest with
  | nil =>
    intro m ds h1 h2 h3 hm
    obtain ⟨m, rfl⟩ : ∃ q, m = q + 1 := ⟨m - 1, by simp at hm; omega⟩
    simp only [List.append_nil, List.length_nil, Nat.add_zero] at h1 h2 ⊢
    simp only [fixF, M_l_markPieceS_L1, Bool.cond_decide]
    rw [if_neg (by omega)]
    exact ⟨ds, by rw [totP_len h2], h2.symm, h3⟩
  | cons p rest ih =>
    intro m ds h1 h2 h3 hm
    obtain ⟨m, rfl⟩ : ∃ q, m = q + 1 := ⟨m - 1, by simp at hm; omega⟩
    simp only [List.length_cons] at h1 hm
    have hlt : (ds.length : Int) < (xs.length : Int) := by omega
    have hp : (p.length : Int) ≤ 1048576 := by
      have hm' : p.length ∈ xs.map List.length := by rw [h2]; simp
      obtain ⟨s, q1, q2⟩ := List.mem_map.1 hm'
      have := hs s q1
      omega
    have hds := totP_bound ds 1048576 (by omega) (fun s h => by
      have hm' : s.length ∈ xs.map List.length := by rw [h2]; simp; exact .inl ⟨s, h, rfl⟩
      obtain ⟨s', q1, q2⟩ := List.mem_map.1 hm'
      have := hs s' q1
      omega)
    have hb : totP ds ≤ 1099511627776 := by
      have := mul_small (a := 1048576) (b := ds.length) (by omega) (by omega) (by omega) (by omega)
      omega
    have hat : at' (ds ++ p :: rest) (ds.length : Int) = p := by
      unfold at'
      simp [List.getD_eq_getElem?_getD]
    obtain ⟨ys, y1, y2, y3⟩ := markIntS_ok p (by omega) (k0 + totP ds) (by omega)
    simp only [fixF, M_l_markPieceS_L1, guardO, Bool.cond_decide]
    rw [if_pos hlt, if_pos ⟨by omega, hlt⟩, hat, bindO_of y1, W_eq (by omega) (by omega)]
    have hset : (ds ++ p :: rest).set (Int.toNat (ds.length : Int)) ys = (ds ++ [ys]) ++ rest := by
      simp [List.set_append]
    have hk : k0 + totP ds + (p.length : Int) = k0 + totP (ds ++ [ys]) := by
      rw [totP_app]; simp only [totP]; omega
    have hi : (ds.length : Int) + 1 = ((ds ++ [ys]).length : Int) := by simp
    rw [hset, hi]
    simp only
    rw [hk]
    refine ih m (ds ++ [ys]) (by simp; omega) (by rw [h2]; simp [y2]) ?_ (by omega)
    rw [MkP_app]
    exact ⟨h3, y3, trivial⟩

theorem markRing_ok (xs : List (List Int)) (hl : (xs.length : Int) ≤ 1048576) (hs : ∀ s ∈ xs, (s.length : Int) ≤ 1048576) (k : Int) (hk0 : 0 ≤ k ∧ k ≤ 1000000000000000000) : ∃ zs, M_l_markRing xs k = some (k + totP xs, zs) ∧ zs.map List.length = xs.map List.length ∧ MkP zs k := by
  obtain ⟨zs, h1, h2, h3⟩ := markPieceS_loop xs hl hs k hk0 (fun x => some (x.2, x.1)) xs FUEL [] (by simp) (by simp) trivial (by rw [fuel_eq]; omega)
  refine ⟨zs, ?_, h2, h3⟩
  unfold M_l_markRing M_l_markPieceS joinO
  simp only [List.nil_append, totP, Int.add_zero, List.length_nil] at h1
  have e : ((0 : Nat) : Int) = 0 := rfl
  rw [e] at h1
  exact bindO_of h1

theorem heldPieceS_loop (xs : List (List Int)) (hl : (xs.length : Int) ≤ 1048576) (hs : ∀ s ∈ xs, (s.length : Int) ≤ 1048576) (j : Int → Option Int) : ∀ (m : Nat) (k i : Int), 0 ≤ i → i ≤ (xs.length : Int) → 0 ≤ k → k + totP (xs.drop i.toNat) ≤ 2000000000000000000 → MkP (xs.drop i.toNat) k → (xs.length : Int) - i < m →
    fixF (M_l_heldPieceS_L1 xs j) m (k, i) = j (k + totP (xs.drop i.toNat)) := by
  intro m
  induction m with
  | zero => intro k i _ _ _ _ _ h; omega
  | succ m ih =>
    intro k i hi hi' hk hk' hM hm
    simp only [fixF, M_l_heldPieceS_L1, guardO, Bool.cond_decide]
    by_cases h1 : i < (xs.length : Int)
    · rw [drop_at hi h1] at hM hk' ⊢
      have hb := hs (at' xs i) (List.mem_of_getElem? (at_some ⟨hi, h1⟩))
      have htb := totP_bound (xs.drop (i + 1).toNat) 1048576 (by omega) (fun s h => hs s (List.mem_of_mem_drop h))
      simp only [totP] at hk' ⊢
      obtain ⟨hM1, hM2⟩ := hM
      rw [if_pos h1, if_pos ⟨hi, h1⟩, bindO_of (heldIntS_ok _ (by omega) k (by omega) hM1), if_neg (by omega), W_eq (by omega) (by omega)]
      rw [ih _ (i + 1) (by omega) (by omega) (by omega) (by omega) hM2 (by omega)]
      congr 1; omega
    · rw [if_neg h1, List.drop_eq_nil_of_le (by omega)]
      simp [totP]

theorem heldRing_ok (xs : List (List Int)) (hl : (xs.length : Int) ≤ 1048576) (hs : ∀ s ∈ xs, (s.length : Int) ≤ 1048576) (k : Int) (hk0 : 0 ≤ k ∧ k ≤ 1000000000000000000) (hM : MkP xs k) : M_l_heldRing xs k = some (k + totP xs) := by
  have hb := totP_bound xs 1048576 (by omega) hs
  have := mul_small (a := 1048576) (b := xs.length) (by omega) (by omega) (by omega) (by omega)
  unfold M_l_heldRing M_l_heldPieceS
  simp only [joinO]
  rw [heldPieceS_loop xs hl hs _ FUEL k 0 (by omega) (by omega) (by omega) (by simp only [Int.toNat_zero, List.drop_zero]; omega) (by simpa using hM) (by rw [fuel_eq]; omega)]
  simp only [Int.toNat_zero, List.drop_zero, bindO]
  have : ¬ (k + totP xs < 0) := by omega
  simp [this]

def totL : List (List Int × Int) → Int
  | [] => 0
  | p :: t => (p.1.length : Int) + 1 + totL t
def MkL : List (List Int × Int) → Int → Prop
  | [], _ => True
  | p :: t, k => (MkI p.1 k ∧ p.2 = k + p.1.length) ∧ MkL t (k + p.1.length + 1)

theorem totL_app (a b : List (List Int × Int)) : totL (a ++ b) = totL a + totL b := by
  induction a with
  | nil => simp [totL]
  | cons p t ih => simp only [List.cons_append, totL, ih]; omega
theorem MkL_app (a b : List (List Int × Int)) : ∀ k, MkL (a ++ b) k ↔ MkL a k ∧ MkL b (k + totL a) := by
  induction a with
  | nil => intro k; simp [MkL, totL]
  | cons p t ih =>
    intro k
    simp only [List.cons_append, MkL, ih, totL, and_assoc]
    have : k + ↑p.1.length + 1 + totL t = k + (↑p.1.length + 1 + totL t) := by omega
    rw [this]
theorem totL_bound (xs : List (List Int × Int)) (N : Int) (hN : 0 ≤ N) (hs : ∀ s ∈ xs, (s.1.length : Int) + 1 ≤ N) : 0 ≤ totL xs ∧ totL xs ≤ N * xs.length := by
  induction xs with
  | nil => simp [totL]
  | cons p t ih =>
    have h1 := hs p (by simp)
    have h2 := ih (fun s h => hs s (by simp [h]))
    simp only [totL, List.length_cons]
    have e : N * ((t.length + 1 : Nat) : Int) = N * t.length + N := by rw [Int.natCast_add, Int.mul_add]; simp
    omega
def len1 (p : List Int × Int) : Nat := p.1.length
theorem totL_len {xs ys : List (List Int × Int)} (h : xs.map len1 = ys.map len1) : totL xs = totL ys := by
  induction xs generalizing ys with
  | nil => cases ys with
    | nil => rfl
    | cons _ _ => simp at h
  | cons p t ih => cases ys with
    | nil => simp at h
    | cons q u =>
      simp only [List.map_cons, List.cons.injEq, len1] at h
      simp only [totL, ih h.2, h.1]

theorem mul_small2 {b : Int} (hb : 0 ≤ b) (hb' : b ≤ 1048576) : 1048577 * b ≤ 1099512676352 := by omega

theorem markLineS_loop (xs : List (List Int × Int)) (hl : (xs.length : Int) ≤ 1048576) (hs : ∀ s ∈ xs, (s.1.length : Int) ≤ 1048576) (k0 : Int) (hk0 : 0 ≤ k0 ∧ k0 ≤ 1000000000000000000) (j : List (List Int × Int) × Int → Option (Int × List (List Int × Int))) : ∀ (rest : List (List Int × Int)) (m : Nat) (ds : List (List Int × Int)), xs.length = ds.length + rest.length → xs.map len1 = (ds ++ rest).map len1 → MkL ds k0 → rest.length < m →
    ∃ zs, fixF (M_l_markLineS_L1 xs j) m (ds ++ rest, k0 + totL ds, (ds.length : Int)) = j (zs, k0 + totL xs) ∧ zs.map len1 = xs.map len1 ∧ MkL zs k0 := by
  intro rest
  induction rest with
  | nil =>
    intro m ds h1 h2 h3 hm
    obtain ⟨m, rfl⟩ : ∃ q, m = q + 1 := ⟨m - 1, by simp at hm; omega⟩
    simp only [List.append_nil, List.length_nil, Nat.add_zero] at h1 h2 ⊢
    simp only [fixF, M_l_markLineS_L1, Bool.cond_decide]
    rw [if_neg (by omega)]
    exact ⟨ds, by rw [totL_len h2], h2.symm, h3⟩
  | cons p rest ih =>
    intro m ds h1 h2 h3 hm
    obtain ⟨m, rfl⟩ : ∃ q, m = q + 1 := ⟨m - 1, by simp at hm; omega⟩
    simp only [List.length_cons] at h1 hm
    have hlt : (ds.length : Int) < (xs.length : Int) := by omega
    have hp : (p.1.length : Int) ≤ 1048576 := by
      have hm' : len1 p ∈ xs.map len1 := by rw [h2]; simp
      obtain ⟨s, q1, q2⟩ := List.mem_map.1 hm'
      have := hs s q1
      unfold len1 at q2
      omega
    have hds := totL_bound ds 1048577 (by omega) (fun s h => by
      have hm' : len1 s ∈ xs.map len1 := by rw [h2]; exact List.mem_map.2 ⟨s, List.mem_append_left _ h, rfl⟩
      obtain ⟨s', q1, q2⟩ := List.mem_map.1 hm'
      have := hs s' q1
      unfold len1 at q2
      omega)
    have hb : totL ds ≤ 1099512676352 := by
      have := mul_small2 (b := ds.length) (by omega) (by omega)
      omega
    have hat : at' (ds ++ p :: rest) (ds.length : Int) = p := by
      unfold at'
      simp [List.getD_eq_getElem?_getD]
    obtain ⟨ys, y1, y2, y3⟩ := markIntS_ok p.1 (by omega) (k0 + totL ds) (by omega)
    simp only [fixF, M_l_markLineS_L1, guardO, Bool.cond_decide]
    rw [if_pos hlt, if_pos ⟨by omega, hlt⟩, hat, bindO_of y1]
    have hset : ∀ v, (ds ++ p :: rest).set (Int.toNat (ds.length : Int)) v = ds ++ v :: rest := by
      intro v; simp [List.set_append]
    have hset2 : ∀ u v, (ds ++ u :: rest).set (Int.toNat (ds.length : Int)) v = ds ++ v :: rest := by
      intro u v; simp [List.set_append]
    have hat2 : ∀ u : List Int × Int, at' (ds ++ u :: rest) (ds.length : Int) = u := by
      intro u; unfold at'; simp [List.getD_eq_getElem?_getD]
    simp only [hset, hset2, hat2]
    rw [if_pos ⟨by omega, hlt⟩, W_eq (x := (ds.length : Int) + 1) (by omega) (by omega), W_eq (x := k0 + totL ds + (p.1.length : Int) + 1) (by omega) (by omega)]
    have hk : k0 + totL ds + (p.1.length : Int) + 1 = k0 + totL (ds ++ [(ys, k0 + totL ds + (p.1.length : Int))]) := by
      rw [totL_app]; simp only [totL]; omega
    have hi : (ds.length : Int) + 1 = ((ds ++ [(ys, k0 + totL ds + (p.1.length : Int))]).length : Int) := by simp
    rw [hi, hk]
    have ha : ds ++ (ys, k0 + totL ds + (p.1.length : Int)) :: rest = (ds ++ [(ys, k0 + totL ds + (p.1.length : Int))]) ++ rest := by simp
    rw [ha]
    refine ih m _ (by simp; omega) (by rw [h2]; simp [len1, y2]) ?_ (by omega)
    rw [MkL_app]
    exact ⟨h3, ⟨y3, by rw [y2]⟩, trivial⟩

theorem markUndo_ok (xs : List (List Int × Int)) (hl : (xs.length : Int) ≤ 1048576) (hs : ∀ s ∈ xs, (s.1.length : Int) ≤ 1048576) (k : Int) (hk0 : 0 ≤ k ∧ k ≤ 1000000000000000000) : ∃ zs, M_l_markUndo xs k = some (k + totL xs, zs) ∧ zs.map len1 = xs.map len1 ∧ MkL zs k := by
  obtain ⟨zs, h1, h2, h3⟩ := markLineS_loop xs hl hs k hk0 (fun x => some (x.2, x.1)) xs FUEL [] (by simp) (by simp) trivial (by rw [fuel_eq]; omega)
  refine ⟨zs, ?_, h2, h3⟩
  unfold M_l_markUndo M_l_markLineS joinO
  simp only [List.nil_append, totL, Int.add_zero, List.length_nil] at h1
  have e : ((0 : Nat) : Int) = 0 := rfl
  rw [e] at h1
  exact bindO_of h1

theorem heldLineS_loop (xs : List (List Int × Int)) (hl : (xs.length : Int) ≤ 1048576) (hs : ∀ s ∈ xs, (s.1.length : Int) ≤ 1048576) (j : Int → Option Int) : ∀ (m : Nat) (k i : Int), 0 ≤ i → i ≤ (xs.length : Int) → 0 ≤ k → k + totL (xs.drop i.toNat) ≤ 2000000000000000000 → MkL (xs.drop i.toNat) k → (xs.length : Int) - i < m →
    fixF (M_l_heldLineS_L1 xs j) m (k, i) = j (k + totL (xs.drop i.toNat)) := by
  intro m
  induction m with
  | zero => intro k i _ _ _ _ _ h; omega
  | succ m ih =>
    intro k i hi hi' hk hk' hM hm
    simp only [fixF, M_l_heldLineS_L1, guardO, Bool.cond_decide]
    by_cases h1 : i < (xs.length : Int)
    · rw [drop_at hi h1] at hM hk' ⊢
      have hb := hs (at' xs i) (List.mem_of_getElem? (at_some ⟨hi, h1⟩))
      have htb := totL_bound (xs.drop (i + 1).toNat) 1048577 (by omega) (fun s h => by have := hs s (List.mem_of_mem_drop h); omega)
      simp only [totL] at hk' ⊢
      obtain ⟨⟨hM1, hM3⟩, hM2⟩ := hM
      rw [if_pos h1, if_pos ⟨hi, h1⟩, bindO_of (heldIntS_ok _ (by omega) k (by omega) hM1), if_neg (by omega), if_pos ⟨hi, h1⟩]
      rw [decide_eq_true hM3]
      simp only [Bool.not_true, cond_false]
      rw [W_eq (x := i + 1) (by omega) (by omega), W_eq (x := k + _ + 1) (by omega) (by omega)]
      rw [ih _ (i + 1) (by omega) (by omega) (by omega) (by omega) hM2 (by omega)]
      congr 1; omega
    · rw [if_neg h1, List.drop_eq_nil_of_le (by omega)]
      simp [totL]

theorem heldUndo_ok (xs : List (List Int × Int)) (hl : (xs.length : Int) ≤ 1048576) (hs : ∀ s ∈ xs, (s.1.length : Int) ≤ 1048576) (k : Int) (hk0 : 0 ≤ k ∧ k ≤ 1000000000000000000) (hM : MkL xs k) : M_l_heldUndo xs k = some (k + totL xs) := by
  have hb := totL_bound xs 1048577 (by omega) (fun s h => by have := hs s h; omega)
  have := mul_small2 (b := xs.length) (by omega) (by omega)
  unfold M_l_heldUndo M_l_heldLineS
  simp only [joinO]
  rw [heldLineS_loop xs hl hs _ FUEL k 0 (by omega) (by omega) (by omega) (by simp only [Int.toNat_zero, List.drop_zero]; omega) (by simpa using hM) (by rw [fuel_eq]; omega)]
  simp only [Int.toNat_zero, List.drop_zero, bindO]
  have : ¬ (k + totL xs < 0) := by omega
  simp [this]

theorem markLine_ok (l : List Int × Int) (hl : (l.1.length : Int) ≤ 100000000) (k : Int) (hk0 : 0 ≤ k ∧ k ≤ 4000000000000000000) : ∃ ys, M_l_markLine l k = some (k + l.1.length, ys) ∧ ys.length = l.1.length ∧ MkI ys k := by
  obtain ⟨ys, h1, h2, h3⟩ := markIntS_ok l.1 hl k hk0
  exact ⟨ys, by unfold M_l_markLine; rw [bindO_of h1], h2, h3⟩
theorem heldLine_ok (l : List Int × Int) (hl : (l.1.length : Int) ≤ 100000000) (k : Int) (hk0 : 0 ≤ k ∧ k ≤ 4000000000000000000) (hM : MkI l.1 k) : M_l_heldLine l k = some (k + l.1.length) := by
  unfold M_l_heldLine
  rw [bindO_of (heldIntS_ok l.1 hl k hk0 hM)]
  have : ¬ (k + (l.1.length : Int) < 0) := by omega
  simp [this]

theorem map_len {xs ys : List (List Int)} (h : xs.map List.length = ys.map List.length) : xs.length = ys.length := by
  have := congrArg List.length h; simpa using this
theorem map_len1 {xs ys : List (List Int × Int)} (h : xs.map len1 = ys.map len1) : xs.length = ys.length := by
  have := congrArg List.length h; simpa using this

theorem markEd_ok (vi : Bool) (mode : Int) (line : List Int × Int) (count op opc wait fr fh last : Int) (ring : List (List Int)) (undo : List (List Int × Int)) (nav : Int) (own : List Int × Int) (query : List Int) (hit : Int) (back : List Int × Int)
    (hs : Small 1048576 (vi, mode, line, count, op, opc, wait, fr, fh, last, ring, undo, nav, own, query, hit, back)) :
    ∃ n l r u o q b, M_l_markEd (vi, mode, line, count, op, opc, wait, fr, fh, last, ring, undo, nav, own, query, hit, back) 1 = some (n, l, r, u, o, q, b) ∧ (0 ≤ n ∧ n ≤ 4000000000000) ∧
      l.length = line.1.length ∧ r.length = ring.length ∧ u.length = undo.length ∧ o.length = own.1.length ∧ q.length = query.length ∧ b.length = back.1.length ∧
      M_l_heldEd (vi, mode, (l, line.2), count, op, opc, wait, fr, fh, last, r, u, nav, (o, own.2), q, hit, (b, back.2)) 1 = some n := by
  obtain ⟨h1, ⟨h2, h3⟩, ⟨h4, h5⟩, h6, h7, h8⟩ := hs
  have h3' : ∀ s ∈ ring, (s.length : Int) ≤ 1048576 := fun s h => by have := h3 s h; omega
  have h5' : ∀ s ∈ undo, (s.1.length : Int) ≤ 1048576 := fun s h => by have := h5 s h; omega
  have tr := totP_bound ring 1048576 (by omega) h3'
  have tr' := mul_small (a := 1048576) (b := ring.length) (by omega) (by omega) (by omega) (by omega)
  have tu := totL_bound undo 1048577 (by omega) (fun s h => by have := h5' s h; omega)
  have tu' := mul_small2 (b := undo.length) (by omega) (by omega)
  obtain ⟨l, a1, a2, a3⟩ := markLine_ok line (by omega) 1 (by omega)
  obtain ⟨r, b1, b2, b3⟩ := markRing_ok ring (by omega) h3' (1 + line.1.length) (by omega)
  obtain ⟨u, c1, c2, c3⟩ := markUndo_ok undo (by omega) h5' (1 + line.1.length + totP ring) (by omega)
  obtain ⟨o, d1, d2, d3⟩ := markLine_ok own (by omega) (1 + line.1.length + totP ring + totL undo) (by omega)
  obtain ⟨q, e1, e2, e3⟩ := markIntS_ok query (by omega) (1 + line.1.length + totP ring + totL undo + own.1.length) (by omega)
  obtain ⟨b, f1, f2, f3⟩ := markLine_ok back (by omega) (1 + line.1.length + totP ring + totL undo + own.1.length + query.length) (by omega)
  refine ⟨1 + line.1.length + totP ring + totL undo + own.1.length + query.length + back.1.length, l, r, u, o, q, b, ?_, ?_, a2, map_len b2, map_len1 c2, d2, e2, f2, ?_⟩
  · unfold M_l_markEd
    rw [bindO_of a1]
    simp only
    rw [bindO_of b1]
    simp only
    rw [bindO_of c1]
    simp only
    rw [bindO_of d1]
    simp only
    rw [bindO_of e1]
    simp only
    rw [bindO_of f1]
  · omega
  · have rl := map_len b2
    have ul := map_len1 c2
    have r3 : ∀ s ∈ r, (s.length : Int) ≤ 1048576 := fun s h => by
      have hm' : s.length ∈ ring.map List.length := by rw [← b2]; exact List.mem_map.2 ⟨s, h, rfl⟩
      obtain ⟨s', q1, q2⟩ := List.mem_map.1 hm'
      have := h3' s' q1
      omega
    have u3 : ∀ s ∈ u, (s.1.length : Int) ≤ 1048576 := fun s h => by
      have hm' : len1 s ∈ undo.map len1 := by rw [← c2]; exact List.mem_map.2 ⟨s, h, rfl⟩
      obtain ⟨s', q1, q2⟩ := List.mem_map.1 hm'
      have := h5' s' q1
      unfold len1 at q2
      omega
    have g1 := heldLine_ok (l, line.2) (by simp only; omega) 1 (by omega) a3
    have g2 := heldRing_ok r (by omega) r3 (1 + line.1.length) (by omega) b3
    have g3 := heldUndo_ok u (by omega) u3 (1 + line.1.length + totP ring) (by omega) c3
    have g4 := heldLine_ok (o, own.2) (by simp only; omega) (1 + line.1.length + totP ring + totL undo) (by omega) d3
    have g5 := heldIntS_ok q (by omega) (1 + line.1.length + totP ring + totL undo + own.1.length) (by omega) e3
    have g6 := heldLine_ok (b, back.2) (by simp only; omega) (1 + line.1.length + totP ring + totL undo + own.1.length + query.length) (by omega) f3
    simp only [a2, totP_len b2, totL_len c2, d2, e2, f2] at g1 g2 g3 g4 g5 g6
    unfold M_l_heldEd
    simp only [Bool.cond_decide]
    rw [bindO_of g1, if_neg (by omega), bindO_of g2, if_neg (by omega), bindO_of g3, if_neg (by omega), bindO_of g4, if_neg (by omega), bindO_of g5, if_neg (by omega), bindO_of g6, if_neg (by omega)]

def changeE (op' a b : Int) (e : EdT) : EdT × Int :=
  if a = b then (if op' = 99 then (typE a (setE (goL e.2.2.1 a) 0 e), 0) else (settledE 0 e, 1))
  else if op' = 121 then (setE (goL e.2.2.1 a) 0 (ringE (ringPutR e.2.2.2.2.2.2.2.2.2.2.1 (sub' e.2.2.1.1 a b) 0) e), 0)
  else if op' = 99 then (typE a (setE (goL (cutL e.2.2.1 a b) a) 0 (ringE (ringPutR e.2.2.2.2.2.2.2.2.2.2.1 (sub' e.2.2.1.1 a b) 0) e)), 0)
  else (setE (goL (cutL e.2.2.1 a b) a) 0 (ringE (ringPutR e.2.2.2.2.2.2.2.2.2.2.1 (sub' e.2.2.1.1 a b) 0) e), 0)

theorem among3 (x : Int) : M_i_isAmong x ([100, 99, 121] : List UInt8) = some (decide (x = 100 ∨ x = 99 ∨ x = 121)) := by
  unfold M_i_isAmong
  simp only [joinO]
  obtain ⟨m, hm⟩ : ∃ m, FUEL = m + 1 + 1 + 1 + 1 := ⟨FUEL - 4, by rw [fuel_eq]⟩
  rw [hm]
  have st : ∀ (m : Nat) (k : Int), 0 ≤ k → k ≤ 3 → fixF (M_i_isAmong_L1 x ([100, 99, 121] : List UInt8) fun _ => some false) (m + 1) k = if k < 3 then (if ((at' ([100, 99, 121] : List UInt8) k).toNat : Int) = x then some true else fixF (M_i_isAmong_L1 x ([100, 99, 121] : List UInt8) fun _ => some false) m (k + 1)) else some false := by
    intro m k h1 h2
    simp only [fixF, M_i_isAmong_L1, guardO, Bool.cond_decide]
    rw [W_eq (x := k + 1) (by omega) (by omega)]
    by_cases h : k < 3
    · rw [if_pos (by simpa using h), if_pos h, if_pos ⟨h1, by simpa using h⟩]
    · rw [if_neg (by simpa using h), if_neg h]
  rw [st _ 0 (by omega) (by omega), st _ (0 + 1) (by omega) (by omega), st _ (0 + 1 + 1) (by omega) (by omega), st _ (0 + 1 + 1 + 1) (by omega) (by omega)]
  have e0 : ((at' ([100, 99, 121] : List UInt8) 0).toNat : Int) = 100 := rfl
  have e1 : ((at' ([100, 99, 121] : List UInt8) (0 + 1)).toNat : Int) = 99 := rfl
  have e2 : ((at' ([100, 99, 121] : List UInt8) (0 + 1 + 1)).toNat : Int) = 121 := rfl
  rw [e0, e1, e2]
  by_cases c0 : x = 100
  · subst c0; simp
  · by_cases c1 : x = 99
    · subst c1; simp
    · by_cases c2 : x = 121
      · subst c2; simp
      · have a0 : ¬ (100 : Int) = x := fun h => c0 h.symm
        have a1 : ¬ (99 : Int) = x := fun h => c1 h.symm
        have a2 : ¬ (121 : Int) = x := fun h => c2 h.symm
        simp [a0, a1, a2, c0, c1, c2]

section
variable (vi : Bool) (mode : Int) (line : List Int × Int) (count op opc wait fr fh last : Int) (ring : List (List Int)) (undo : List (List Int × Int)) (nav : Int) (own : List Int × Int) (query : List Int) (hit : Int) (back : List Int × Int)
  (hs : Small 1048576 (vi, mode, line, count, op, opc, wait, fr, fh, last, ring, undo, nav, own, query, hit, back)) (x a b : Int)

section
variable (hv : edOkB (vi, mode, line, count, op, opc, wait, fr, fh, last, ring, undo, nav, own, query, hit, back) = true) (hr : 0 ≤ a ∧ a ≤ b ∧ b ≤ (line.1.length : Int))
include hv hr

theorem change_i : M_i_change (vi, mode, line, count, op, opc, wait, fr, fh, last, ring, undo, nav, own, query, hit, back) x a b = some (changeE x a b (vi, mode, line, count, op, opc, wait, fr, fh, last, ring, undo, nav, own, query, hit, back)) := by
  obtain ⟨h1, h2, h3, h4, h5, h6, h7, h8, h9, h10, h11, h12, h13, h14, h15, h16⟩ := edOkB_all hv
  obtain ⟨p0, p1, p2⟩ := lineOk_at h1
  have hg := goTo_i line a (by omega)
  have hs1 := set_i vi mode line count op opc wait fr fh last ring undo nav own query hit back hv (goL line a) (goL_ok h1 a) 0
  unfold M_i_change changeE
  by_cases hab : a = b
  · by_cases hc : x = 99
    · simp only [hab, hc, decide_true, cond_true, Bool.not_true, cond_false, if_true]
      rw [← hab, hg]
      simp only [bindO]
      rw [hs1]
      rfl
    · simp only [hab, hc, decide_true, decide_false, Bool.not_false, cond_true, if_true, if_false]
      rw [bindO_of (bell_i vi mode line count op opc wait fr fh last ring undo nav own query hit back hv)]
  · obtain ⟨c1, c2⟩ := cutL_ok h1 hr
    have hcut : M_i_LineCut line a b = some (cutL line a b, sub' line.1 a b, true) := by
      rw [lineCut_i line a b (by omega)]
      unfold cutR
      rw [h1, decide_eq_true hr]; rfl
    have hadm := allAdm_sub (allAdm_of h1) a b
    have hrp := ringPut_i ring (sub' line.1 a b) 0 h9 hadm (by omega)
    have hro := ringPutR_ok (how := 0) h9 hadm
    have hcp := copyV_i vi mode line count op opc wait fr fh last ring undo nav own query hit back hv
    have hv' := ringE_ok vi mode line count op opc wait fr fh last ring undo nav own query hit back hv _ hro
    have hg2 := goTo_i (cutL line a b) a (by omega)
    have hs2 := put_i vi mode line count op opc wait fr fh last _ undo nav own query hit back hv' (goL line a) (goL_ok h1 a)
    have hs3 := set_i vi mode line count op opc wait fr fh last _ undo nav own query hit back hv' (goL (cutL line a b) a) (goL_ok c1 a) 0
    simp only [hab, decide_false, cond_false, if_false, bindO, hcut, hcp, hrp]
    by_cases hy : x = 121
    · simp only [hy, decide_true, cond_true, if_true, hg]
      rw [hs2]
      rfl
    · simp only [hy, decide_false, cond_false, if_false, hg2]
      rw [hs3]
      by_cases hc : x = 99
      · simp only [hc, joinO, decide_true, cond_true, if_true, M_i_typing]
        rfl
      · simp only [hc, joinO, decide_false, cond_false, if_false]
        rfl

theorem change_s' : (bif (bif (decide (a = b)) then (decide (x = 99)) else false) then (bindO (M_s_l24Insert (vi, mode, line, count, op, opc, wait, fr, fh, last, ring, undo, nav, own, query, hit, back) a) fun y => some (y.1, y.2)) else some (zEd, 0)) = if a = b ∧ x = 99 then some (changeE x a b (vi, mode, line, count, op, opc, wait, fr, fh, last, ring, undo, nav, own, query, hit, back)) else some (zEd, 0) := by
  obtain ⟨h1, _⟩ := edOkB_all hv
  obtain ⟨p0, p1, p2⟩ := lineOk_at h1
  by_cases hab : a = b ∧ x = 99
  · obtain ⟨rfl, rfl⟩ := hab
    have hgo := go_s vi mode line count op opc wait fr fh last ring undo nav own query hit back hv a
    unfold M_s_l24Insert changeE
    rw [bindO_of hgo]
    have e : max 0 (min a (line.1.length : Int)) = a := by omega
    simp only [joinO, decide_true, cond_true, bindO, setE, goL, clamp_eq a _ (Int.natCast_nonneg line.1.length), e, and_self, if_true, typE]
  · rw [if_neg hab]
    have : (bif decide (a = b) then decide (x = 99) else false) = false := by
      by_cases c1 : a = b
      · have c2 : ¬ x = 99 := fun h => hab ⟨c1, h⟩
        simp [c1, c2]
      · simp [c1]
    rw [this]; rfl
end

include hs
theorem chg_i : M_i_Change (vi, mode, line, count, op, opc, wait, fr, fh, last, ring, undo, nav, own, query, hit, back) x a b =
    some (if edOkB (vi, mode, line, count, op, opc, wait, fr, fh, last, ring, undo, nav, own, query, hit, back) && decide (mode = 2) && decide (x = 100 ∨ x = 99 ∨ x = 121) && decide (0 ≤ a ∧ a ≤ b ∧ b ≤ (line.1.length : Int)) then changeE x a b (vi, mode, line, count, op, opc, wait, fr, fh, last, ring, undo, nav, own, query, hit, back) else (zEd, 0)) := by
  unfold M_i_Change
  have hp : edOkB (vi, mode, line, count, op, opc, wait, fr, fh, last, ring, undo, nav, own, query, hit, back) = true → lineOk line = true := fun h => (edOkB_all h).1
  have hch := change_i vi mode line count op opc wait fr fh last ring undo nav own query hit back x a b
  rw [bindO_of (edOk_i vi mode line count op opc wait fr fh last ring undo nav own query hit back (small_le (by omega) hs)), among3, callO_of, inLine_i line a b (by have := hs.1; omega), callO_of]
  generalize edOkB (vi, mode, line, count, op, opc, wait, fr, fh, last, ring, undo, nav, own, query, hit, back) = K at *
  cases K
  · simp [zEd]
  · have hl := hp rfl
    by_cases hm : mode = 2
    · by_cases hx : x = 100 ∨ x = 99 ∨ x = 121
      · by_cases hr : 0 ≤ a ∧ a ≤ b ∧ b ≤ (line.1.length : Int)
        · have := hch rfl hr
          rw [decide_eq_true hx, decide_eq_true hm, decide_eq_true hr, hl]
          simp [this, bindO]
        · rw [decide_eq_true hx, decide_eq_true hm, decide_eq_false hr, hl]
          simp [zEd]
      · rw [decide_eq_false hx, decide_eq_true hm]
        simp [zEd]
    · rw [decide_eq_false hm]
      simp [zEd]

theorem chg_s : M_s_Change (vi, mode, line, count, op, opc, wait, fr, fh, last, ring, undo, nav, own, query, hit, back) x a b =
    some (if edOkB (vi, mode, line, count, op, opc, wait, fr, fh, last, ring, undo, nav, own, query, hit, back) && decide (mode = 2) && decide (x = 100 ∨ x = 99 ∨ x = 121) && decide (0 ≤ a ∧ a ≤ b ∧ b ≤ (line.1.length : Int)) then changeE x a b (vi, mode, line, count, op, opc, wait, fr, fh, last, ring, undo, nav, own, query, hit, back) else (zEd, 0)) := by
  have hlc := lineCut_s line a b hs.1
  have hall : edOkB (vi, mode, line, count, op, opc, wait, fr, fh, last, ring, undo, nav, own, query, hit, back) = true → (0 ≤ a ∧ a ≤ b ∧ b ≤ (line.1.length : Int)) → (x = 100 ∨ x = 99 ∨ x = 121) →
      lineOk line = true ∧ ringOk ring = true := fun h _ _ => ⟨(edOkB_all h).1, (edOkB_all h).2.2.2.2.2.2.2.2.1⟩
  have hb : (bif (bif (!(decide (x = 100))) then (!(decide (x = 99))) else false) then (!(decide (x = 121))) else false) = !decide (x = 100 ∨ x = 99 ∨ x = 121) := by
    by_cases c0 : x = 100 <;> by_cases c1 : x = 99 <;> by_cases c2 : x = 121 <;> simp [c0, c1, c2]
  have hcut : M_s_l24Cut (vi, mode, line, count, op, opc, wait, fr, fh, last, ring, undo, nav, own, query, hit, back) a b = some (cutR line a b).2.2 := by
    unfold M_s_l24Cut
    rw [bindO_of hlc]
  unfold M_s_Change
  rw [bindO_of (edOk_s vi mode line count op opc wait fr fh last ring undo nav own query hit back (small_le (by omega) hs)), hcut, callO_of, hb]
  have hins := fun hv hr => change_s' vi mode line count op opc wait fr fh last ring undo nav own query hit back x a b hv hr
  have hbell := fun hv => bell_s vi mode line count op opc wait fr fh last ring undo nav own query hit back hv
  have hcp := fun hv => copyV_s vi mode line count op opc wait fr fh last ring undo nav own query hit back hv
  have hre := fun hv r hr => ringE_ok vi mode line count op opc wait fr fh last ring undo nav own query hit back hv r hr
  generalize edOkB (vi, mode, line, count, op, opc, wait, fr, fh, last, ring, undo, nav, own, query, hit, back) = K at *
  cases K
  · simp [zEd]
  · by_cases hm : mode = 2
    · by_cases hx : x = 100 ∨ x = 99 ∨ x = 121
      · by_cases hr : 0 ≤ a ∧ a ≤ b ∧ b ≤ (line.1.length : Int)
        · obtain ⟨h1, h9⟩ := hall rfl hr hx
          obtain ⟨p0, p1, p2⟩ := lineOk_at h1
          have hcr : cutR line a b = (cutL line a b, sub' line.1 a b, true) := by unfold cutR; rw [h1, decide_eq_true hr]; rfl
          rw [hcr] at hlc ⊢
          have hi := hins rfl hr
          rw [decide_eq_true hx, decide_eq_true hm, decide_eq_true hr]
          simp only [Bool.not_true, cond_false, if_true, Bool.and_self]
          by_cases hab : a = b
          · by_cases hc : x = 99
            · rw [if_pos ⟨hab, hc⟩] at hi
              simp only [hab, hc, decide_true, cond_true] at hi ⊢
              exact hi
            · simp only [hab, hc, decide_true, decide_false, cond_true, cond_false]
              rw [bindO_of (hbell rfl)]
              unfold changeE
              simp [hc]
          · obtain ⟨c1, c2⟩ := cutL_ok h1 hr
            have hadm := allAdm_sub (allAdm_of h1) a b
            have hrp := ringPut_s ring (sub' line.1 a b) 0 h9 hadm (by omega)
            have hro := ringPutR_ok (how := 0) h9 hadm
            have hv' := hre rfl _ hro
            have hgo := go_s vi mode line count op opc wait fr fh last _ undo nav own query hit back hv' a
            have hgo' : M_s_l23Go (vi, mode, line, count, op, opc, wait, fr, fh, last, ringPutR ring (sub' line.1 a b) 0, undo, nav, own, query, hit, back) a = _ := hgo
            have hg2 := lineGo_s (cutL line a b) a c1
            have hs3 := l23Set_v vi mode line count op opc wait fr fh last _ undo nav own query hit back hv' (goL (cutL line a b) a) (goL_ok c1 a) 0 (by omega)
            simp only [hab, decide_false, cond_false, bindO, hlc, hcp rfl, hrp, hgo', hg2, changeE, if_false]
            by_cases hy : x = 121
            · simp only [hy, decide_true, cond_true, if_true]
              rfl
            · simp only [hy, decide_false, cond_false, if_false]
              rw [hs3]
              by_cases hc : x = 99
              · simp only [hc, joinO, decide_true, cond_true, if_true]
                rfl
              · simp only [hc, joinO, decide_false, cond_false, if_false]
                rfl
        · have hcr : (cutR line a b).2.2 = false := by
            unfold cutR
            rw [decide_eq_false hr]; simp
          rw [decide_eq_true hx, decide_eq_true hm, decide_eq_false hr, hcr]
          simp [zEd]
      · rw [decide_eq_false hx, decide_eq_true hm]
        simp [zEd]
    · rw [decide_eq_false hm]
      simp [zEd]
end

theorem law_Change (e : EdT) (x a b : Int) (w : WfT (.pair .bool (.pair (.int .i64) (.pair (.pair (.sl (.int .i64)) (.int .i64)) (.pair (.int .i64) (.pair (.int .i64) (.pair (.int .i64) (.pair (.int .i64) (.pair (.int .i64) (.pair (.int .i64) (.pair (.int .i64) (.pair (.sl (.sl (.int .i64))) (.pair (.sl (.pair (.sl (.int .i64)) (.int .i64))) (.pair (.int .i64) (.pair (.pair (.sl (.int .i64)) (.int .i64)) (.pair (.sl (.int .i64)) (.pair (.int .i64) (.pair (.sl (.int .i64)) (.int .i64)))))))))))))))))) e) (w1 : (Lit.int .i64 x).wf = true) (w2 : (Lit.int .i64 a).wf = true) (w3 : (Lit.int .i64 b).wf = true) : M_l_FnExactChange e x a b = some true := by
  obtain ⟨vi, mode, line, count, op, opc, wait, fr, fh, last, ring, undo, nav, own, query, hit, back⟩ := e
  obtain ⟨v, e1, hv⟩ := szEd_ok vi mode line count op opc wait fr fh last ring undo nav own query hit back w 1048576 (by omega) (by omega)
  unfold M_l_FnExactChange
  rw [bindO_of e1]
  rcases hv with rfl | ⟨v0, v1, hs⟩
  · simp
  · have hs' := small_le (M := 100000000) (by omega) hs
    have nv : ¬ (v < 0) := by omega
    rw [decide_eq_false nv, cond_false]
    obtain ⟨n0, l0, r0, u0, o0, q0, b0, m1, m2, _⟩ := markEd_ok vi mode line count op opc wait fr fh last ring undo nav own query hit back hs
    have te := toEd_eq vi mode line count op opc wait fr fh last ring undo nav own query hit back hs'
    have ts := chg_s vi mode line count op opc wait fr fh last ring undo nav own query hit back hs x a b
    have ti := chg_i vi mode line count op opc wait fr fh last ring undo nav own query hit back hs x a b
    obtain ⟨z, hz⟩ : ∃ z : EdT × Int, z = (if edOkB (vi, mode, line, count, op, opc, wait, fr, fh, last, ring, undo, nav, own, query, hit, back) && decide (mode = 2) && decide (x = 100 ∨ x = 99 ∨ x = 121) && decide (0 ≤ a ∧ a ≤ b ∧ b ≤ (line.1.length : Int)) then changeE x a b (vi, mode, line, count, op, opc, wait, fr, fh, last, ring, undo, nav, own, query, hit, back) else (zEd, 0)) := ⟨_, rfl⟩
    rw [← hz] at ts ti
    have hS : Small 1048576 z.1 := by
      rw [hz]
      split
      · rename_i hk
        simp only [Bool.and_eq_true, decide_eq_true_eq] at hk
        obtain ⟨⟨⟨hv, hm⟩, hx⟩, hr⟩ := hk
        obtain ⟨h1, h2, h3, h4, h5, h6, h7, h8, h9, h10, h11, h12, h13, h14, h15, h16⟩ := edOkB_all hv
        have hro := ringPutR_ok (how := 0) h9 (allAdm_sub (allAdm_of h1) a b)
        have hv' := ringE_ok vi mode line count op opc wait fr fh last ring undo nav own query hit back hv _ hro
        obtain ⟨c1, c2⟩ := cutL_ok h1 hr
        have s1 := small_of (setE_ok vi mode line count op opc wait fr fh last ring undo nav own query hit back hv (goL line a) (goL_ok h1 a) 0 (by omega))
        have s2 := small_of (settledE_ok vi mode line count op opc wait fr fh last ring undo nav own query hit back hv 0 (by omega))
        have s3 := small_of (setE_ok vi mode line count op opc wait fr fh last _ undo nav own query hit back hv' (goL line a) (goL_ok h1 a) 0 (by omega))
        have s4 := small_of (setE_ok vi mode line count op opc wait fr fh last _ undo nav own query hit back hv' (goL (cutL line a b) a) (goL_ok c1 a) 0 (by omega))
        refine small_le (N := 400) (by omega) ?_
        unfold changeE
        split
        · split
          · exact s1
          · exact s2
        · split
          · exact s3
          · split
            · exact s4
            · exact s4
      · exact small_le (by omega) small_zEd
    clear hz
    obtain ⟨⟨vi', mode', line', count', op', opc', wait', fr', fh', last', ring', undo', nav', own', query', hit', back'⟩, bz⟩ := z
    have ez := eqEd_self vi' mode' line' count' op' opc' wait' fr' fh' last' ring' undo' nav' own' query' hit' back' (small_le (by omega) hS)
    have ee := eqEd_self vi mode line count op opc wait fr fh last ring undo nav own query hit back hs'
    obtain ⟨n, x1, x2, x3, x4, x5, x6, g1, g2, g3, g4, g5, g6, g7, g8, g9⟩ := markEd_ok vi' mode' line' count' op' opc' wait' fr' fh' last' ring' undo' nav' own' query' hit' back' hS
    have nn : ¬ (n < 0) := by omega
    have nn0 : ¬ (n0 < 0) := by omega
    simp only [te, ts, ti, bindO, ez, ee, m1, g1, g9, nn, nn0, callO, decide_false, decide_true, Bool.not_true, Bool.not_false, cond_false, if_true]

end Go.Eng

namespace Go.Proofs.YtamjkgjmefknkaaGreat.fnExactChange
open Go.ChangeShapes Go.WideShapes Go.ChangeAt Go.RowKit Go.Eng
open Go.ChangeMaps (open_string shut_string)

theorem own : ownKnob Tryz.prog.godebug = none := by kernel_rfl
theorem laidOut : laidOutB Tryz.prog = true := by kernel_rfl

set_option maxRecDepth 100000 in
theorem lifted (os : Os) (started : os.Started) (H : Type) (enc : TypeId × Value → H) :
    ReturnsInHanded {} Tryz.checked os 3 .any (Rows.fnExactChangeSpec.pre6 enc Tryz.prog Tryz.f3 Rows.fnExactChangeRow.domain false) (Rows.fnExactChangeSpec.post enc Tryz.prog Tryz.f3 false true false false) := by
  refine returnsInHanded_of_change (C := Tryz.checked) own started (by kernel_rfl) Tryz.func3
    (ChangeSpec.witness6 (enc := enc) (C := Tryz.checked) false ⟨#[], #[.agg #[.bool false, .int .i64 0, .slice none 0 0, .int .i64 0, .int .i64 0, .int .i64 0, .int .i64 0, .int .i64 0, .int .i64 0, .int .i64 0, .int .i64 0, .slice none 0 0, .slice none 0 0, .int .i64 0, .slice none 0 0, .int .i64 0, .slice none 0 0, .int .i64 0, .slice none 0 0, .int .i64 0], .int .i64 0, .int .i64 0, .int .i64 0], []⟩ 8 (by kernel_rfl) (by kernel_rfl) (by kernel_rfl) (by kernel_rfl)) ?_
  intro W base args ds gs before hval0 hW hcnd _
  have hval : ∀ (j : Nat) t v, Tryz.f3.params[j]? = some t → args[j]? = some v → Value.okWide Tryz.prog W .any base t v := hval0
  have hW' := hW
  obtain ⟨p, q, hA0, hV, rfl, hfz, hnd⟩ := hW
  have hA : DataW.TrodAll enc Tryz.prog W 0 (fun _ => true) true Tryz.f3.params.toList args.toList ds p := hA0
  rw [Tryz.params3] at hA hval
  obtain ⟨v0, vs0, d0, ds0, p0, q0, hargs, rfl, rfl, h0, r0⟩ := trodAll_cons hA
  obtain ⟨v1, vs1, d1, ds1, p1, q1, rfl, rfl, rfl, h1, r1⟩ := trodAll_cons r0
  obtain ⟨v2, vs2, d2, ds2, p2, q2, rfl, rfl, rfl, h2, r2⟩ := trodAll_cons r1
  obtain ⟨v3, vs3, d3, ds3, p3, q3, rfl, rfl, rfl, h3, r3⟩ := trodAll_cons r2
  obtain ⟨rfl, rfl, rfl⟩ := trodAll_nil r3
  obtain rfl : args = #[v0, v1, v2, v3] := by cases args; simp_all
  obtain ⟨rfl, rfl⟩ := trodVars_none hV
  have k0 := h0
  have lt0 : ∀ x ∈ p0, x.block < W.heap.size := by obtain ⟨m, hm⟩ := k0; exact DataW.trod_lt m _ _ _ hm
  obtain ⟨cs0, rfl, -⟩ := okWide_struct Tryz.underlying32 (hval 0 32 v0 rfl rfl)
  obtain ⟨m0, hm0⟩ := h0
  obtain ⟨x0, L0, rep0, wf0⟩ := trod_rep 16 m0 32 (.pair .bool (.pair (.int .i64) (.pair (.pair (.sl (.int .i64)) (.int .i64)) (.pair (.int .i64) (.pair (.int .i64) (.pair (.int .i64) (.pair (.int .i64) (.pair (.int .i64) (.pair (.int .i64) (.pair (.int .i64) (.pair (.sl (.sl (.int .i64))) (.pair (.sl (.pair (.sl (.int .i64)) (.int .i64))) (.pair (.int .i64) (.pair (.pair (.sl (.int .i64)) (.int .i64)) (.pair (.sl (.int .i64)) (.pair (.int .i64) (.pair (.sl (.int .i64)) (.int .i64)))))))))))))))))) _ _ (by kernel_rfl) hm0
  refine rep_open rep0 ?_
  intro b0_0 c0_0 b0_1 c0_1 b0_2 c0_2 b0_3 c0_3 b0_4 c0_4 b0_5 c0_5 e0 f0
  have e0' : some [.bool x0.1, .int .i64 x0.2.1, .slice b0_0 x0.2.2.1.1.length c0_0, .int .i64 x0.2.2.1.2, .int .i64 x0.2.2.2.1, .int .i64 x0.2.2.2.2.1, .int .i64 x0.2.2.2.2.2.1, .int .i64 x0.2.2.2.2.2.2.1, .int .i64 x0.2.2.2.2.2.2.2.1, .int .i64 x0.2.2.2.2.2.2.2.2.1, .int .i64 x0.2.2.2.2.2.2.2.2.2.1, .slice b0_1 x0.2.2.2.2.2.2.2.2.2.2.1.length c0_1, .slice b0_2 x0.2.2.2.2.2.2.2.2.2.2.2.1.length c0_2, .int .i64 x0.2.2.2.2.2.2.2.2.2.2.2.2.1, .slice b0_3 x0.2.2.2.2.2.2.2.2.2.2.2.2.2.1.1.length c0_3, .int .i64 x0.2.2.2.2.2.2.2.2.2.2.2.2.2.1.2, .slice b0_4 x0.2.2.2.2.2.2.2.2.2.2.2.2.2.2.1.length c0_4, .int .i64 x0.2.2.2.2.2.2.2.2.2.2.2.2.2.2.2.1, .slice b0_5 x0.2.2.2.2.2.2.2.2.2.2.2.2.2.2.2.2.1.length c0_5, .int .i64 x0.2.2.2.2.2.2.2.2.2.2.2.2.2.2.2.2.2] = some cs0.toList := e0
  obtain rfl : cs0 = #[.bool x0.1, .int .i64 x0.2.1, .slice b0_0 x0.2.2.1.1.length c0_0, .int .i64 x0.2.2.1.2, .int .i64 x0.2.2.2.1, .int .i64 x0.2.2.2.2.1, .int .i64 x0.2.2.2.2.2.1, .int .i64 x0.2.2.2.2.2.2.1, .int .i64 x0.2.2.2.2.2.2.2.1, .int .i64 x0.2.2.2.2.2.2.2.2.1, .int .i64 x0.2.2.2.2.2.2.2.2.2.1, .slice b0_1 x0.2.2.2.2.2.2.2.2.2.2.1.length c0_1, .slice b0_2 x0.2.2.2.2.2.2.2.2.2.2.2.1.length c0_2, .int .i64 x0.2.2.2.2.2.2.2.2.2.2.2.2.1, .slice b0_3 x0.2.2.2.2.2.2.2.2.2.2.2.2.2.1.1.length c0_3, .int .i64 x0.2.2.2.2.2.2.2.2.2.2.2.2.2.1.2, .slice b0_4 x0.2.2.2.2.2.2.2.2.2.2.2.2.2.2.1.length c0_4, .int .i64 x0.2.2.2.2.2.2.2.2.2.2.2.2.2.2.2.1, .slice b0_5 x0.2.2.2.2.2.2.2.2.2.2.2.2.2.2.2.2.1.length c0_5, .int .i64 x0.2.2.2.2.2.2.2.2.2.2.2.2.2.2.2.2.2] := Array.ext' (Option.some.inj e0').symm
  have f0' : ∀ f ∈ ([⟨(.int .i64), ⟨b0_0, x0.2.2.1.1.length, c0_0⟩, x0.2.2.1.1⟩, ⟨(.sl (.int .i64)), ⟨b0_1, x0.2.2.2.2.2.2.2.2.2.2.1.length, c0_1⟩, x0.2.2.2.2.2.2.2.2.2.2.1⟩, ⟨(.pair (.sl (.int .i64)) (.int .i64)), ⟨b0_2, x0.2.2.2.2.2.2.2.2.2.2.2.1.length, c0_2⟩, x0.2.2.2.2.2.2.2.2.2.2.2.1⟩, ⟨(.int .i64), ⟨b0_3, x0.2.2.2.2.2.2.2.2.2.2.2.2.2.1.1.length, c0_3⟩, x0.2.2.2.2.2.2.2.2.2.2.2.2.2.1.1⟩, ⟨(.int .i64), ⟨b0_4, x0.2.2.2.2.2.2.2.2.2.2.2.2.2.2.1.length, c0_4⟩, x0.2.2.2.2.2.2.2.2.2.2.2.2.2.2.1⟩, ⟨(.int .i64), ⟨b0_5, x0.2.2.2.2.2.2.2.2.2.2.2.2.2.2.2.2.1.length, c0_5⟩, x0.2.2.2.2.2.2.2.2.2.2.2.2.2.2.2.2.1⟩] : List Fact), ∃ L, f.rep false W L := f0
  obtain ⟨a1, rfl, rfl, rfl, w1⟩ := open_int Tryz.underlying3 (hval 1 3 v1 rfl rfl) h1
  obtain ⟨a2, rfl, rfl, rfl, w2⟩ := open_int Tryz.underlying3 (hval 2 3 v2 rfl rfl) h2
  obtain ⟨a3, rfl, rfl, rfl, w3⟩ := open_int Tryz.underlying3 (hval 3 3 v3 rfl rfl) h3
  clear hA0 hval0
  simp only [List.append_nil] at hW'
  have walk : Calls Tryz.prog 3 #[.agg #[.bool x0.1, .int .i64 x0.2.1, .slice b0_0 x0.2.2.1.1.length c0_0, .int .i64 x0.2.2.1.2, .int .i64 x0.2.2.2.1, .int .i64 x0.2.2.2.2.1, .int .i64 x0.2.2.2.2.2.1, .int .i64 x0.2.2.2.2.2.2.1, .int .i64 x0.2.2.2.2.2.2.2.1, .int .i64 x0.2.2.2.2.2.2.2.2.1, .int .i64 x0.2.2.2.2.2.2.2.2.2.1, .slice b0_1 x0.2.2.2.2.2.2.2.2.2.2.1.length c0_1, .slice b0_2 x0.2.2.2.2.2.2.2.2.2.2.2.1.length c0_2, .int .i64 x0.2.2.2.2.2.2.2.2.2.2.2.2.1, .slice b0_3 x0.2.2.2.2.2.2.2.2.2.2.2.2.2.1.1.length c0_3, .int .i64 x0.2.2.2.2.2.2.2.2.2.2.2.2.2.1.2, .slice b0_4 x0.2.2.2.2.2.2.2.2.2.2.2.2.2.2.1.length c0_4, .int .i64 x0.2.2.2.2.2.2.2.2.2.2.2.2.2.2.2.1, .slice b0_5 x0.2.2.2.2.2.2.2.2.2.2.2.2.2.2.2.2.1.length c0_5, .int .i64 x0.2.2.2.2.2.2.2.2.2.2.2.2.2.2.2.2.2], .int .i64 a1, .int .i64 a2, .int .i64 a3] W fun e w' => e = .returned (.bool true) ∧ Below W.heap.size W w' := by
    have h := ok_l_FnExactChange x0 a1 a2 a3 b0_0 c0_0 _ rfl b0_1 c0_1 _ rfl b0_2 c0_2 _ rfl b0_3 c0_3 _ rfl b0_4 c0_4 _ rfl b0_5 c0_5 _ rfl true (law_Change x0 a1 a2 a3 wf0 w1 w2 w3)
    refine Calls.mono (h.calls W ?_) ?_
    · intro x hx
      rcases List.mem_cons.1 hx with rfl | hx
      · exact f0' _ List.mem_cons_self
      rcases List.mem_cons.1 hx with rfl | hx
      · exact f0' _ (List.mem_cons_of_mem _ List.mem_cons_self)
      rcases List.mem_cons.1 hx with rfl | hx
      · exact f0' _ (List.mem_cons_of_mem _ (List.mem_cons_of_mem _ List.mem_cons_self))
      rcases List.mem_cons.1 hx with rfl | hx
      · exact f0' _ (List.mem_cons_of_mem _ (List.mem_cons_of_mem _ (List.mem_cons_of_mem _ List.mem_cons_self)))
      rcases List.mem_cons.1 hx with rfl | hx
      · exact f0' _ (List.mem_cons_of_mem _ (List.mem_cons_of_mem _ (List.mem_cons_of_mem _ (List.mem_cons_of_mem _ List.mem_cons_self))))
      rcases List.mem_cons.1 hx with rfl | hx
      · exact f0' _ (List.mem_cons_of_mem _ (List.mem_cons_of_mem _ (List.mem_cons_of_mem _ (List.mem_cons_of_mem _ (List.mem_cons_of_mem _ List.mem_cons_self)))))
      cases hx
    · rintro e w' ⟨r, -, he, hk, -⟩
      exact ⟨he, hk.below⟩
  refine walk.mono fun e W' ⟨he, bel⟩ => ?_
  subst he
  exact ⟨_, rfl, _, _, _, [], _, [], hW', trodAll_mk1 (shut_bool Tryz.underlying4 _), (trodAll_cons_mk (Below.trod laidOut (by kernel_rfl) (of_decide_eq_true (by kernel_rfl)) k0 bel lt0) (trodAll_cons_mk (shut_int Tryz.underlying3 w1) (trodAll_cons_mk (shut_int Tryz.underlying3 w2) (trodAll_cons_mk (shut_int Tryz.underlying3 w3) trodAll_mk0)))), rfl, bel.frame _, fun h => by cases h⟩

theorem andI {a b : Bool} (ha : a = true) (hb : b = true) : (a && b) = true := by rw [ha, hb]; rfl
set_option maxHeartbeats 8000000 in
theorem closed : joinedFacts Tryz.checked.prog 3 Tryz.f3 Rows.fnExactChangeSpec Rows.fnExactChangeRow = true := by
  unfold joinedFacts
  (repeat' with_reducible refine andI ?_ ?_) <;> as_aux_lemma => kernel_rfl

theorem over : Rows.fnExactChangeRow.holds Tryz.pinned (OpenSpec.ofChange Rows.fnExactChangeSpec) :=
  OpenClaim.holds_of_wide 3 Tryz.f3 rfl rfl rfl rfl rfl rfl rfl ⟨rfl, rfl, rfl, rfl, rfl⟩ rfl rfl rfl rfl rfl (by kernel_rfl) Tryz.func3 closed
    (of_decide_eq_true (by kernel_rfl)) (by unfold Func.isWrapper; first | (rw [if_pos (by decide +kernel)]; kernel_rfl) | (rw [if_neg (by decide +kernel)]; exact ⟨rfl, rfl⟩))
    (fun os started H enc _ => lifted os started H enc)

theorem proved : Rows.FnExactChangeSaid := over
#print axioms proved
end Go.Proofs.YtamjkgjmefknkaaGreat.fnExactChange
