/- FnType: for every input the given law returns true and leaves its arguments as they were. No condition. -/
import Derived.Test.YtlpgcohnjhomgaaGreatFnTypeWalkB
import Derived.Test.YtlpgcohnjhomgaaGreatRows
import Derived.WalkKit
import Derived.ProofKit
import Derived.OpenShut
import Derived.ShutString
set_option linter.unusedVariables false
set_option linter.unusedSimpArgs false
namespace Go.Eng
open Go Go.Proofs

theorem bindO_of {α β : Type} {m : Option α} {k : α → Option β} {y : α} (h : m = some y) : bindO m k = k y := by rw [h]; rfl

theorem callO_pos {α β : Type} {c : Prop} [Decidable c] {x d : α} {k : α → Option β} (h : c) : callO c (some x) d k = k x := by
  unfold callO; rw [if_pos h]; rfl
theorem drop_at {α : Type} [Inhabited α] {l : List α} {k : Int} (h0 : 0 ≤ k) (h : k < (l.length : Int)) : l.drop k.toNat = at' l k :: l.drop (k + 1).toNat := by
  have hlt : k.toNat < l.length := by omega
  rw [List.drop_eq_getElem_cons hlt]
  have : (k + 1).toNat = k.toNat + 1 := by omega
  rw [this]
  congr 1
  simp [at', List.getD_eq_getElem?_getD, hlt]

theorem sub_all {α : Type} {l : List α} {k : Int} (h0 : 0 ≤ k) : sub' l k (l.length : Int) = l.drop k.toNat := by
  unfold sub'
  rw [List.take_of_length_le]
  simp

theorem ringCopy_s (xs : List (List Int)) (hl : (xs.length : Int) ≤ 1048576) (hs : ∀ s ∈ xs, (s.length : Int) ≤ 1048576) (j : List (List Int) → Option (List (List Int))) : ∀ (m : Nat) (i : Int) (ds : List (List Int)), 0 ≤ i → i ≤ (xs.length : Int) → (ds.length : Int) = i → (xs.length : Int) - i < m →
    fixF (M_s_l15Copy_L1 xs j) m (i, ds) = j (ds ++ xs.drop i.toNat) := by
  intro m
  induction m with
  | zero => intro i ds _ _ _ h; omega
  | succ m ih =>
    intro i ds hi hi' hd hm
    simp only [fixF, M_s_l15Copy_L1, guardO, Bool.cond_decide, List.nil_append]
    by_cases h1 : i < (xs.length : Int)
    · have hb := hs (at' xs i) (List.mem_of_getElem? (at_some ⟨hi, h1⟩))
      rw [if_pos h1, if_pos ⟨hi, h1⟩, if_pos (by simp; omega), if_pos (by simp; omega), W_eq (by omega) (by omega), ih (i + 1) _ (by omega) (by omega) (by simp; omega) (by omega), drop_at hi h1]
      simp
    · rw [if_neg h1, List.drop_eq_nil_of_le (by omega)]
      simp

theorem ringCopy_i (xs : List (List Int)) (hl : (xs.length : Int) ≤ 1048576) (hs : ∀ s ∈ xs, (s.length : Int) ≤ 1048576) (j : List (List Int) → Option (List (List Int))) : ∀ (m : Nat) (i : Int) (ds : List (List Int)), 0 ≤ i → i ≤ (xs.length : Int) → (ds.length : Int) = i → (xs.length : Int) - i < m →
    fixF (M_i_copyRing_L1 xs j) m (i, ds) = j (ds ++ xs.drop i.toNat) := by
  intro m
  induction m with
  | zero => intro i ds _ _ _ h; omega
  | succ m ih =>
    intro i ds hi hi' hd hm
    simp only [fixF, M_i_copyRing_L1, guardO, Bool.cond_decide]
    by_cases h1 : i < (xs.length : Int)
    · have hb := hs (at' xs i) (List.mem_of_getElem? (at_some ⟨hi, h1⟩))
      have ec : M_i_copyInts (at' xs i) = some (at' xs i) := by
        unfold M_i_copyInts guardO
        rw [if_pos (by simp; omega)]; simp
      rw [if_pos h1, if_pos ⟨hi, h1⟩, bindO_of ec, if_pos (by simp; omega), W_eq (by omega) (by omega), ih (i + 1) _ (by omega) (by omega) (by simp; omega) (by omega), drop_at hi h1]
      simp
    · rw [if_neg h1, List.drop_eq_nil_of_le (by omega)]
      simp

theorem copyRing_s (xs : List (List Int)) (hl : (xs.length : Int) ≤ 1048576) (hs : ∀ s ∈ xs, (s.length : Int) ≤ 1048576) : M_s_l15Copy xs = some xs := by
  unfold M_s_l15Copy
  simp only [joinO]
  rw [ringCopy_s xs hl hs _ FUEL 0 [] (by omega) (by omega) (by simp) (by rw [fuel_eq]; omega)]
  simp
theorem copyRing_i (xs : List (List Int)) (hl : (xs.length : Int) ≤ 1048576) (hs : ∀ s ∈ xs, (s.length : Int) ≤ 1048576) : M_i_copyRing xs = some xs := by
  unfold M_i_copyRing
  simp only [joinO]
  rw [ringCopy_i xs hl hs _ FUEL 0 [] (by omega) (by omega) (by simp) (by rw [fuel_eq]; omega)]
  simp

theorem copyInts_i (x : List Int) (h : (x.length : Int) ≤ 1048576) : M_i_copyInts x = some x := by
  unfold M_i_copyInts guardO
  rw [if_pos (by simp; omega)]; simp
theorem copyLine_i (x : List Int × Int) (h : (x.1.length : Int) ≤ 1048576) : M_i_copyLine x = some x := by
  unfold M_i_copyLine
  rw [bindO_of (copyInts_i x.1 h)]
theorem undoCopy_i (xs : List (List Int × Int)) (hl : (xs.length : Int) ≤ 1048576) (hs : ∀ s ∈ xs, (s.1.length : Int) ≤ 1048576) (j : List (List Int × Int) → Option (List (List Int × Int))) : ∀ (m : Nat) (i : Int) (ds : List (List Int × Int)), 0 ≤ i → i ≤ (xs.length : Int) → (ds.length : Int) = i → (xs.length : Int) - i < m →
    fixF (M_i_copyUndo_L1 xs j) m (i, ds) = j (ds ++ xs.drop i.toNat) := by
  intro m
  induction m with
  | zero => intro i ds _ _ _ h; omega
  | succ m ih =>
    intro i ds hi hi' hd hm
    simp only [fixF, M_i_copyUndo_L1, guardO, Bool.cond_decide]
    by_cases h1 : i < (xs.length : Int)
    · have hb := hs (at' xs i) (List.mem_of_getElem? (at_some ⟨hi, h1⟩))
      rw [if_pos h1, if_pos ⟨hi, h1⟩, bindO_of (copyLine_i (at' xs i) hb), if_pos (by simp; omega), W_eq (by omega) (by omega), ih (i + 1) _ (by omega) (by omega) (by simp; omega) (by omega), drop_at hi h1]
      simp
    · rw [if_neg h1, List.drop_eq_nil_of_le (by omega)]
      simp
theorem copyUndo_i (xs : List (List Int × Int)) (hl : (xs.length : Int) ≤ 1048576) (hs : ∀ s ∈ xs, (s.1.length : Int) ≤ 1048576) : M_i_copyUndo xs = some xs := by
  unfold M_i_copyUndo
  simp only [joinO]
  rw [undoCopy_i xs hl hs _ FUEL 0 [] (by omega) (by omega) (by simp) (by rw [fuel_eq]; omega)]
  simp

section
variable (vi : Bool) (mode : Int) (line : List Int × Int) (count op opc wait fr fh last : Int) (ring : List (List Int)) (undo : List (List Int × Int)) (nav : Int) (own : List Int × Int) (query : List Int) (hit : Int) (back : List Int × Int)
  (h1 : line.1.length ≤ 1048576) (h2 : ring.length ≤ 1048576) (h3 : ∀ s ∈ ring, s.length ≤ 1048576) (h4 : undo.length ≤ 1048576) (h5 : ∀ s ∈ undo, s.1.length ≤ 1048576) (h6 : own.1.length ≤ 1048576) (h7 : query.length ≤ 1048576) (h8 : back.1.length ≤ 1048576)
include h1 h2 h3 h4 h5 h6 h7 h8
theorem copyEd_i : M_i_copyEd (vi, mode, line, count, op, opc, wait, fr, fh, last, ring, undo, nav, own, query, hit, back) = some (vi, mode, line, count, op, opc, wait, fr, fh, last, ring, undo, nav, own, query, hit, back) := by
  unfold M_i_copyEd
  simp only [copyLine_i line (by omega), copyLine_i own (by omega), copyLine_i back (by omega), copyRing_i ring (by omega) (fun s h => by have := h3 s h; omega), copyUndo_i undo (by omega) (fun s h => by have := h5 s h; omega), copyInts_i query (by omega), bindO]
end

theorem in_eq (a b c : Int) : M_i_in a b c = some (decide (b ≤ a ∧ a ≤ c)) := by
  unfold M_i_in
  congr 1
  by_cases h1 : b ≤ a <;> by_cases h2 : a ≤ c <;> simp [h1, h2]

def pr (r : Int) : Bool := decide ((0 ≤ r ∧ r ≤ 1114111 ∧ (r < 55296 ∨ 57343 < r)) ∧ 32 ≤ r ∧ (r < 127 ∨ 159 < r))

theorem callO_of {α β : Type} {c : Prop} [Decidable c] {x d : α} {k : α → Option β} : callO c (some x) d k = k (if c then x else d) := by
  unfold callO
  split <;> simp [bindO, *]

theorem printable_s (r : Int) : M_s_Printable r = some (pr r) := by
  unfold M_s_Printable pr M_s_RuneOk
  simp only [bindO]
  congr 1
  by_cases h1 : 0 ≤ r <;> by_cases h2 : r ≤ 1114111 <;> by_cases h3 : r < 55296 <;> by_cases h4 : 57343 < r <;> by_cases h5 : 32 ≤ r <;> by_cases h6 : r < 127 <;> simp [h1, h2, h3, h4, h5, h6]

theorem printable_i (r : Int) : M_i_Printable r = some (pr r) := by
  unfold M_i_Printable pr M_i_RuneOk
  simp only [in_eq, callO_of, bindO]
  congr 1
  by_cases h1 : 0 ≤ r ∧ r ≤ 1114111
  · by_cases h2 : 55296 ≤ r ∧ r ≤ 57343
    · have : ¬ (r < 55296 ∨ 57343 < r) := by omega
      simp [h1, h2, this]
    · have : (r < 55296 ∨ 57343 < r) := by omega
      by_cases h5 : 32 ≤ r
      · by_cases h6 : 127 ≤ r ∧ r ≤ 159
        · have : ¬ (r < 127 ∨ 159 < r) := by omega
          simp [h1, h2, h5, h6, this]
        · have : (r < 127 ∨ 159 < r) := by omega
          simp [h1, h2, h5, h6, *]
      · simp [h1, h2, h5]
  · have : ¬ (0 ≤ r ∧ r ≤ 1114111 ∧ (r < 55296 ∨ 57343 < r)) := fun h => h1 ⟨h.1, h.2.1⟩
    simp [h1, this]

def adm (r : Int) : Bool := pr r || decide (r = 9) || decide (r = 10)

theorem typed_s (r : Int) : M_s_l13Typed r = some (adm r) := by
  unfold M_s_l13Typed adm
  rw [bindO_of (printable_s r)]
  cases pr r <;> by_cases h : r = 9 <;> by_cases h' : r = 10 <;> simp [h, h']

theorem admissible_i (r : Int) : M_i_admissible r = some (adm r) := by
  unfold M_i_admissible adm
  rw [bindO_of (printable_i r)]
  cases pr r <;> by_cases h : r = 9 <;> by_cases h' : r = 10 <;> simp [h, h']

theorem allTyped_loop (t : List Int) (ht : t.length ≤ 100000000) (j : Unit → Option Bool) : ∀ (m : Nat) (k : Int), 0 ≤ k → k ≤ (t.length : Int) → (t.length : Int) - k < m → fixF (M_s_l13AllTyped_L1 t j) m k = if (t.drop k.toNat).all adm then j () else some false := by
  intro m
  induction m with
  | zero => intro k _ _ h; omega
  | succ m ih =>
    intro k hk hk' hm
    simp only [fixF, M_s_l13AllTyped_L1, guardO, Bool.cond_decide, typed_s, bindO]
    by_cases h1 : k < (t.length : Int)
    · rw [if_pos h1, if_pos ⟨hk, h1⟩, W_eq (by omega) (by omega), drop_at hk h1]
      by_cases h2 : adm (at' t k)
      · rw [ih (k + 1) (by omega) (by omega) (by omega)]
        simp [h2]
      · simp [h2]
    · rw [if_neg h1, List.drop_eq_nil_of_le (by omega)]
      simp

theorem allTyped_s (t : List Int) (ht : t.length ≤ 100000000) : M_s_l13AllTyped t = some (t.all adm) := by
  unfold M_s_l13AllTyped joinO
  show fixF (M_s_l13AllTyped_L1 t fun _ => some true) FUEL 0 = _
  rw [allTyped_loop t ht _ FUEL 0 (by omega) (by omega) (by rw [fuel_eq]; omega)]
  simp only [Int.toNat_zero, List.drop_zero]
  cases t.all adm <;> simp

theorem areAdm_loop (t : List Int) (ht : t.length ≤ 100000000) (j : Unit → Option Bool) : ∀ (m : Nat) (k : Int), 0 ≤ k → k ≤ (t.length : Int) → (k = 0 ∨ k ≤ 400) → (t.length : Int) - k < m → fixF (M_i_areAdmissible_L1 t j) m k = if (t.drop k.toNat).all adm ∧ t.length ≤ 400 then j () else some false := by
  intro m
  induction m with
  | zero => intro k _ _ _ h; omega
  | succ m ih =>
    intro k hk hk' h4 hm
    simp only [fixF, M_i_areAdmissible_L1, guardO, Bool.cond_decide, admissible_i, callO_of]
    by_cases h1 : k < (t.length : Int)
    · rw [if_pos h1, if_pos ⟨hk, h1⟩, W_eq (by omega) (by omega), drop_at hk h1]
      by_cases h3 : 400 ≤ k
      · have : ¬ t.length ≤ 400 := by omega
        simp [h3, this]
      · by_cases h2 : adm (at' t k)
        · rw [ih (k + 1) (by omega) (by omega) (by omega) (by omega)]
          simp [h2, h3]
        · simp [h2, h3]
    · rw [if_neg h1, List.drop_eq_nil_of_le (by omega)]
      have : t.length ≤ 400 := by omega
      simp [this]

def allAdm (t : List Int) : Bool := t.all adm && decide (t.length ≤ 400)

theorem areAdm_i (t : List Int) (ht : t.length ≤ 100000000) : M_i_areAdmissible t = some (allAdm t) := by
  unfold M_i_areAdmissible joinO allAdm
  show fixF (M_i_areAdmissible_L1 t fun _ => some true) FUEL 0 = _
  rw [areAdm_loop t ht _ FUEL 0 (by omega) (by omega) (.inl rfl) (by rw [fuel_eq]; omega)]
  simp only [Int.toNat_zero, List.drop_zero]
  by_cases h : t.length ≤ 400 <;> cases t.all adm <;> simp [h]

def lineOk (l : List Int × Int) : Bool := allAdm l.1 && decide (0 ≤ l.2 ∧ l.2 ≤ (l.1.length : Int))

theorem lineOk_i (l : List Int × Int) (hl : l.1.length ≤ 100000000) : M_i_LineOk l = some (lineOk l) := by
  unfold M_i_LineOk lineOk
  rw [bindO_of (areAdm_i _ hl)]
  simp only [in_eq, callO_of]
  congr 1
  cases allAdm l.1 <;> simp

def pieceOk (p : List Int) : Bool := allAdm p && !(decide (p.length = 0))
theorem ringLoop_s (r : List (List Int)) (hr : r.length ≤ 100000000) (hp : ∀ p ∈ r, p.length ≤ 100000000) (j : Unit → Option Bool) : ∀ (m : Nat) (k : Int), 0 ≤ k → k ≤ (r.length : Int) → (r.length : Int) - k < m → fixF (M_s_RingOk_L1 r j) m k = if (r.drop k.toNat).all pieceOk then j () else some false := by
  intro m
  induction m with
  | zero => intro k _ _ h; omega
  | succ m ih =>
    intro k hk hk' hm
    simp only [fixF, M_s_RingOk_L1, guardO, Bool.cond_decide]
    by_cases h1 : k < (r.length : Int)
    · have hq := hp (at' r k) (List.mem_of_getElem? (at_some ⟨hk, h1⟩))
      have e : M_s_l15Piece (at' r k) = some (allAdm (at' r k)) := by
        unfold M_s_l15Piece allAdm
        rw [allTyped_s _ hq, callO_of]
        congr 1
        by_cases h : (at' r k).length ≤ 400
        · have h' : ((at' r k).length : Int) ≤ 400 := by omega
          simp [h, h']
        · have h' : ¬ ((at' r k).length : Int) ≤ 400 := by omega
          simp [h, h']
      rw [if_pos h1, if_pos ⟨hk, h1⟩, W_eq (by omega) (by omega), drop_at hk h1, e, callO_of, ih (k + 1) (by omega) (by omega) (by omega)]
      have hb : (if ((at' r k).length : Int) = 0 then true else !(if decide (((at' r k).length : Int) = 0) = false then allAdm (at' r k) else false)) = !(pieceOk (at' r k)) := by
        unfold pieceOk
        by_cases hz : (at' r k).length = 0
        · have hz' : ((at' r k).length : Int) = 0 := by omega
          rw [if_pos hz', decide_eq_true hz]; simp
        · have hz' : ¬ ((at' r k).length : Int) = 0 := by omega
          rw [if_neg hz', decide_eq_false hz, decide_eq_false hz']; simp
      rw [hb]
      by_cases hz : pieceOk (at' r k) = true <;> simp [hz]
    · rw [if_neg h1, List.drop_eq_nil_of_le (by omega)]
      simp

theorem ringLoop_i (r : List (List Int)) (hr : r.length ≤ 100000000) (hp : ∀ p ∈ r, p.length ≤ 100000000) (j : Unit → Option Bool) : ∀ (m : Nat) (k : Int), 0 ≤ k → k ≤ (r.length : Int) → (r.length : Int) - k < m → fixF (M_i_RingOk_L1 r j) m k = if (r.drop k.toNat).all pieceOk then j () else some false := by
  intro m
  induction m with
  | zero => intro k _ _ h; omega
  | succ m ih =>
    intro k hk hk' hm
    simp only [fixF, M_i_RingOk_L1, guardO, Bool.cond_decide]
    by_cases h1 : k < (r.length : Int)
    · have hq := hp (at' r k) (List.mem_of_getElem? (at_some ⟨hk, h1⟩))
      rw [if_pos h1, if_pos ⟨hk, h1⟩, W_eq (by omega) (by omega), drop_at hk h1, areAdm_i _ hq, callO_of, ih (k + 1) (by omega) (by omega) (by omega)]
      have hb : (if ((at' r k).length : Int) = 0 then true else !(if decide (((at' r k).length : Int) = 0) = false then allAdm (at' r k) else false)) = !(pieceOk (at' r k)) := by
        unfold pieceOk
        by_cases hz : (at' r k).length = 0
        · have hz' : ((at' r k).length : Int) = 0 := by omega
          rw [if_pos hz', decide_eq_true hz]; simp
        · have hz' : ¬ ((at' r k).length : Int) = 0 := by omega
          rw [if_neg hz', decide_eq_false hz, decide_eq_false hz']; simp
      rw [hb]
      by_cases hz : pieceOk (at' r k) = true <;> simp [hz]
    · rw [if_neg h1, List.drop_eq_nil_of_le (by omega)]
      simp

def ringOk (r : List (List Int)) : Bool := r.all pieceOk && decide (r.length ≤ 6)

theorem dec_len {n m : Nat} : decide ((n : Int) ≤ (m : Int)) = decide (n ≤ m) := by
  by_cases h : n ≤ m
  · rw [decide_eq_true h, decide_eq_true (by omega)]
  · rw [decide_eq_false h, decide_eq_false (by omega)]

theorem ringOk_s (r : List (List Int)) (hr : r.length ≤ 100000000) (hp : ∀ p ∈ r, p.length ≤ 100000000) : M_s_RingOk r = some (ringOk r) := by
  unfold M_s_RingOk ringOk
  simp only [joinO]
  rw [ringLoop_s r hr hp _ FUEL 0 (by omega) (by omega) (by rw [fuel_eq]; omega)]
  have := dec_len (n := r.length) (m := 6)
  simp only [Int.toNat_zero, List.drop_zero] at this ⊢
  have e6 : ((6 : Nat) : Int) = 6 := rfl
  rw [e6] at this
  rw [this]
  cases r.all pieceOk <;> simp

theorem ringOk_i (r : List (List Int)) (hr : r.length ≤ 100000000) (hp : ∀ p ∈ r, p.length ≤ 100000000) : M_i_RingOk r = some (ringOk r) := by
  unfold M_i_RingOk ringOk
  simp only [joinO]
  rw [ringLoop_i r hr hp _ FUEL 0 (by omega) (by omega) (by rw [fuel_eq]; omega)]
  have := dec_len (n := r.length) (m := 6)
  simp only [Int.toNat_zero, List.drop_zero] at this ⊢
  have e6 : ((6 : Nat) : Int) = 6 := rfl
  rw [e6] at this
  rw [this]
  cases r.all pieceOk <;> simp

theorem undoLoop_i (r : List (List Int × Int)) (hr : r.length ≤ 100000000) (hp : ∀ p ∈ r, p.1.length ≤ 100000000) (j : Unit → Option Bool) : ∀ (m : Nat) (k : Int), 0 ≤ k → k ≤ (r.length : Int) → (r.length : Int) - k < m → fixF (M_i_UndoOk_L1 r j) m k = if (r.drop k.toNat).all lineOk then j () else some false := by
  intro m
  induction m with
  | zero => intro k _ _ h; omega
  | succ m ih =>
    intro k hk hk' hm
    simp only [fixF, M_i_UndoOk_L1, guardO, Bool.cond_decide]
    by_cases h1 : k < (r.length : Int)
    · have hq := hp (at' r k) (List.mem_of_getElem? (at_some ⟨hk, h1⟩))
      rw [if_pos h1, if_pos ⟨hk, h1⟩, W_eq (by omega) (by omega), drop_at hk h1, bindO_of (lineOk_i (at' r k) hq), ih (k + 1) (by omega) (by omega) (by omega)]
      obtain ⟨x, hx⟩ : ∃ x, x = lineOk (at' r k) := ⟨_, rfl⟩
      rw [List.all_cons, ← hx]
      cases x <;> rfl
    · rw [if_neg h1, List.drop_eq_nil_of_le (by omega)]
      simp

def undoOk (r : List (List Int × Int)) : Bool := r.all lineOk && decide (r.length ≤ 20)

theorem undoOk_i (r : List (List Int × Int)) (hr : r.length ≤ 100000000) (hp : ∀ p ∈ r, p.1.length ≤ 100000000) : M_i_UndoOk r = some (undoOk r) := by
  unfold M_i_UndoOk undoOk
  simp only [joinO]
  rw [undoLoop_i r hr hp _ FUEL 0 (by omega) (by omega) (by rw [fuel_eq]; omega)]
  have := dec_len (n := r.length) (m := 20)
  simp only [Int.toNat_zero, List.drop_zero] at this ⊢
  have e6 : ((20 : Nat) : Int) = 20 := rfl
  rw [e6] at this
  rw [this]
  cases r.all lineOk <;> simp

def among (n : Int) (l : List Int) : Bool := l.any (fun x => decide (x = n))

theorem isAmong_loop (l : List UInt8) (n : Int) (hl : l.length ≤ 100000000) : ∀ (m : Nat) (k : Int), 0 ≤ k → k ≤ (l.length : Int) → (l.length : Int) - k < m → fixF (M_i_isAmong_L1 n l fun _ => some false) m k = some (among n ((l.drop k.toNat).map (fun b => (b.toNat : Int)))) := by
  intro m
  induction m with
  | zero => intro k _ _ h; omega
  | succ m ih =>
    intro k hk hk' hm
    simp only [fixF, M_i_isAmong_L1, guardO, Bool.cond_decide]
    by_cases h1 : k < (l.length : Int)
    · rw [if_pos h1, if_pos ⟨hk, h1⟩, W_eq (by omega) (by omega), drop_at hk h1, ih (k + 1) (by omega) (by omega) (by omega)]
      unfold among
      by_cases h2 : ((at' l k).toNat : Int) = n
      · simp [h2]
      · simp [h2]
    · rw [if_neg h1, List.drop_eq_nil_of_le (by omega)]
      simp [among]

theorem among_i (n : Int) (l : List UInt8) (hl : l.length ≤ 100000000) : M_i_isAmong n l = some (among n (l.map (fun b => (b.toNat : Int)))) := by
  unfold M_i_isAmong
  simp only [joinO]
  rw [isAmong_loop l n hl FUEL 0 (by omega) (by omega) (by rw [fuel_eq]; omega)]
  simp

def emptyL (l : List Int × Int) : Bool := decide ((l.1.length : Int) = 0) && decide (l.2 = 0)
theorem empty_i (l : List Int × Int) : M_i_emptyLine l = some (emptyL l) := by
  unfold M_i_emptyLine emptyL; cases decide ((l.1.length : Int) = 0) <;> rfl

def atEnd (l : List Int × Int) : Bool := decide (0 < (l.1.length : Int)) && decide (l.2 = (l.1.length : Int))
theorem atEnd_i (l : List Int × Int) : M_i_isAtEnd l = some (atEnd l) := by
  unfold M_i_isAtEnd atEnd; cases decide (0 < (l.1.length : Int)) <;> rfl

abbrev EdT := Bool × Int × (List Int × Int) × Int × Int × Int × Int × Int × Int × Int × List (List Int) × (List (List Int × Int)) × Int × (List Int × Int) × List Int × Int × List Int × Int

def modeB (vi : Bool) (mode : Int) (line : List Int × Int) (op opc wait : Int) : Bool :=
  decide (0 ≤ mode ∧ mode ≤ 3 ∧ (mode = 0 → vi = false) ∧ (mode = 1 → vi = true) ∧ (mode = 2 → vi = true) ∧ (mode = 2 → atEnd line = false) ∧ (mode ≠ 2 → op = 0 ∧ opc = 0 ∧ wait = 0) ∧ (op = 0 → opc = 0)) && among op [0, 100, 99, 121] && among wait [0, 102, 70, 116, 84, 114]

def searchB (mode : Int) (query : List Int) (hit : Int) (back : List Int × Int) : Bool :=
  decide (mode = 3) || (decide ((query.length : Int) = 0) && decide (hit = 0) && emptyL back)

theorem among_op (op : Int) : among op [0, 100, 99, 121] = (decide (op = 0) || among op [100, 99, 121]) := by
  have e : decide (0 = op) = decide (op = 0) := by simp [eq_comm]
  simp only [among, List.any_cons, e]
theorem among_wt (op : Int) : among op [0, 102, 70, 116, 84, 114] = (decide (op = 0) || among op [102, 70, 116, 84, 114]) := by
  have e : decide (0 = op) = decide (op = 0) := by simp [eq_comm]
  simp only [among, List.any_cons, e]

set_option maxHeartbeats 4000000 in
theorem mode_i (vi : Bool) (mode : Int) (line : List Int × Int) (count op opc wait fr fh last : Int) (ring : List (List Int)) (undo : List (List Int × Int)) (nav : Int) (own : List Int × Int) (query : List Int) (hit : Int) (back : List Int × Int) :
    M_i_modeOk (vi, mode, line, count, op, opc, wait, fr, fh, last, ring, undo, nav, own, query, hit, back) = some (modeB vi mode line op opc wait) := by
  unfold M_i_modeOk modeB
  have e1 : ([100, 99, 121] : List UInt8).map (fun b => (b.toNat : Int)) = [100, 99, 121] := rfl
  have e2 : ([102, 70, 116, 84, 114] : List UInt8).map (fun b => (b.toNat : Int)) = [102, 70, 116, 84, 114] := rfl
  simp only [atEnd_i, among_i _ _ (show ([100, 99, 121] : List UInt8).length ≤ 100000000 by simp), among_i _ _ (show ([102, 70, 116, 84, 114] : List UInt8).length ≤ 100000000 by simp), callO_of, joinO, e1, e2, among_op, among_wt]
  generalize among op [100, 99, 121] = A
  generalize among wait [102, 70, 116, 84, 114] = Bw
  generalize atEnd line = T
  by_cases m0 : mode < 0
  · have h1 : ¬ 0 ≤ mode := by omega
    have h2 : ¬ mode = 0 := by omega
    have h3 : ¬ mode = 1 := by omega
    have h4 : ¬ mode = 2 := by omega
    have h5 : ¬ mode = 3 := by omega
    simp [h1, h2, h3, h4, h5]
  by_cases m3 : 3 < mode
  · have h1 : ¬ mode ≤ 3 := by omega
    have h2 : ¬ mode = 0 := by omega
    have h3 : ¬ mode = 1 := by omega
    have h4 : ¬ mode = 2 := by omega
    have h5 : ¬ mode = 3 := by omega
    simp [h1, h2, h3, h4, h5]
  have hm : mode = 0 ∨ mode = 1 ∨ mode = 2 ∨ mode = 3 := by omega
  rcases hm with rfl | rfl | rfl | rfl <;> cases vi <;> cases A <;> cases Bw <;> cases T <;> by_cases o : op = 0 <;> by_cases oc : opc = 0 <;> by_cases w : wait = 0 <;> simp [o, oc, w]

def findB (fr fh : Int) : Bool := decide ((fr = 0 → fh = 0) ∧ (fr ≠ 0 → 0 ≤ fh ∧ fh ≤ 3)) && (decide (fr = 0) || pr fr)

def edOkB (e : EdT) : Bool := match e with
  | (vi, mode, line, count, op, opc, wait, fr, fh, last, ring, undo, nav, own, query, hit, back) =>
    lineOk line && lineOk own && lineOk back && decide (0 ≤ count ∧ count ≤ 999) && decide (0 ≤ opc ∧ opc ≤ 999) && modeB vi mode line op opc wait && findB fr fh && decide (0 ≤ last ∧ last ≤ 3) && ringOk ring && undoOk undo && decide (0 ≤ nav ∧ nav ≤ 1000000060) && decide (0 ≤ hit ∧ hit ≤ 1000000060) && (!decide (nav = 0) || emptyL own) && decide ((query.length : Int) ≤ 40) && query.all pr && searchB mode query hit back

def Small (N : Nat) (e : EdT) : Prop := match e with
  | (_, _, line, _, _, _, _, _, _, _, ring, undo, _, own, query, _, back) =>
    line.1.length ≤ N ∧ (ring.length ≤ N ∧ ∀ s ∈ ring, s.length ≤ N) ∧ (undo.length ≤ N ∧ ∀ s ∈ undo, s.1.length ≤ N) ∧ own.1.length ≤ N ∧ query.length ≤ N ∧ back.1.length ≤ N

theorem gt_le (c hi : Int) : decide (hi < c) = !decide (c ≤ hi) := by
  by_cases h : hi < c
  · rw [decide_eq_true h, decide_eq_false (by omega)]; rfl
  · rw [decide_eq_false h, decide_eq_true (by omega)]; rfl

section
variable (vi : Bool) (mode : Int) (line : List Int × Int) (count op opc wait fr fh last : Int) (ring : List (List Int)) (undo : List (List Int × Int)) (nav : Int) (own : List Int × Int) (query : List Int) (hit : Int) (back : List Int × Int)

theorem edLoop_i (hq : query.length ≤ 100000000) (j : Unit → Option Bool) : ∀ (m : Nat) (k : Int), 0 ≤ k → k ≤ (query.length : Int) → (query.length : Int) - k < m → fixF (M_i_EdOk_L1 (vi, mode, line, count, op, opc, wait, fr, fh, last, ring, undo, nav, own, query, hit, back) j) m k = if (query.drop k.toNat).all pr then j () else some false := by
  intro m
  induction m with
  | zero => intro k _ _ h; omega
  | succ m ih =>
    intro k hk hk' hm
    simp only [fixF, M_i_EdOk_L1, guardO, Bool.cond_decide, printable_i, bindO]
    by_cases h1 : k < (query.length : Int)
    · rw [if_pos h1, if_pos ⟨hk, h1⟩, W_eq (by omega) (by omega), drop_at hk h1]
      by_cases h2 : pr (at' query k) = true
      · rw [ih (k + 1) (by omega) (by omega) (by omega)]
        simp [h2]
      · simp [h2]
    · rw [if_neg h1, List.drop_eq_nil_of_le (by omega)]
      simp

theorem edOk_i (hs : Small 100000000 (vi, mode, line, count, op, opc, wait, fr, fh, last, ring, undo, nav, own, query, hit, back)) : M_i_EdOk (vi, mode, line, count, op, opc, wait, fr, fh, last, ring, undo, nav, own, query, hit, back) = some (edOkB (vi, mode, line, count, op, opc, wait, fr, fh, last, ring, undo, nav, own, query, hit, back)) := by
  obtain ⟨h1, ⟨h2, h3⟩, ⟨h4, h5⟩, h6, h7, h8⟩ := hs
  unfold M_i_EdOk edOkB
  simp only [lineOk_i line h1, lineOk_i own h6, lineOk_i back h8, mode_i, ringOk_i ring h2 h3, undoOk_i undo h4 h5, printable_i, empty_i, callO_of, joinO, in_eq, gt_le]
  rw [edLoop_i vi mode line count op opc wait fr fh last ring undo nav own query hit back h7 _ FUEL 0 (by omega) (by omega) (by rw [fuel_eq]; omega)]
  simp only [bindO, Int.toNat_zero, List.drop_zero]
  have hF : (bif (bif (decide (fr = 0)) then (!(decide (fh = 0))) else false) then true else (bif (!(decide (fr = 0))) then (bif (!(if (!decide (fr = 0)) = true ∧ (bif decide (fr = 0) then !decide (fh = 0) else false) = false then pr fr else false)) then true else (!(if (!if (!decide (fr = 0)) = true ∧ (bif decide (fr = 0) then !decide (fh = 0) else false) = false then pr fr else false) = false ∧ (!decide (fr = 0)) = true ∧ (bif decide (fr = 0) then !decide (fh = 0) else false) = false then decide (0 ≤ fh ∧ fh ≤ 3) else false))) else false)) = !(findB fr fh) := by
    unfold findB
    by_cases a : fr = 0
    · by_cases b : fh = 0 <;> simp [a, b]
    · by_cases b : 0 ≤ fh ∧ fh ≤ 3
      · cases pr fr <;> simp [a, b]
      · cases pr fr <;> simp [a, b]
  rw [hF]
  have hS : (bif (decide (mode = 3)) then true else (bif (bif (decide ((query.length : Int) = 0)) then (decide (hit = 0)) else false) then (if (bif (decide ((query.length : Int) = 0)) then (decide (hit = 0)) else false) = true ∧ (decide (mode = 3)) = false then emptyL back else false) else false)) = searchB mode query hit back := by
    unfold searchB
    by_cases a : mode = 3 <;> by_cases b : (query.length : Int) = 0 <;> by_cases c : hit = 0 <;> cases emptyL back <;> simp [a, b, c]
  have hS' : emptyL (back.1, back.2) = emptyL back := rfl
  rw [hS', hS]
  generalize lineOk line = A1
  generalize lineOk own = A2
  generalize lineOk back = A3
  generalize modeB vi mode line op opc wait = M
  generalize searchB mode query hit back = S
  generalize decide (0 ≤ count ∧ count ≤ 999) = C
  generalize decide (0 ≤ opc ∧ opc ≤ 999) = OC
  generalize decide (0 ≤ last ∧ last ≤ 3) = L
  generalize ringOk ring = R
  generalize undoOk undo = U
  generalize findB fr fh = F
  generalize decide (0 ≤ nav ∧ nav ≤ 1000000060) = N
  generalize decide (0 ≤ hit ∧ hit ≤ 1000000060) = H
  generalize decide (nav = 0) = N0
  generalize emptyL own = EO
  generalize decide ((query.length : Int) ≤ 40) = Q
  generalize query.all pr = P
  cases A1
  · simp
  cases A2
  · simp
  cases A3
  · simp
  cases C
  · simp
  cases OC
  · simp
  cases M
  · simp
  cases F
  · simp
  cases L
  · simp
  cases R
  · simp
  cases U
  · simp
  cases N
  · simp
  cases H
  · simp
  cases N0 <;> cases EO <;> cases Q <;> cases P <;> cases S <;> rfl
end

def clipAt (mode : Int) (l : List Int × Int) : Int := if mode = 2 ∧ l.2 = (l.1.length : Int) ∧ 0 < l.2 then l.2 - 1 else l.2

theorem inCommand_i (l : List Int × Int) (mode : Int) (wl : l.2 ≤ 9223372036854775807) : M_i_inCommand l mode = some (l.1, clipAt mode l) := by
  unfold M_i_inCommand clipAt
  simp only [joinO, atEnd_i, callO_of]
  unfold atEnd
  by_cases a : mode = 2
  · by_cases b : l.2 = (l.1.length : Int)
    · by_cases c : 0 < l.2
      · have c' : 0 < (l.1.length : Int) := by omega
        rw [W_eq (x := l.2 - 1) (by omega) (by omega), if_pos (show mode = 2 ∧ l.2 = (l.1.length : Int) ∧ 0 < l.2 from ⟨a, b, c⟩), decide_eq_true a, decide_eq_true b, decide_eq_true c']
        rfl
      · have c' : ¬ 0 < (l.1.length : Int) := by omega
        rw [if_neg (show ¬ (mode = 2 ∧ l.2 = (l.1.length : Int) ∧ 0 < l.2) from fun h => c h.2.2), decide_eq_true a, decide_eq_false c']
        rfl
    · rw [if_neg (show ¬ (mode = 2 ∧ l.2 = (l.1.length : Int) ∧ 0 < l.2) from fun h => b h.2.1), decide_eq_true a, decide_eq_false b]
      simp
  · rw [if_neg (show ¬ (mode = 2 ∧ l.2 = (l.1.length : Int) ∧ 0 < l.2) from fun h => a h.1), decide_eq_false a]
    rfl

theorem join_s (a b c : List Int) (h : a.length + b.length + c.length ≤ 536870912) : M_s_l13Join a b c = some (a ++ b ++ c) := by
  unfold M_s_l13Join guardO
  rw [if_pos (by simp; omega), if_pos (by simp; omega), if_pos (by simp; omega)]
  simp

theorem piece_s (t : List Int) (h : t.length ≤ 100000000) : M_s_l15Piece t = some (allAdm t) := by
  unfold M_s_l15Piece allAdm
  rw [allTyped_s t h, callO_of]
  by_cases c : t.length ≤ 400
  · have c' : (t.length : Int) ≤ 400 := by omega
    simp [c, c']
  · have c' : ¬ (t.length : Int) ≤ 400 := by omega
    simp [c, c']

def ringPutR (r : List (List Int)) (t : List Int) (how : Int) : List (List Int) :=
  if t.length = 0 then r
  else if how = 0 ∨ r.length = 0 ∨ 400 < (at' r 0).length + t.length then ([t] ++ r).take 6
  else r.set 0 (if how = 1 then at' r 0 ++ t else t ++ at' r 0)

theorem allAdm_len {t : List Int} (h : allAdm t = true) : t.length ≤ 400 := by
  unfold allAdm at h
  simp only [Bool.and_eq_true, decide_eq_true_eq] at h
  exact h.2

theorem ringOk_spec {r : List (List Int)} (h : ringOk r = true) : r.length ≤ 6 ∧ ∀ s ∈ r, allAdm s = true ∧ 0 < s.length := by
  unfold ringOk at h
  simp only [Bool.and_eq_true, decide_eq_true_eq, List.all_eq_true] at h
  refine ⟨h.2, fun s hs => ?_⟩
  have := h.1 s hs
  unfold pieceOk at this
  simp only [Bool.and_eq_true, Bool.not_eq_true', decide_eq_false_iff_not] at this
  exact ⟨this.1, by omega⟩

theorem ringOk_of {r : List (List Int)} (h1 : r.length ≤ 6) (h2 : ∀ s ∈ r, allAdm s = true ∧ 0 < s.length) : ringOk r = true := by
  unfold ringOk
  simp only [Bool.and_eq_true, decide_eq_true_eq, List.all_eq_true]
  refine ⟨fun s hs => ?_, h1⟩
  obtain ⟨a, b⟩ := h2 s hs
  unfold pieceOk
  simp only [Bool.and_eq_true, Bool.not_eq_true', decide_eq_false_iff_not]
  exact ⟨a, by omega⟩

theorem allAdm_app {a b : List Int} (ha : allAdm a = true) (hb : allAdm b = true) (hl : a.length + b.length ≤ 400) : allAdm (a ++ b) = true := by
  unfold allAdm at *
  simp only [Bool.and_eq_true, decide_eq_true_eq, List.all_append, List.length_append] at *
  exact ⟨⟨ha.1, hb.1⟩, hl⟩

theorem ringPutR_ok {r : List (List Int)} {t : List Int} {how : Int} (hr : ringOk r = true) (ht : allAdm t = true) : ringOk (ringPutR r t how) = true := by
  obtain ⟨h1, h2⟩ := ringOk_spec hr
  unfold ringPutR
  split
  · exact hr
  · rename_i h0
    split
    · refine ringOk_of (by simp; omega) fun s hs => ?_
      have := List.mem_of_mem_take hs
      simp only [List.singleton_append, List.mem_cons] at this
      rcases this with rfl | hm
      · exact ⟨ht, by omega⟩
      · exact h2 s hm
    · rename_i h3
      simp only [not_or] at h3
      have hm : at' r 0 ∈ r := List.mem_of_getElem? (at_some (xs := r) (i := 0) ⟨by omega, by omega⟩)
      obtain ⟨k1, k2⟩ := h2 _ hm
      refine ringOk_of (by simp; omega) fun s hs => ?_
      rcases List.mem_or_eq_of_mem_set hs with hs | rfl
      · exact h2 s hs
      · split
        · exact ⟨allAdm_app k1 ht (by omega), by simp; omega⟩
        · exact ⟨allAdm_app ht k1 (by omega), by simp; omega⟩

theorem take6_s (x : List (List Int)) (hx : (x.length : Int) ≤ 1000) (j : List (List Int) → Option (List (List Int) × Bool)) :
    (bif decide (6 < (x.length : Int)) then (guardO (0 ≤ (0 : Int) ∧ (0 : Int) ≤ (6 : Int) ∧ (6 : Int) ≤ (x.length : Int)) <| j (sub' x 0 (6 : Int))) else j x) = j (x.take 6) := by
  by_cases h : 6 < (x.length : Int)
  · rw [decide_eq_true h, cond_true, guardO, if_pos (by omega)]
    simp [sub']
  · rw [decide_eq_false h, cond_false, List.take_of_length_le (by omega)]

theorem ringPut_s (r : List (List Int)) (t : List Int) (how : Int) (hr : ringOk r = true) (ht : allAdm t = true) (hh : 0 ≤ how ∧ how ≤ 2) : M_s_RingPut r t how = some (ringPutR r t how, true) := by
  obtain ⟨r1, r2⟩ := ringOk_spec hr
  have r3 : ∀ s ∈ r, s.length ≤ 400 := fun s hs => allAdm_len (r2 s hs).1
  have tl := allAdm_len ht
  have c1 : ¬ how < 0 := by omega
  have c2 : ¬ 2 < how := by omega
  unfold M_s_RingPut ringPutR
  rw [bindO_of (ringOk_s r (by omega) (fun s hs => by have := r3 s hs; omega)), piece_s t (by omega), callO_of, hr, ht, copyRing_s r (by omega) (fun s hs => by have := r3 s hs; omega)]
  simp only [c1, c2, decide_false, Bool.not_true, cond_false, if_true, bindO]
  by_cases h0 : t.length = 0
  · have h0' : (t.length : Int) = 0 := by omega
    simp [h0]
  · have h0' : ¬ (t.length : Int) = 0 := by omega
    rw [if_neg h0, decide_eq_false h0', cond_false]
    have hat : 0 < r.length → (at' r 0).length ≤ 400 := fun hp => r3 _ (List.mem_of_getElem? (at_some (xs := r) (i := 0) ⟨by omega, by omega⟩))
    simp only [guardO]
    rw [if_pos (fun h => by
      by_cases hp : 0 < (r.length : Int)
      · exact ⟨by omega, hp⟩
      · rw [decide_eq_false hp] at h; simp at h)]
    by_cases hp : 0 < r.length
    · have hp' : 0 < (r.length : Int) := by omega
      have := hat hp
      rw [decide_eq_true hp', W_eq (by omega) (by omega)]
      by_cases hz : how = 0
      · rw [if_pos (Or.inl hz)]
        have e0 : (!decide (how = 0)) = false := by simp [hz]
        simp only [e0, cond_false, joinO, List.nil_append]
        rw [if_pos (by simp; omega), if_pos (by simp; omega)]
        have := take6_s ([t] ++ r) (by simp; omega) (fun x => some (x, true))
        simp only [guardO] at this
        exact this
      · have e0 : (!decide (how = 0)) = true := by simp [hz]
        by_cases h4 : 400 < (at' r 0).length + t.length
        · rw [if_pos (Or.inr (Or.inr h4))]
          have e1 : ¬ (((at' r 0).length : Int) + (t.length : Int) ≤ 400) := by omega
          simp only [e0, e1, decide_false, cond_false, cond_true, joinO, List.nil_append]
          rw [if_pos (by simp; omega), if_pos (by simp; omega)]
          have := take6_s ([t] ++ r) (by simp; omega) (fun x => some (x, true))
          simp only [guardO] at this
          exact this
        · rw [if_neg (show ¬ (how = 0 ∨ r.length = 0 ∨ 400 < (at' r 0).length + t.length) by omega)]
          have e1 : (((at' r 0).length : Int) + (t.length : Int) ≤ 400) := by omega
          have g : (0 ≤ (0 : Int) ∧ 0 < (r.length : Int)) := ⟨by omega, hp'⟩
          have j1 := join_s (at' r 0) t [] (by simp; omega)
          have j2 := join_s t (at' r 0) [] (by simp; omega)
          simp only [List.append_nil] at j1 j2
          simp only [e0, e1, decide_true, cond_true, joinO, if_pos g, j1, j2]
          by_cases h2 : how = 2
          · have : ¬ how = 1 := by omega
            simp [h2]
          · have : how = 1 := by omega
            simp [this]
    · have hp' : ¬ 0 < (r.length : Int) := by omega
      have hz : r.length = 0 := by omega
      rw [decide_eq_false hp', if_pos (Or.inr (Or.inl hz))]
      have e0 : (bif (!decide (how = 0)) then false else false) = false := by cases (!decide (how = 0)) <;> rfl
      simp only [e0, cond_false, joinO, List.nil_append]
      rw [if_pos (by simp; omega), if_pos (by simp; omega)]
      have := take6_s ([t] ++ r) (by simp; omega) (fun x => some (x, true))
      simp only [guardO] at this
      exact this

theorem lineOk_at {l : List Int × Int} (h : lineOk l = true) : 0 ≤ l.2 ∧ l.2 ≤ (l.1.length : Int) ∧ l.1.length ≤ 400 := by
  unfold lineOk allAdm at h
  simp only [Bool.and_eq_true, decide_eq_true_eq] at h
  exact ⟨h.2.1, h.2.2, h.1.2⟩

theorem allAdm_of {l : List Int × Int} (h : lineOk l = true) : allAdm l.1 = true := by
  unfold lineOk at h
  simp only [Bool.and_eq_true] at h
  exact h.1

theorem lineOk_mk {t : List Int} {a : Int} (h : allAdm t = true) (h0 : 0 ≤ a) (h1 : a ≤ (t.length : Int)) : lineOk (t, a) = true := by
  unfold lineOk
  simp only [h, Bool.true_and, decide_eq_true_eq]
  exact ⟨h0, h1⟩

theorem same_loop_i (a b : List Int) (hl : a.length = b.length) (ha : (a.length : Int) ≤ 100000000) : ∀ (m : Nat) (k : Int), 0 ≤ k → k ≤ (a.length : Int) → (a.length : Int) - k < m → fixF (M_i_sameInts_L1 a b fun _ => some true) m k = some (decide (a.drop k.toNat = b.drop k.toNat)) := by
  intro m
  induction m with
  | zero => intro k _ _ h; omega
  | succ m ih =>
    intro k hk hk' hm
    simp only [fixF, M_i_sameInts_L1, guardO, Bool.cond_decide]
    by_cases h1 : k < (a.length : Int)
    · have h2 : k < (b.length : Int) := by omega
      rw [if_pos h1, if_pos ⟨hk, h1⟩, if_pos ⟨hk, h2⟩, drop_at hk h1, drop_at hk h2, W_eq (by omega) (by omega), ih (k + 1) (by omega) (by omega) (by omega)]
      by_cases h3 : at' a k = at' b k
      · simp [h3]
      · simp [h3]
    · rw [if_neg h1, List.drop_eq_nil_of_le (by omega), List.drop_eq_nil_of_le (by omega)]
      simp
theorem same_i (a b : List Int) (ha : (a.length : Int) ≤ 100000000) : M_i_sameInts a b = some (decide (a = b)) := by
  unfold M_i_sameInts
  by_cases h : a.length = b.length
  · have h' : (a.length : Int) = (b.length : Int) := by omega
    rw [decide_eq_true h']
    simp only [Bool.not_true, cond_false, joinO]
    rw [same_loop_i a b h ha FUEL 0 (by omega) (by omega) (by rw [fuel_eq]; omega)]
    simp
  · have h' : ¬ (a.length : Int) = (b.length : Int) := by omega
    have h2 : a ≠ b := fun e => h (by rw [e])
    rw [decide_eq_false h', decide_eq_false h2]; rfl

/-- What a line that is put onto a valid list makes of it. -/
def putU (u : List (List Int × Int)) (l : List Int × Int) : List (List Int × Int) :=
  if 0 < u.length ∧ (at' u ((u.length : Int) - 1)).1 = l.1 then u
  else if u.length = 20 then (u ++ [l]).drop 1 else u ++ [l]

theorem undoPut_i (u : List (List Int × Int)) (l : List Int × Int) (hu : undoOk u = true) (hl : lineOk l = true) (h1 : (u.length : Int) ≤ 1048576) (h2 : ∀ s ∈ u, (s.1.length : Int) ≤ 1048576) (h3 : (l.1.length : Int) ≤ 1048576) :
    M_i_UndoPut u l = some (putU u l, true) := by
  unfold M_i_UndoPut putU
  rw [bindO_of (undoOk_i u (by omega) (fun s h => by have := h2 s h; omega)), lineOk_i l (by omega), callO_of, hu, hl]
  simp only [Bool.not_true, cond_false, if_true]
  rw [bindO_of (copyUndo_i u h1 h2), bindO_of (copyLine_i l h3), W_eq (by omega) (by omega)]
  have hg : (decide (0 < (u.length : Int)) = true → 0 ≤ (u.length : Int) - 1 ∧ (u.length : Int) - 1 < (u.length : Int)) := by
    intro h; have := of_decide_eq_true h; omega
  have hu20 : u.length ≤ 20 := by
    unfold undoOk at hu
    simp only [Bool.and_eq_true, decide_eq_true_eq] at hu
    exact hu.2
  simp only [guardO]
  rw [if_pos hg]
  have hlen : (at' u ((u.length : Int) - 1)).1.length ≤ 100000000 := by
    by_cases h0 : 0 < u.length
    · have := h2 _ (List.mem_of_getElem? (at_some (xs := u) (i := (u.length : Int) - 1) ⟨by omega, by omega⟩))
      omega
    · have : u = [] := List.length_eq_zero_iff.1 (by omega)
      subst this; simp [at']; decide
  rw [same_i _ _ (by omega), callO_of, if_pos (show u.length + ([l] : List (List Int × Int)).length ≤ 536870912 by simp; omega)]
  have hd : decide (20 < ((u ++ [l]).length : Int)) = decide (u.length = 20) := by
    by_cases h20 : u.length = 20
    · rw [decide_eq_true h20, decide_eq_true (by simp; omega)]
    · rw [decide_eq_false h20, decide_eq_false (by simp; omega)]
  have gT : (0 ≤ (1 : Int) ∧ (1 : Int) ≤ ((u ++ [l]).length : Int) ∧ ((u ++ [l]).length : Int) ≤ ((u ++ [l]).length : Int)) := ⟨by omega, by simp only [List.length_append, List.length_singleton]; omega, by omega⟩
  simp only [if_pos gT, joinO, sub_all (show (0 : Int) ≤ 1 by omega)]
  have e1 : Int.toNat 1 = 1 := rfl
  rw [e1]
  by_cases h0 : 0 < u.length
  · have h0' : 0 < (u.length : Int) := by omega
    by_cases hs : (at' u ((u.length : Int) - 1)).1 = l.1
    · rw [if_pos (show 0 < u.length ∧ (at' u ((u.length : Int) - 1)).1 = l.1 from ⟨h0, hs⟩)]
      simp only [h0', hs, decide_true, if_true, cond_true]
    · rw [if_neg (show ¬ (0 < u.length ∧ (at' u ((u.length : Int) - 1)).1 = l.1) from fun h => hs h.2)]
      simp only [h0', hs, decide_true, decide_false, if_true, cond_true, cond_false]
      by_cases h20 : u.length = 20
      · have h20' : (u.length : Int) = 20 := by omega
        rw [if_pos h20]
        simp only [hd, h20, decide_true, cond_true]
      · have h20' : ¬ (u.length : Int) = 20 := by omega
        rw [if_neg h20]
        simp only [hd, h20, decide_false, cond_false]
  · have h0' : ¬ 0 < (u.length : Int) := by omega
    have h20 : ¬ u.length = 20 := by omega
    have h20' : ¬ (u.length : Int) = 20 := by omega
    rw [if_neg (show ¬ (0 < u.length ∧ (at' u ((u.length : Int) - 1)).1 = l.1) from fun h => h0 h.1), if_neg h20]
    simp only [h0', hd, h20, decide_false, cond_false]

theorem small_le {N M : Nat} (h : N ≤ M) {e : EdT} (hs : Small N e) : Small M e := by
  obtain ⟨vi, mode, line, count, op, opc, wait, fr, fh, last, ring, undo, nav, own, query, hit, back⟩ := e
  obtain ⟨h1, ⟨h2, h3⟩, ⟨h4, h5⟩, h6, h7, h8⟩ := hs
  exact ⟨by omega, ⟨by omega, fun s hs => by have := h3 s hs; omega⟩, ⟨by omega, fun s hs => by have := h5 s hs; omega⟩, by omega, by omega, by omega⟩

def setU (line : List Int × Int) (l : List Int × Int) (undo : List (List Int × Int)) (last nl : Int) : List (List Int × Int) :=
  if line.1 ≠ l.1 ∧ ¬ (nl = 1 ∧ last = 1) then putU undo line else undo

def settledE (nl : Int) : EdT → EdT
  | (vi, mode, line, _, _, _, _, fr, fh, _, ring, undo, nav, own, query, hit, back) => (vi, mode, line, 0, 0, 0, 0, fr, fh, nl, ring, undo, nav, own, query, hit, back)
def setE (l : List Int × Int) (nl : Int) : EdT → EdT
  | (vi, mode, line, _, _, _, _, fr, fh, last, ring, undo, nav, own, query, hit, back) => (vi, mode, (l.1, clipAt mode l), 0, 0, 0, 0, fr, fh, nl, ring, setU line l undo last nl, nav, own, query, hit, back)
section
variable {vi : Bool} {mode : Int} {line : List Int × Int} {count op opc wait fr fh last : Int} {ring : List (List Int)} {undo : List (List Int × Int)} {nav : Int} {own : List Int × Int} {query : List Int} {hit : Int} {back : List Int × Int}

theorem edOkB_all (h : edOkB (vi, mode, line, count, op, opc, wait, fr, fh, last, ring, undo, nav, own, query, hit, back) = true) :
    lineOk line = true ∧ lineOk own = true ∧ lineOk back = true ∧ (0 ≤ count ∧ count ≤ 999) ∧ (0 ≤ opc ∧ opc ≤ 999) ∧ modeB vi mode line op opc wait = true ∧ findB fr fh = true ∧ (0 ≤ last ∧ last ≤ 3) ∧ ringOk ring = true ∧ undoOk undo = true ∧ (0 ≤ nav ∧ nav ≤ 1000000060) ∧ (0 ≤ hit ∧ hit ≤ 1000000060) ∧ (!decide (nav = 0) || emptyL own) = true ∧ (query.length : Int) ≤ 40 ∧ query.all pr = true ∧ searchB mode query hit back = true := by
  unfold edOkB at h
  simp only [Bool.and_eq_true, decide_eq_true_eq] at h
  obtain ⟨⟨⟨⟨⟨⟨⟨⟨⟨⟨⟨⟨⟨⟨⟨h1, h2⟩, h3⟩, h4⟩, h5⟩, h6⟩, h7⟩, h8⟩, h9⟩, h10⟩, h11⟩, h12⟩, h13⟩, h14⟩, h15⟩, h16⟩ := h
  exact ⟨h1, h2, h3, h4, h5, h6, h7, h8, h9, h10, h11, h12, h13, h14, h15, h16⟩

theorem edOkB_mk (h : lineOk line = true ∧ lineOk own = true ∧ lineOk back = true ∧ (0 ≤ count ∧ count ≤ 999) ∧ (0 ≤ opc ∧ opc ≤ 999) ∧ modeB vi mode line op opc wait = true ∧ findB fr fh = true ∧ (0 ≤ last ∧ last ≤ 3) ∧ ringOk ring = true ∧ undoOk undo = true ∧ (0 ≤ nav ∧ nav ≤ 1000000060) ∧ (0 ≤ hit ∧ hit ≤ 1000000060) ∧ (!decide (nav = 0) || emptyL own) = true ∧ (query.length : Int) ≤ 40 ∧ query.all pr = true ∧ searchB mode query hit back = true) :
    edOkB (vi, mode, line, count, op, opc, wait, fr, fh, last, ring, undo, nav, own, query, hit, back) = true := by
  obtain ⟨h1, h2, h3, h4, h5, h6, h7, h8, h9, h10, h11, h12, h13, h14, h15, h16⟩ := h
  unfold edOkB
  simp only [Bool.and_eq_true, decide_eq_true_eq]
  exact ⟨⟨⟨⟨⟨⟨⟨⟨⟨⟨⟨⟨⟨⟨⟨h1, h2⟩, h3⟩, h4⟩, h5⟩, h6⟩, h7⟩, h8⟩, h9⟩, h10⟩, h11⟩, h12⟩, h13⟩, h14⟩, h15⟩, h16⟩

theorem undoOk_spec {u : List (List Int × Int)} (h : undoOk u = true) : u.length ≤ 20 ∧ ∀ s ∈ u, lineOk s = true := by
  unfold undoOk at h
  simp only [Bool.and_eq_true, decide_eq_true_eq, List.all_eq_true] at h
  exact ⟨h.2, h.1⟩

theorem small_of (h : edOkB (vi, mode, line, count, op, opc, wait, fr, fh, last, ring, undo, nav, own, query, hit, back) = true) : Small 400 (vi, mode, line, count, op, opc, wait, fr, fh, last, ring, undo, nav, own, query, hit, back) := by
  obtain ⟨h1, h2, h3, h4, h5, h6, h7, h8, h9, h10, h11, h12, h13, h14, h15, h16⟩ := edOkB_all h
  obtain ⟨r1, r2⟩ := ringOk_spec h9
  obtain ⟨u1, u2⟩ := undoOk_spec h10
  exact ⟨(lineOk_at h1).2.2, ⟨by omega, fun s hs => allAdm_len (r2 s hs).1⟩, ⟨by omega, fun s hs => (lineOk_at (u2 s hs)).2.2⟩, (lineOk_at h2).2.2, by omega, (lineOk_at h3).2.2⟩

end

theorem putU_ok {u : List (List Int × Int)} {l : List Int × Int} (hu : undoOk u = true) (hl : lineOk l = true) : undoOk (putU u l) = true := by
  obtain ⟨u1, u2⟩ := undoOk_spec hu
  have hm : ∀ s ∈ u ++ [l], lineOk s = true := by
    intro s hs
    rcases List.mem_append.1 hs with hs | hs
    · exact u2 s hs
    · simp only [List.mem_singleton] at hs; subst hs; exact hl
  unfold putU
  split
  · exact hu
  · split
    · unfold undoOk
      simp only [Bool.and_eq_true, decide_eq_true_eq, List.all_eq_true]
      exact ⟨fun s hs => hm s (List.mem_of_mem_drop hs), by simp; omega⟩
    · unfold undoOk
      simp only [Bool.and_eq_true, decide_eq_true_eq, List.all_eq_true]
      exact ⟨hm, by simp; omega⟩

theorem setU_ok {line l : List Int × Int} {undo : List (List Int × Int)} {last nl : Int} (hu : undoOk undo = true) (hl : lineOk line = true) : undoOk (setU line l undo last nl) = true := by
  unfold setU
  split
  · exact putU_ok hu hl
  · exact hu

theorem clipAt_bound {mode : Int} {l : List Int × Int} (h : lineOk l = true) : 0 ≤ clipAt mode l ∧ clipAt mode l ≤ (l.1.length : Int) := by
  obtain ⟨a, b, _⟩ := lineOk_at h
  unfold clipAt
  split <;> omega

theorem clip_ok {mode : Int} {l : List Int × Int} (h : lineOk l = true) : lineOk (l.1, clipAt mode l) = true := lineOk_mk (allAdm_of h) (clipAt_bound h).1 (clipAt_bound h).2

section
variable (vi : Bool) (mode : Int) (line : List Int × Int) (count op opc wait fr fh last : Int) (ring : List (List Int)) (undo : List (List Int × Int)) (nav : Int) (own : List Int × Int) (query : List Int) (hit : Int) (back : List Int × Int)
  (hv : edOkB (vi, mode, line, count, op, opc, wait, fr, fh, last, ring, undo, nav, own, query, hit, back) = true)
include hv

theorem modeB_idle (l : List Int × Int) (hl : lineOk l = true) : modeB vi mode (l.1, clipAt mode l) 0 0 0 = true := by
  obtain ⟨h1, h2, h3, h4, h5, h6, h7, h8, h9, h10, h11, h12, h13, h14, h15, h16⟩ := edOkB_all hv
  obtain ⟨p0, p1, p2⟩ := lineOk_at hl
  unfold modeB at h6 ⊢
  simp only [Bool.and_eq_true, decide_eq_true_eq] at h6 ⊢
  obtain ⟨⟨⟨a1, a2, a3, a4, a5, a6, a7, a8⟩, _⟩, _⟩ := h6
  refine ⟨⟨⟨a1, a2, a3, a4, a5, fun hm => ?_, by simp, by simp⟩, by decide⟩, by decide⟩
  unfold atEnd clipAt
  by_cases c : mode = 2 ∧ l.2 = (l.1.length : Int) ∧ 0 < l.2
  · rw [if_pos c]
    have : ¬ (l.2 - 1 = (l.1.length : Int)) := by omega
    simp [this]
  · rw [if_neg c]
    by_cases e : l.2 = (l.1.length : Int)
    · have : ¬ 0 < (l.1.length : Int) := by
        intro hp; exact c ⟨hm, e, by omega⟩
      rw [decide_eq_false this]; rfl
    · rw [decide_eq_false e]; simp

theorem setE_ok (l : List Int × Int) (hl : lineOk l = true) (nl : Int) (hn : 0 ≤ nl ∧ nl ≤ 3) : edOkB (setE l nl (vi, mode, line, count, op, opc, wait, fr, fh, last, ring, undo, nav, own, query, hit, back)) = true := by
  obtain ⟨h1, h2, h3, h4, h5, h6, h7, h8, h9, h10, h11, h12, h13, h14, h15, h16⟩ := edOkB_all hv
  exact edOkB_mk ⟨clip_ok hl, h2, h3, by omega, by omega, modeB_idle vi mode line count op opc wait fr fh last ring undo nav own query hit back hv l hl, h7, hn, h9, setU_ok h10 h1, h11, h12, h13, h14, h15, h16⟩

theorem copyV_i : M_i_copyEd (vi, mode, line, count, op, opc, wait, fr, fh, last, ring, undo, nav, own, query, hit, back) = some (vi, mode, line, count, op, opc, wait, fr, fh, last, ring, undo, nav, own, query, hit, back) := by
  obtain ⟨h1, ⟨h2, h3⟩, ⟨h4, h5⟩, h6, h7, h8⟩ := small_le (M := 1048576) (by omega) (small_of hv)
  exact copyEd_i vi mode line count op opc wait fr fh last ring undo nav own query hit back h1 h2 h3 h4 h5 h6 h7 h8

theorem settled_i (nl : Int) : M_i_settled (vi, mode, line, count, op, opc, wait, fr, fh, last, ring, undo, nav, own, query, hit, back) nl = some (settledE nl (vi, mode, line, count, op, opc, wait, fr, fh, last, ring, undo, nav, own, query, hit, back)) := by
  unfold M_i_settled
  rw [bindO_of (copyV_i vi mode line count op opc wait fr fh last ring undo nav own query hit back hv)]
  rfl

theorem bell_i : M_i_bell (vi, mode, line, count, op, opc, wait, fr, fh, last, ring, undo, nav, own, query, hit, back) = some (settledE 0 (vi, mode, line, count, op, opc, wait, fr, fh, last, ring, undo, nav, own, query, hit, back), 1) := by
  unfold M_i_bell
  rw [bindO_of (settled_i vi mode line count op opc wait fr fh last ring undo nav own query hit back hv 0)]

theorem set_i (l : List Int × Int) (hl : lineOk l = true) (nl : Int) : M_i_set (vi, mode, line, count, op, opc, wait, fr, fh, last, ring, undo, nav, own, query, hit, back) l nl = some (setE l nl (vi, mode, line, count, op, opc, wait, fr, fh, last, ring, undo, nav, own, query, hit, back)) := by
  obtain ⟨h1, h2, h3, h4, h5, h6, h7, h8, h9, h10, h11, h12, h13, h14, h15, h16⟩ := edOkB_all hv
  obtain ⟨p0, p1, p2⟩ := lineOk_at hl
  obtain ⟨q0, q1, q2⟩ := lineOk_at h1
  obtain ⟨u1, u2⟩ := undoOk_spec h10
  unfold M_i_set
  rw [bindO_of (settled_i vi mode line count op opc wait fr fh last ring undo nav own query hit back hv nl)]
  simp only [bindO, joinO, settledE, setE]
  rw [same_i _ _ (by omega), copyLine_i (l.1, l.2) (by simp only; omega)]
  rw [undoPut_i undo line h10 h1 (by omega) (fun s h => by have := (lineOk_at (u2 s h)).2.2; omega) (by omega)]
  have hS : ∀ (X Y : Option EdT), (bif (bif (!(decide (l.1 = line.1))) then (!(bif (decide (nl = 1)) then (decide (last = 1)) else false)) else false) then X else Y) = if line.1 ≠ l.1 ∧ ¬ (nl = 1 ∧ last = 1) then X else Y := by
    intro X Y
    by_cases a : line.1 = l.1
    · by_cases b : nl = 1 <;> by_cases c : last = 1 <;> simp [a, b, c]
    · have a' : ¬ l.1 = line.1 := fun h => a h.symm
      by_cases b : nl = 1 <;> by_cases c : last = 1 <;> simp [a, a', b, c]
  have hc := inCommand_i (l.1, l.2) mode (by simp only; omega)
  simp only [hS, hc]
  unfold setU
  by_cases hq : line.1 ≠ l.1 ∧ ¬ (nl = 1 ∧ last = 1)
  · simp only [if_pos hq]
  · simp only [if_neg hq]

end

/-- A history that is valid. -/
def hOk (h : Int × List (List UInt8)) : Bool := decide (1 ≤ h.1 ∧ h.1 ≤ 1000000000 ∧ (h.2.length : Int) ≤ 60) && h.2.all fun s => decide (1 ≤ (s.length : Int) ∧ (s.length : Int) ≤ 1000)

theorem sHistOk_loop (h : Int × List (List UInt8)) (hl : (h.2.length : Int) ≤ 1048576) (b : Bool) : ∀ (m : Nat) (k : Int), 0 ≤ k → k ≤ (h.2.length : Int) → (h.2.length : Int) - k < m → 0 < m →
    fixF (M_s_HistOk_L1 h fun _ => some b) m k = some (b && (h.2.drop k.toNat).all fun s => decide (1 ≤ (s.length : Int) ∧ (s.length : Int) ≤ 1000)) := by
  intro m
  induction m with
  | zero => intro k _ _ _ h'; omega
  | succ m ih =>
    intro k hk hk' hm _
    simp only [fixF, M_s_HistOk_L1, guardO, Bool.cond_decide]
    by_cases h1 : k < (h.2.length : Int)
    · rw [if_pos h1, if_pos ⟨hk, h1⟩, W_eq (by omega) (by omega), drop_at hk h1, ih _ (by omega) (by omega) (by omega) (by omega), List.all_cons]
      by_cases c1 : ((at' h.2 k).length : Int) < 1
      · have : ¬ (1 ≤ ((at' h.2 k).length : Int) ∧ ((at' h.2 k).length : Int) ≤ 1000) := by omega
        rw [decide_eq_false this]
        simp [c1]
      · by_cases c2 : 1000 < ((at' h.2 k).length : Int)
        · have : ¬ (1 ≤ ((at' h.2 k).length : Int) ∧ ((at' h.2 k).length : Int) ≤ 1000) := by omega
          rw [decide_eq_false this]
          simp [c1, c2]
        · have : (1 ≤ ((at' h.2 k).length : Int) ∧ ((at' h.2 k).length : Int) ≤ 1000) := by omega
          rw [decide_eq_true this]
          simp [c1, c2]
    · rw [if_neg h1, List.drop_eq_nil_of_le (by omega)]
      simp

theorem sHistOk_eq (h : Int × List (List UInt8)) (hl : (h.2.length : Int) ≤ 1048576) : M_s_HistOk h = some (hOk h) := by
  unfold M_s_HistOk
  simp only [joinO]
  rw [sHistOk_loop h hl _ FUEL 0 (by omega) (by omega) (by rw [fuel_eq]; omega) (by rw [fuel_eq]; omega)]
  unfold hOk
  simp only [Int.toNat_zero, List.drop_zero]
  congr 2
  by_cases c1 : 1 ≤ h.1 <;> by_cases c2 : h.1 ≤ 1000000000 <;> by_cases c3 : (h.2.length : Int) ≤ 60 <;> simp [c1, c2, c3]

theorem iHistOk_loop (h : Int × List (List UInt8)) (hl : (h.2.length : Int) ≤ 1048576) : ∀ (m : Nat) (k : Int), 0 ≤ k → k ≤ (h.2.length : Int) → (h.2.length : Int) - k < m → 0 < m →
    fixF (M_i_HistOk_L1 h fun _ => some true) m k = some ((h.2.drop k.toNat).all fun s => decide (1 ≤ (s.length : Int) ∧ (s.length : Int) ≤ 1000)) := by
  intro m
  induction m with
  | zero => intro k _ _ _ h'; omega
  | succ m ih =>
    intro k hk hk' hm _
    simp only [fixF, M_i_HistOk_L1, guardO, Bool.cond_decide, M_i_in, bindO]
    by_cases h1 : k < (h.2.length : Int)
    · rw [if_pos h1, if_pos ⟨hk, h1⟩, W_eq (by omega) (by omega), drop_at hk h1, ih _ (by omega) (by omega) (by omega) (by omega), List.all_cons]
      by_cases c1 : 1 ≤ ((at' h.2 k).length : Int) <;> by_cases c2 : ((at' h.2 k).length : Int) ≤ 1000 <;> simp only [c1, c2, and_self, and_true, and_false, false_and, true_and, decide_true, decide_false, if_true, if_false, Bool.not_true, Bool.not_false, cond_true, cond_false, Bool.true_and, Bool.false_and]
    · rw [if_neg h1, List.drop_eq_nil_of_le (by omega)]
      simp

theorem iHistOk_eq (h : Int × List (List UInt8)) (hl : (h.2.length : Int) ≤ 1048576) : M_i_HistOk h = some (hOk h) := by
  unfold M_i_HistOk M_i_in
  simp only [joinO, bindO, Bool.cond_decide]
  rw [iHistOk_loop h hl FUEL 0 (by omega) (by omega) (by rw [fuel_eq]; omega) (by rw [fuel_eq]; omega)]
  unfold hOk
  simp only [Int.toNat_zero, List.drop_zero]
  by_cases c1 : 1 ≤ h.1 <;> by_cases c2 : h.1 ≤ 1000000000 <;> by_cases c3 : (h.2.length : Int) ≤ 60
  all_goals first
    | (have c4 : ¬ (60 < (h.2.length : Int)) := by omega); simp [c1, c2, c3, c4]
    | (have c4 : 60 < (h.2.length : Int) := by omega); simp [c1, c2, c3, c4]

def encL (r : Int) : List Int :=
  if ¬ (0 ≤ r ∧ r ≤ 1114111 ∧ (r < 55296 ∨ 57343 < r)) then [] else
  if r < 128 then [r] else if r < 2048 then [192 + r / 64, 128 + r % 64]
  else if r < 65536 then [224 + r / 4096, 128 + r / 64 % 64, 128 + r % 64]
  else [240 + r / 262144, 128 + r / 4096 % 64, 128 + r / 64 % 64, 128 + r % 64]

def enc (r : Int) : List UInt8 := (encL r).map u8

def r2 (x y : Int) : Int := (x - 192) * 64 + y - 128
def r3 (x y z : Int) : Int := ((x - 224) * 64 + y - 128) * 64 + z - 128
def r4 (x y z v : Int) : Int := (((x - 240) * 64 + y - 128) * 64 + z - 128) * 64 + v - 128

def E2 (x y : Int) : Prop := 194 ≤ x ∧ x ≤ 223 ∧ 128 ≤ y ∧ y ≤ 191
instance (x y : Int) : Decidable (E2 x y) := by unfold E2; infer_instance
def E3 (x y z : Int) : Prop := (224 ≤ x ∧ x ≤ 239 ∧ 128 ≤ y ∧ y ≤ 191 ∧ 128 ≤ z ∧ z ≤ 191) ∧ 2048 ≤ r3 x y z ∧ (r3 x y z < 55296 ∨ 57343 < r3 x y z)
instance (x y z : Int) : Decidable (E3 x y z) := by unfold E3; infer_instance
def E4 (x y z v : Int) : Prop := (240 ≤ x ∧ x ≤ 247 ∧ 128 ≤ y ∧ y ≤ 191 ∧ 128 ≤ z ∧ z ≤ 191 ∧ 128 ≤ v ∧ v ≤ 191) ∧ 65536 ≤ r4 x y z v ∧ r4 x y z v ≤ 1114111
instance (x y z v : Int) : Decidable (E4 x y z v) := by unfold E4; infer_instance

def bi (s : List UInt8) (i : Int) : Int := ((at' s i).toNat : Int)

def rd (s : List UInt8) : Int × Int :=
  if s.length < 1 then (0, 0) else
  if bi s 0 < 128 then (bi s 0, 1) else
  if s.length < 2 then (0, 0) else
  if E2 (bi s 0) (bi s 1) then (r2 (bi s 0) (bi s 1), 2) else
  if s.length < 3 then (0, 0) else
  if E3 (bi s 0) (bi s 1) (bi s 2) then (r3 (bi s 0) (bi s 1) (bi s 2), 3) else
  if s.length < 4 then (0, 0) else
  if E4 (bi s 0) (bi s 1) (bi s 2) (bi s 3) then (r4 (bi s 0) (bi s 1) (bi s 2) (bi s 3), 4) else (0, 0)

/-- The runes of some bytes: with so much fuel. -/
def runes : Nat → List UInt8 → Option (List Int)
  | 0, _ => some []
  | m + 1, s => if s.length = 0 then some [] else if (rd s).2 = 0 then none else (runes m (s.drop (rd s).2.toNat)).map ((rd s).1 :: ·)

def putX (l : List Int × Int) (t : List Int) : List Int × Int := (sub' l.1 0 l.2 ++ t ++ sub' l.1 l.2 (l.1.length : Int), l.2 + (t.length : Int))
def putR (l : List Int × Int) (t : List Int) : (List Int × Int) × Bool := if lineOk (putX l t) then (putX l t, true) else (([], 0), false)

theorem sub_len_le {α : Type} (l : List α) (a b : Int) : (sub' l a b).length ≤ l.length := by
  unfold sub'
  simp only [List.length_take, List.length_drop]
  omega
theorem sub_len_eq {α : Type} (l : List α) (a b : Int) (h : 0 ≤ a ∧ a ≤ b ∧ b ≤ (l.length : Int)) : ((sub' l a b).length : Int) = b - a := by
  unfold sub'
  simp only [List.length_take, List.length_drop]
  omega

theorem putX_len {l : List Int × Int} (h : lineOk l = true) (t : List Int) : (putX l t).1.length = l.1.length + t.length := by
  obtain ⟨p0, p1, p2⟩ := lineOk_at h
  have a := sub_len_eq l.1 0 l.2 (by omega)
  have b := sub_len_eq l.1 l.2 (l.1.length : Int) (by omega)
  simp only [putX, List.length_append]
  omega

theorem putR_ok {l : List Int × Int} {t : List Int} (h : (putR l t).2 = true) : lineOk (putR l t).1 = true := by
  unfold putR at h ⊢
  split at h
  · rename_i hq; rw [if_pos hq]; exact hq
  · cases h

theorem linePut_i (l : List Int × Int) (t : List Int) (h : lineOk l = true) (ht : t.length ≤ 1000) : M_i_LinePut l t = some (putR l t) := by
  obtain ⟨p0, p1, p2⟩ := lineOk_at h
  have hx := putX_len h t
  have e1 := lineOk_i (putX l t) (by omega)
  have s1 := sub_len_le l.1 0 l.2
  have s2 := sub_len_le l.1 l.2 (l.1.length : Int)
  unfold M_i_LinePut putR
  rw [bindO_of (lineOk_i l (by omega)), h, W_eq (by omega) (by omega)]
  by_cases hc : 400 < (t.length : Int)
  · have : lineOk (putX l t) = false := by
      cases hq : lineOk (putX l t)
      · rfl
      · have := (lineOk_at hq).2.2; omega
    rw [this, decide_eq_true hc]; rfl
  · rw [decide_eq_false hc]
    simp only [Bool.not_true, cond_false, joinO, guardO]
    rw [if_pos (by omega), bindO_of (copyInts_i _ (by omega)), if_pos (by omega), if_pos (by omega), if_pos (by rw [List.length_append]; omega)]
    have e1' : M_i_LineOk (sub' l.1 0 l.2 ++ t ++ sub' l.1 l.2 (l.1.length : Int), l.2 + (t.length : Int)) = some (lineOk (putX l t)) := e1
    rw [bindO_of e1']
    cases lineOk (putX l t) <;> rfl

theorem rep_snoc (r : Int) (k : Int) (h : 0 ≤ k) : List.replicate k.toNat r ++ [r] = List.replicate (k + 1).toNat r := by
  rw [show (k + 1).toNat = k.toNat + 1 by omega, List.replicate_succ']

theorem times_loop (r n : Int) (hn : n ≤ 1000) (j : List Int → Option (List Int)) : ∀ (m : Nat) (k : Int), 0 ≤ k → k ≤ n → k ≤ 401 → n - k < m →
    fixF (M_i_times_L1 [r] n j) m (List.replicate k.toNat r, k) = j (List.replicate (min n 401).toNat r) := by
  intro m
  induction m with
  | zero => intro k _ _ _ h; omega
  | succ m ih =>
    intro k h0 h1 h2 hm
    simp only [fixF, M_i_times_L1, guardO, Bool.cond_decide]
    rw [W_eq (x := k + 1) (by omega) (by omega), rep_snoc r k h0]
    have hl : ((List.replicate k.toNat r).length : Int) = k := by rw [List.length_replicate]; omega
    by_cases hc : k < n ∧ k ≤ 400
    · rw [hl, show (if k < n then decide (k ≤ 400) else false) = true by simp [hc], cond_true, if_pos (by simp; omega)]
      exact ih _ (by omega) (by omega) (by omega) (by omega)
    · rw [hl, show (if k < n then decide (k ≤ 400) else false) = false by by_cases h3 : k < n <;> simp [h3]; omega, cond_false, show min n 401 = k by omega]

theorem times_i (r n : Int) (h0 : 0 ≤ n) (hn : n ≤ 1000) : M_i_times [r] n = some (List.replicate (min n 401).toNat r) := by
  unfold M_i_times
  simp only [joinO]
  exact times_loop r n hn _ FUEL 0 (by omega) h0 (by omega) (by rw [fuel_eq]; omega)

theorem bindO_tr {α β : Type} {m : Option α} {k : α → Option β} {y : α} {z : Option β} (h : m = some y) (hk : k y = z) : bindO m k = z := (bindO_of h).trans hk

def bellE (e : EdT) : EdT × Int := (settledE 0 e, 1)
def insE (t : List Int) (nl : Int) (e : EdT) : EdT × Int := if (putR e.2.2.1 t).2 = true then (setE (putR e.2.2.1 t).1 nl e, 0) else bellE e
section
variable (e : EdT) (hv : edOkB e = true)
include hv
theorem eOk : lineOk e.2.2.1 = true ∧ (0 ≤ e.2.2.2.1 ∧ e.2.2.2.1 ≤ 999) ∧ ringOk e.2.2.2.2.2.2.2.2.2.2.1 = true ∧ (0 ≤ e.2.2.2.2.2.2.2.2.2.1 ∧ e.2.2.2.2.2.2.2.2.2.1 ≤ 3) := by
  obtain ⟨vi, mode, line, count, op, opc, wait, fr, fh, last, ring, undo, nav, own, query, hit, back⟩ := e
  obtain ⟨h1, h2, h3, h4, h5, h6, h7, h8, h9, h10, h11, h12, h13, h14, h15, h16⟩ := edOkB_all hv
  exact ⟨h1, h4, h9, h8⟩
theorem smallV : Small 400 e := by
  obtain ⟨vi, mode, line, count, op, opc, wait, fr, fh, last, ring, undo, nav, own, query, hit, back⟩ := e
  exact small_of hv
theorem bellV_i : M_i_bell e = some (bellE e) := by
  obtain ⟨vi, mode, line, count, op, opc, wait, fr, fh, last, ring, undo, nav, own, query, hit, back⟩ := e
  exact bell_i vi mode line count op opc wait fr fh last ring undo nav own query hit back hv
theorem setV_i (l : List Int × Int) (hl : lineOk l = true) (nl : Int) : M_i_set e l nl = some (setE l nl e) := by
  obtain ⟨vi, mode, line, count, op, opc, wait, fr, fh, last, ring, undo, nav, own, query, hit, back⟩ := e
  exact set_i vi mode line count op opc wait fr fh last ring undo nav own query hit back hv l hl nl
theorem copyEV_i : M_i_copyEd e = some e := by
  obtain ⟨vi, mode, line, count, op, opc, wait, fr, fh, last, ring, undo, nav, own, query, hit, back⟩ := e
  exact copyV_i vi mode line count op opc wait fr fh last ring undo nav own query hit back hv
theorem setEV_ok (l : List Int × Int) (hl : lineOk l = true) (nl : Int) (hn : 0 ≤ nl ∧ nl ≤ 3) : edOkB (setE l nl e) = true := by
  obtain ⟨vi, mode, line, count, op, opc, wait, fr, fh, last, ring, undo, nav, own, query, hit, back⟩ := e
  exact setE_ok vi mode line count op opc wait fr fh last ring undo nav own query hit back hv l hl nl hn
theorem ins_i (t : List Int) (ht : t.length ≤ 1000) (nl : Int) : M_i_insert e t nl = some (insE t nl e) := by
  obtain ⟨hl, _⟩ := eOk e hv
  have hp := linePut_i e.2.2.1 t hl ht
  have ho := @putR_ok e.2.2.1 t
  unfold M_i_insert insE
  rw [bindO_of hp]
  generalize putR e.2.2.1 t = q at ho
  obtain ⟨l, b⟩ := q
  cases b
  · exact bindO_tr (bellV_i e hv) rfl
  · exact bindO_tr (setV_i e hv l (ho rfl) nl) rfl

end

def kOk (k : Int × Int) : Bool :=
  if k.1 = 1 then pr k.2
  else if k.1 = 2 then decide (k.2 = 95 ∨ (97 ≤ k.2 ∧ k.2 ≤ 122 ∧ k.2 ≠ 104 ∧ k.2 ≠ 105 ∧ k.2 ≠ 106 ∧ k.2 ≠ 109))
  else if k.1 = 3 then decide (33 ≤ k.2 ∧ k.2 ≤ 126)
  else decide (4 ≤ k.1 ∧ k.1 ≤ 16 ∧ k.2 = 0)

theorem keyOk_i (k : Int × Int) : M_i_KeyOk k = some (kOk k) := by
  unfold M_i_KeyOk kOk
  simp only [printable_i, bindO, Bool.cond_decide, M_i_isLower, M_i_in, callO_of]
  by_cases h1 : k.1 = 1
  · rw [if_pos h1, if_pos h1]
  rw [if_neg h1, if_neg h1]
  by_cases h2 : k.1 = 2
  · rw [if_pos h2, if_pos h2]
    congr 1
    by_cases q1 : k.2 = 95
    · simp [q1]
    · by_cases q2 : 97 ≤ k.2 <;> by_cases q3 : k.2 ≤ 122 <;> simp [q1, q2, q3, Bool.and_assoc]
  rw [if_neg h2, if_neg h2]
  by_cases h3 : k.1 = 3
  · rw [if_pos h3, if_pos h3]
    congr 1
    by_cases q2 : 33 ≤ k.2 <;> simp [q2]
  rw [if_neg h3, if_neg h3]
  congr 1
  by_cases q2 : 4 ≤ k.1 <;> by_cases q3 : k.1 ≤ 16 <;> simp [q2, q3]

theorem edOkV_i (e : EdT) (hs : Small 100000000 e) : M_i_EdOk e = some (edOkB e) := by
  obtain ⟨vi, mode, line, count, op, opc, wait, fr, fh, last, ring, undo, nav, own, query, hit, back⟩ := e
  exact edOk_i vi mode line count op opc wait fr fh last ring undo nav own query hit back hs
section
variable (h : Int × List (List UInt8)) (hh : (h.2.length : Int) ≤ 1048576) (k : Int × Int) (e : EdT) (hs : Small 1048576 e)
include hh hs
theorem canKey_i : M_i_canKey e h k = some (edOkB e && hOk h && kOk k) := by
  unfold M_i_canKey
  rw [bindO_of (edOkV_i e (small_le (by omega) hs)), iHistOk_eq h hh, callO_of, keyOk_i, callO_of]
  cases edOkB e <;> cases hOk h <;> cases kOk k <;> rfl

end

def CurOk (c : List UInt8 × Int × Int) : Prop := 0 ≤ c.2.1 ∧ c.2.1 ≤ (c.1.length : Int) ∧ (c.1.length : Int) ≤ 1048576

theorem and_bound (x : BitVec 64) (n : Nat) (hn : n < 2 ^ 64) : (x &&& BitVec.ofInt 64 (n : Int)).toNat ≤ n := by
  rw [BitVec.toNat_and]
  have : (BitVec.ofInt 64 (n : Int)).toNat = n := by
    rw [BitVec.toNat_ofInt]
    have h : ((n : Int) % ((2 ^ 64 : Nat) : Int)) = n := Int.emod_eq_of_lt (by omega) (by exact_mod_cast hn)
    rw [h]; rfl
  rw [this]
  exact Nat.and_le_right

theorem and255 (x : BitVec 64) : 0 ≤ W (((x &&& BitVec.ofInt 64 255).toNat : Nat) : Int) ∧ W (((x &&& BitVec.ofInt 64 255).toNat : Nat) : Int) ≤ 255 := by
  have h := and_bound x 255 (by decide)
  have h' : (x &&& BitVec.ofInt 64 255).toNat ≤ 255 := h
  rw [W_eq (by omega) (by omega)]
  omega

theorem byte_ok (c : List UInt8 × Int × Int) (hc : CurOk c) : ∃ y i h, M_s_l01Byte c = some (y, (c.1, i, h)) ∧ CurOk (c.1, i, h) ∧ 0 ≤ y ∧ y ≤ 255 := by
  obtain ⟨h1, h2, h3⟩ := hc
  unfold M_s_l01Byte
  simp only [joinO, Bool.cond_decide, guardO]
  split
  · rw [if_pos ⟨h1, by assumption⟩]
    exact ⟨_, _, _, rfl, ⟨by simp only; rw [W_eq (by omega) (by omega)]; omega, by simp only; rw [W_eq (by omega) (by omega)]; omega, h3⟩, and255 _⟩
  · exact ⟨_, _, _, rfl, ⟨h1, h2, h3⟩, and255 _⟩

theorem below_ok (c : List UInt8 × Int × Int) (hc : CurOk c) (n : Int) : ∃ y i h, M_s_l01Below c n = some (y, (c.1, i, h)) ∧ CurOk (c.1, i, h) ∧ 0 ≤ y ∧ (0 < n → y < n) ∧ (n ≤ 0 → y = 0) := by
  unfold M_s_l01Below
  simp only [Bool.cond_decide]
  split
  · exact ⟨0, c.2.1, c.2.2, rfl, hc, by omega, by omega, by omega⟩
  · split
    · obtain ⟨y, i, h, e, ho, y0, y1⟩ := byte_ok _ hc
      have e' : M_s_l01Byte (c.1, c.2.1, c.2.2) = _ := e
      rw [bindO_of e']
      simp only [guardO]
      rw [if_pos (by omega)]
      exact ⟨_, i, h, rfl, ho, Int.tmod_nonneg _ y0, fun hn => Int.tmod_lt_of_pos _ hn, by omega⟩
    · obtain ⟨ya, ia, ha, e1, o1, a0, a1⟩ := byte_ok _ hc
      obtain ⟨yb, ib, hb, e2, o2, b0, b1⟩ := byte_ok _ o1
      obtain ⟨yc, ic, hcc, e3, o3, c0, c1⟩ := byte_ok _ o2
      obtain ⟨yd, id, hd, e4, o4, d0, d1⟩ := byte_ok _ o3
      have e1' : M_s_l01Byte (c.1, c.2.1, c.2.2) = _ := e1
      rw [bindO_of e1', bindO_of e2, bindO_of e3, bindO_of e4]
      simp only [guardO]
      rw [if_pos (by omega)]
      rw [W_eq (x := ya * 16777216) (by omega) (by omega), W_eq (x := yb * 65536) (by omega) (by omega), W_eq (x := yc * 256) (by omega) (by omega), W_eq (x := ya * 16777216 + yb * 65536) (by omega) (by omega),
        W_eq (x := ya * 16777216 + yb * 65536 + yc * 256) (by omega) (by omega), W_eq (x := ya * 16777216 + yb * 65536 + yc * 256 + yd) (by omega) (by omega)]
      exact ⟨_, id, hd, rfl, o4, Int.tmod_nonneg _ (by omega), fun hn => Int.tmod_lt_of_pos _ hn, by omega⟩

theorem new_loop (l : List UInt8) (hl : (l.length : Int) ≤ 1048576) : ∀ (m : Nat) (h k : Int), 0 ≤ k → k ≤ 4000 → 4000 - k < m → ∃ v, fixF (M_s_l01New_L1 l fun x15 => some (l, 0, x15)) m (h, k) = some (l, 0, v) := by
  intro m
  induction m with
  | zero => intro h k _ _ h'; omega
  | succ m ih =>
    intro h k hk hk' hm
    simp only [fixF, M_s_l01New_L1, guardO, Bool.cond_decide]
    by_cases h1 : k < (l.length : Int)
    · by_cases h2 : k < 4000
      · simp only [h1, h2, hk, if_true, and_self, decide_true]
        rw [W_eq (x := k + 1) (by omega) (by omega)]
        exact ih _ _ (by omega) (by omega) (by omega)
      · simp only [h1, h2, if_true, decide_false, Bool.false_eq_true, if_false]
        exact ⟨h, rfl⟩
    · simp only [h1, if_false, cond_false]
      exact ⟨h, rfl⟩

theorem new_ok (l : List UInt8) (hl : (l.length : Int) ≤ 1048576) : ∃ h, M_s_l01New l = some (l, 0, h) ∧ CurOk (l, 0, h) := by
  unfold M_s_l01New
  simp only [joinO]
  obtain ⟨v, hv⟩ := new_loop l hl FUEL (W (600128 + (l.length : Int))) 0 (by omega) (by omega) (by rw [fuel_eq]; omega)
  exact ⟨v, hv, ⟨by simp, by simp, hl⟩⟩

/-- The runes that are drawn. -/
def Drawn (r : Int) : Prop := r ∈ ([97, 98, 99, 120, 49, 50, 32, 32, 46, 45, 95, 233, 4352, 20013, 128512, 47] : List Int) ∨ (33 ≤ r ∧ r ≤ 126) ∨ (160 ≤ r ∧ r ≤ 459) ∨ (19968 ≤ r ∧ r ≤ 21967)

theorem rune_ok (c : List UInt8 × Int × Int) (hc : CurOk c) : ∃ y i h, M_s_l02Rune c = some (y, (c.1, i, h)) ∧ CurOk (c.1, i, h) ∧ Drawn y := by
  unfold M_s_l02Rune
  obtain ⟨y, i, h, e, ho, y0, y1, _⟩ := below_ok _ hc 12
  have e' : M_s_l01Below (c.1, c.2.1, c.2.2) 12 = _ := e
  rw [bindO_of e']
  simp only [Bool.cond_decide]
  have two : ∀ n, 0 < n → ∃ y2 i2 h2, M_s_l01Below (c.1, i, h) n = some (y2, (c.1, i2, h2)) ∧ CurOk (c.1, i2, h2) ∧ 0 ≤ y2 ∧ y2 < n := by
    intro n hn
    obtain ⟨y2, i2, h2, e2, o2, p0, p1, _⟩ := below_ok _ ho n
    exact ⟨y2, i2, h2, e2, o2, p0, p1 hn⟩
  split
  · obtain ⟨y2, i2, h2, e2, o2, p0, p1⟩ := two 16 (by omega)
    rw [bindO_of e2]
    simp only [guardO]
    rw [if_pos ⟨p0, p1⟩]
    exact ⟨_, i2, h2, rfl, o2, .inl (List.mem_of_getElem? (at_some ⟨p0, p1⟩))⟩
  · split
    · obtain ⟨y2, i2, h2, e2, o2, p0, p1⟩ := two 94 (by omega)
      rw [bindO_of e2]
      simp only
      rw [W_eq (by omega) (by omega)]
      exact ⟨_, i2, h2, rfl, o2, .inr (.inl ⟨by omega, by omega⟩)⟩
    · split
      · obtain ⟨y2, i2, h2, e2, o2, p0, p1⟩ := two 300 (by omega)
        rw [bindO_of e2]
        simp only
        rw [W_eq (by omega) (by omega)]
        exact ⟨_, i2, h2, rfl, o2, .inr (.inr (.inl ⟨by omega, by omega⟩))⟩
      · obtain ⟨y2, i2, h2, e2, o2, p0, p1⟩ := two 2000 (by omega)
        rw [bindO_of e2]
        simp only
        rw [W_eq (by omega) (by omega)]
        exact ⟨_, i2, h2, rfl, o2, .inr (.inr (.inr ⟨by omega, by omega⟩))⟩

theorem runes_loop (c : List UInt8 × Int × Int) : ∀ (m : Nat) (o : List Int) (n i h : Int), CurOk (c.1, i, h) → 0 ≤ n → n ≤ 100000 → (o.length : Int) + n ≤ 100000 → n < m → (∀ r ∈ o, Drawn r) →
    ∃ l i' h', fixF (M_s_l02Runes_L1 c fun (x33, x36, x37) => some (x33, (c.1, x36, x37))) m (o, n, i, h) = some (l, (c.1, i', h')) ∧ CurOk (c.1, i', h') ∧ (l.length : Int) = o.length + n ∧ ∀ r ∈ l, Drawn r := by
  intro m
  induction m with
  | zero => intro o n i h _ _ _ _ hm; omega
  | succ m ih =>
    intro o n i h hc hn hn' ho hm hd
    simp only [fixF, M_s_l02Runes_L1, Bool.cond_decide]
    by_cases h1 : 0 < n
    · rw [if_pos h1]
      obtain ⟨y, i2, h2, e, o2, dy⟩ := rune_ok _ hc
      have e' : M_s_l02Rune (c.1, i, h) = some (y, (c.1, i2, h2)) := e
      rw [bindO_of e']
      simp only [guardO]
      rw [if_pos (by simp; omega), W_eq (by omega) (by omega)]
      obtain ⟨l, i', h', r1, r2, r3, r4⟩ := ih (o ++ [y]) (n - 1) i2 h2 o2 (by omega) (by omega) (by simp; omega) (by omega) (by
        intro r hr
        rcases List.mem_append.1 hr with hr | hr
        · exact hd r hr
        · simp only [List.mem_singleton] at hr; subst hr; exact dy)
      exact ⟨l, i', h', r1, r2, by simp at r3; omega, r4⟩
    · rw [if_neg h1]
      exact ⟨o, i, h, rfl, hc, by omega, hd⟩

theorem runes_ok (c : List UInt8 × Int × Int) (hc : CurOk c) (most : Int) (hm : 0 ≤ most) (hm' : most ≤ 1000) : ∃ l i h, M_s_l02Runes c most = some (l, (c.1, i, h)) ∧ CurOk (c.1, i, h) ∧ (l.length : Int) ≤ most ∧ ∀ r ∈ l, Drawn r := by
  unfold M_s_l02Runes
  rw [W_eq (by omega) (by omega)]
  obtain ⟨y, i, h, e, ho, y0, y1, _⟩ := below_ok _ hc (most + 1)
  have e' : M_s_l01Below (c.1, c.2.1, c.2.2) (most + 1) = _ := e
  rw [bindO_of e']
  simp only [joinO]
  have := y1 (by omega)
  obtain ⟨l, i', h', r1, r2, r3, r4⟩ := runes_loop c FUEL [] y i h ho y0 (by omega) (by simp; omega) (by rw [fuel_eq]; omega) (by simp)
  exact ⟨l, i', h', r1, r2, by simp at r3; omega, r4⟩

/-- The runes of a line that is drawn. -/
def LineR (r : Int) : Prop := Drawn r ∨ r = 9 ∨ r = 10 ∨ (65 ≤ r ∧ r ≤ 90)

theorem set_all {p : Int → Prop} {l : List Int} {i : Nat} {v : Int} (h : ∀ r ∈ l, p r) (hv : p v) : ∀ r ∈ List.set l i v, p r := by
  intro r hr
  rcases List.mem_or_eq_of_mem_set hr with h' | h'
  · exact h r h'
  · subst h'; exact hv

theorem l13_loop (c : List UInt8 × Int × Int) (t : List Int) (ht : (t.length : Int) ≤ 1000) : ∀ (m : Nat) (u : List Int) (k i h : Int), CurOk (c.1, i, h) → 0 ≤ k → k ≤ (t.length : Int) → u.length = t.length → (t.length : Int) - k < m → 0 < m → (∀ r ∈ u, LineR r) →
    ∃ l i' h', fixF (M_s_l13Runes_L1 c t fun (x101, x104, x105) => some (x101, (c.1, x104, x105))) m (u, k, i, h) = some (l, (c.1, i', h')) ∧ CurOk (c.1, i', h') ∧ l.length = t.length ∧ ∀ r ∈ l, LineR r := by
  intro m
  induction m with
  | zero => intro u k i h _ _ _ _ _ hm; omega
  | succ m ih =>
    intro u k i h hc hk hk' hu hm _ hd
    simp only [fixF, M_s_l13Runes_L1, Bool.cond_decide, joinO]
    by_cases h1 : k < (t.length : Int)
    · rw [if_pos h1]
      obtain ⟨y, i2, h2, e, o2, y0, y1, _⟩ := below_ok _ hc 14
      have e' : M_s_l01Below (c.1, i, h) 14 = some (y, (c.1, i2, h2)) := e
      rw [bindO_of e']
      simp only [guardO]
      rw [W_eq (x := k + 1) (by omega) (by omega)]
      have step : ∀ u' i3 h3, CurOk (c.1, i3, h3) → u'.length = t.length → (∀ r ∈ u', LineR r) →
          ∃ l i' h', fixF (M_s_l13Runes_L1 c t fun (x101, x104, x105) => some (x101, (c.1, x104, x105))) m (u', k + 1, i3, h3) = some (l, (c.1, i', h')) ∧ CurOk (c.1, i', h') ∧ l.length = t.length ∧ ∀ r ∈ l, LineR r :=
        fun u' i3 h3 q1 q2 q3 => ih u' (k + 1) i3 h3 q1 (by omega) (by omega) q2 (by omega) (by omega) q3
      by_cases c0 : y = 0
      · subst c0
        simp only [if_true]
        rw [if_pos ⟨hk, by omega⟩]
        simp only [show ¬ ((0 : Int) = 1) by decide, show ¬ ((0 : Int) = 2) by decide, if_false]
        exact step _ _ _ o2 (by simpa using hu) (set_all hd (.inr (.inl rfl)))
      · simp only [c0, if_false]
        by_cases c1 : y = 1
        · subst c1
          simp only [if_true]
          rw [if_pos ⟨hk, by omega⟩]
          simp only [show ¬ ((1 : Int) = 2) by decide, if_false]
          exact step _ _ _ o2 (by simpa using hu) (set_all hd (.inr (.inr (.inl rfl))))
        · simp only [c1, if_false]
          by_cases c2 : y = 2
          · subst c2
            simp only [if_true]
            obtain ⟨y3, i3, h3, e3, o3, p0, p1, _⟩ := below_ok _ o2 26
            have e3' : M_s_l01Below (c.1, i2, h2) 26 = some (y3, (c.1, i3, h3)) := e3
            rw [bindO_of e3']
            simp only
            have := p1 (by omega)
            rw [if_pos ⟨hk, by omega⟩, W_eq (by omega) (by omega)]
            exact step _ _ _ o3 (by simpa using hu) (set_all hd (.inr (.inr (.inr ⟨by omega, by omega⟩))))
          · simp only [c2, if_false]
            exact step _ _ _ o2 hu hd
    · rw [if_neg h1]
      exact ⟨u, i, h, rfl, hc, hu, hd⟩

theorem l13_ok (c : List UInt8 × Int × Int) (hc : CurOk c) (most : Int) (hm : 0 ≤ most) (hm' : most ≤ 1000) : ∃ l i h, M_s_l13Runes c most = some (l, (c.1, i, h)) ∧ CurOk (c.1, i, h) ∧ (l.length : Int) ≤ most ∧ ∀ r ∈ l, LineR r := by
  unfold M_s_l13Runes
  obtain ⟨t, i, h, e, ho, t1, t2⟩ := runes_ok _ hc most hm hm'
  have e' : M_s_l02Runes (c.1, c.2.1, c.2.2) most = _ := e
  rw [bindO_of e']
  simp only [joinO]
  obtain ⟨l, i', h', r1, r2, r3, r4⟩ := l13_loop c t (by omega) FUEL t 0 i h ho (by omega) (by omega) rfl (by rw [fuel_eq]; omega) (by rw [fuel_eq]; omega) (fun r hr => .inl (t2 r hr))
  exact ⟨l, i', h', r1, r2, by omega, r4⟩

theorem l13Draw_ok (c : List UInt8 × Int × Int) (hc : CurOk c) : ∃ t a i h, M_s_l13Draw c = some ((t, a), (c.1, i, h)) ∧ CurOk (c.1, i, h) ∧ (t.length : Int) ≤ 16 ∧ (∀ r ∈ t, LineR r) ∧ 0 ≤ a ∧ a ≤ (t.length : Int) := by
  unfold M_s_l13Draw
  obtain ⟨t, i, h, e, ho, t1, t2⟩ := l13_ok _ hc 16 (by omega) (by omega)
  have e' : M_s_l13Runes (c.1, c.2.1, c.2.2) 16 = _ := e
  rw [bindO_of e']
  simp only
  rw [W_eq (by omega) (by omega)]
  obtain ⟨y, i2, h2, e2, o2, y0, y1, _⟩ := below_ok _ ho ((t.length : Int) + 1)
  have e2' : M_s_l01Below (c.1, i, h) ((t.length : Int) + 1) = _ := e2
  rw [bindO_of e2']
  have := y1 (by omega)
  exact ⟨t, y, i2, h2, rfl, o2, t1, t2, y0, by omega⟩

theorem lineR_adm {r : Int} (h : LineR r) : adm r = true := by
  have hp : ∀ x, Drawn x → adm x = true := by
    intro x hx
    have : pr x = true := by
      unfold pr
      rcases hx with h | h | h | h
      · simp only [List.mem_cons, List.not_mem_nil, or_false] at h
        rcases h with h | h | h | h | h | h | h | h | h | h | h | h | h | h | h | h <;> subst h <;> decide
      · exact decide_eq_true (by omega)
      · exact decide_eq_true (by omega)
      · exact decide_eq_true (by omega)
    unfold adm; rw [this]; rfl
  rcases h with h | h | h | h
  · exact hp r h
  · subst h; decide
  · subst h; decide
  · exact hp r (.inr (.inl (by omega)))
theorem lineR_all {t : List Int} (h : ∀ r ∈ t, LineR r) (hl : t.length ≤ 400) : allAdm t = true := by
  unfold allAdm
  rw [Bool.and_eq_true]
  exact ⟨List.all_eq_true.2 fun r hr => lineR_adm (h r hr), decide_eq_true hl⟩

theorem ringDraw_loop (c : List UInt8 × Int × Int) : ∀ (m : Nat) (n : Int) (r : List (List Int)) (i h : Int), CurOk (c.1, i, h) → 0 ≤ n → n ≤ 100 → ringOk r = true → n < m →
    ∃ r' i' h', fixF (M_s_l15Ring_L1 c fun (x41, x44, x45) => some (x41, (c.1, x44, x45))) m (n, r, i, h) = some (r', (c.1, i', h')) ∧ CurOk (c.1, i', h') ∧ ringOk r' = true := by
  intro m
  induction m with
  | zero => intro n r i h _ _ _ _ hm; omega
  | succ m ih =>
    intro n r i h hc hn hn' hr hm
    simp only [fixF, M_s_l15Ring_L1, Bool.cond_decide]
    by_cases h1 : 0 < n
    · rw [if_pos h1]
      obtain ⟨t, i2, h2, e, o2, t1, t2⟩ := l13_ok _ hc 5 (by omega) (by omega)
      have e' : M_s_l13Runes (c.1, i, h) 5 = some (t, (c.1, i2, h2)) := e
      rw [bindO_of e']
      obtain ⟨y, i3, h3, e3, o3, y0, y1, _⟩ := below_ok _ o2 3
      have e3' : M_s_l01Below (c.1, i2, h2) 3 = some (y, (c.1, i3, h3)) := e3
      have y1 := y1 (by omega)
      simp only
      rw [bindO_of e3']
      have ha := lineR_all t2 (by omega)
      rw [bindO_of (ringPut_s r t y hr ha (by omega)), W_eq (by omega) (by omega)]
      exact ih (n - 1) _ i3 h3 o3 (by omega) (by omega) (ringPutR_ok hr ha) (by omega)
    · rw [if_neg h1]
      exact ⟨r, i, h, rfl, hc, hr⟩

theorem ringDraw_ok (c : List UInt8 × Int × Int) (hc : CurOk c) : ∃ r i h, M_s_l15Ring c = some (r, (c.1, i, h)) ∧ CurOk (c.1, i, h) ∧ ringOk r = true := by
  unfold M_s_l15Ring
  obtain ⟨y, i, h, e, ho, y0, y1, _⟩ := below_ok _ hc 8
  have e' : M_s_l01Below c 8 = _ := e
  rw [bindO_of e']
  have y1 := y1 (by omega)
  simp only [joinO]
  exact ringDraw_loop c FUEL y [] i h ho y0 (by omega) (by decide) (by rw [fuel_eq]; omega)

theorem text_ok (c : List UInt8 × Int × Int) (hc : CurOk c) : ∃ y i h, M_s_l05Text c = some (y, (c.1, i, h)) ∧ CurOk (c.1, i, h) ∧ 1 ≤ y.length ∧ y.length ≤ 16 := by
  unfold M_s_l05Text
  obtain ⟨y, i, h, e, ho, y0, y1, _⟩ := below_ok _ hc 12
  have e' : M_s_l01Below c 12 = _ := e
  rw [bindO_of e']
  have y1 := y1 (by omega)
  simp only [guardO]
  rw [if_pos ⟨y0, y1⟩]
  refine ⟨_, i, h, rfl, ho, ?_⟩
  have key : ∀ t ∈ (([([108, 115] : List UInt8), ([101, 99, 104, 111, 32, 97] : List UInt8), ([99, 97, 116, 32, 98] : List UInt8), ([97, 32, 124, 32, 98] : List UInt8), ([120, 61, 49] : List UInt8), ([105, 102, 32, 97, 59, 32, 116, 104, 101, 110, 32, 98, 59, 32, 102, 105] : List UInt8), ([101, 99, 104, 111, 32, 39, 97, 10, 98, 39] : List UInt8), ([109, 97, 107, 101] : List UInt8), ([108, 115, 32, 45, 108] : List UInt8), ([101, 99, 104, 111, 32, 195, 169] : List UInt8), ([103, 105, 116, 32, 108, 111, 103] : List UInt8), ([119] : List UInt8)] : List (List UInt8))), 1 ≤ t.length ∧ t.length ≤ 16 := by decide
  exact key _ (List.mem_of_getElem? (at_some ⟨y0, y1⟩))

theorem hOk_mk {h : Int × List (List UInt8)} (h1 : 1 ≤ h.1 ∧ h.1 ≤ 1000000000 ∧ (h.2.length : Int) ≤ 60) (h2 : ∀ s ∈ h.2, 1 ≤ s.length ∧ s.length ≤ 16) : hOk h = true := by
  unfold hOk
  simp only [Bool.and_eq_true, decide_eq_true_eq, List.all_eq_true]
  exact ⟨h1, fun s hs => by have := h2 s hs; omega⟩

/-- A drawn history. -/
def HistD (h : Int × List (List UInt8)) : Prop := (1 ≤ h.1 ∧ h.1 ≤ 1000 ∧ (h.2.length : Int) ≤ 60) ∧ ∀ s ∈ h.2, 1 ≤ s.length ∧ s.length ≤ 16

theorem HistD.ok {h : Int × List (List UInt8)} (hd : HistD h) : hOk h = true := hOk_mk ⟨hd.1.1, by have := hd.1.2.1; omega, hd.1.2.2⟩ hd.2

theorem histAdd_ok (h : Int × List (List UInt8)) (hd : HistD h) (h9 : h.1 < 1000) (t : List UInt8) (ht : 1 ≤ t.length ∧ t.length ≤ 16) : ∃ h', M_s_HistAdd h t = some (h', true) ∧ HistD h' ∧ h'.1 ≤ h.1 + 1 := by
  have hok := hd.ok
  obtain ⟨⟨d1, d2, d3⟩, d4⟩ := hd
  unfold M_s_HistAdd
  have g1 : ([] : List (List UInt8)).length + h.2.length ≤ 536870912 := by simp; omega
  have g2 : (([] : List (List UInt8)) ++ h.2).length + ([t] : List (List UInt8)).length ≤ 536870912 := by simp; omega
  have g3 : h.2.length + ([t] : List (List UInt8)).length ≤ 536870912 := by simp; omega
  simp only [joinO, guardO, g1, g2, g3, if_true, List.nil_append, Bool.cond_decide]
  have hall : ∀ s ∈ h.2 ++ [t], 1 ≤ s.length ∧ s.length ≤ 16 := by
    intro s hs
    rcases List.mem_append.1 hs with hs | hs
    · exact d4 s hs
    · simp only [List.mem_singleton] at hs; subst hs; exact ht
  have fin : ∀ h' : Int × List (List UInt8), HistD h' → (bindO (M_s_HistOk h) fun (y30 : Bool) =>
      (callO ((!y30) = false) (M_s_HistOk (h'.1, h'.2)) false fun (y32 : Bool) =>
      (bif (bif (!y30) then true else (!y32)) then some ((0, []), false) else some ((h'.1, h'.2), true)))) = some (h', true) := by
    intro h' hd'
    rw [bindO_of (sHistOk_eq h (by omega)), hok]
    have := sHistOk_eq h' (by have := hd'.1.2.2; omega)
    rw [hd'.ok] at this
    have this' : M_s_HistOk (h'.1, h'.2) = some true := this
    rw [this']
    simp [callO, bindO]
  by_cases hc : 60 < ((h.2 ++ [t]).length : Int)
  · rw [if_pos hc, if_pos ⟨by omega, by omega, by omega⟩, W_eq (by omega) (by omega), sub_all (by omega)]
    refine ⟨(h.1 + 1, (h.2 ++ [t]).drop 1), fin (h.1 + 1, (h.2 ++ [t]).drop 1) ?_, ?_, by simp⟩
    all_goals exact ⟨⟨by simp only; omega, by simp only; omega, by simp only [List.length_drop, List.length_append, List.length_cons, List.length_nil]; omega⟩, fun s hs => hall s (List.mem_of_mem_drop hs)⟩
  · rw [if_neg hc]
    have hD : HistD (h.1, h.2 ++ [t]) := ⟨⟨d1, d2, by simp only; omega⟩, hall⟩
    exact ⟨(h.1, h.2 ++ [t]), fin (h.1, h.2 ++ [t]) hD, hD, by simp only; omega⟩

theorem histDraw_loop (c : List UInt8 × Int × Int) : ∀ (m : Nat) (n f : Int) (ls : List (List UInt8)) (i h : Int), CurOk (c.1, i, h) → 0 ≤ n → n ≤ 100 → HistD (f, ls) → f + n ≤ 900 → n < m →
    ∃ r i' h', fixF (M_s_l16Draw_L1 c fun (x53, x54, x57, x58) => some ((x53, x54), (c.1, x57, x58))) m (n, f, ls, i, h) = some (r, (c.1, i', h')) ∧ CurOk (c.1, i', h') ∧ HistD r ∧ r.1 ≤ f + n := by
  intro m
  induction m with
  | zero => intro n f ls i h _ _ _ _ _ hm; omega
  | succ m ih =>
    intro n f ls i h hc hn hn' hd hf hm
    simp only [fixF, M_s_l16Draw_L1, Bool.cond_decide]
    by_cases h1 : 0 < n
    · rw [if_pos h1]
      obtain ⟨t, i2, h2, e, o2, t1, t2⟩ := text_ok _ hc
      have e' : M_s_l05Text (c.1, i, h) = some (t, (c.1, i2, h2)) := e
      rw [bindO_of e']
      obtain ⟨h', e3, d3, l3⟩ := histAdd_ok (f, ls) hd (by simp only; omega) t ⟨t1, t2⟩
      have l3' : h'.1 ≤ f + 1 := l3
      rw [bindO_of e3, W_eq (by omega) (by omega)]
      obtain ⟨r, i', h'', r1, r2, r3, r4⟩ := ih (n - 1) h'.1 h'.2 i2 h2 o2 (by omega) (by omega) d3 (by omega) (by omega)
      exact ⟨r, i', h'', r1, r2, r3, by omega⟩
    · rw [if_neg h1]
      exact ⟨(f, ls), i, h, rfl, hc, hd, by simp only; omega⟩

theorem histDraw_ok (c : List UInt8 × Int × Int) (hc : CurOk c) : ∃ r i h, M_s_l16Draw c = some (r, (c.1, i, h)) ∧ CurOk (c.1, i, h) ∧ HistD r ∧ r.1 < 1000 := by
  unfold M_s_l16Draw
  obtain ⟨y, i, h, e, ho, y0, y1, _⟩ := below_ok _ hc 5
  have e' : M_s_l01Below c 5 = _ := e
  rw [bindO_of e']
  have y1 := y1 (by omega)
  obtain ⟨z, i2, h2, e2, o2, z0, z1, _⟩ := below_ok _ ho 8
  simp only
  rw [bindO_of e2]
  have z1 := z1 (by omega)
  obtain ⟨v, i3, h3, e3, o3, v0, v1, _⟩ := below_ok _ o2 12
  simp only [joinO, Bool.cond_decide]
  rw [bindO_of e3]
  have fin : ∀ n i h, 0 ≤ n → n ≤ 62 → CurOk (c.1, i, h) → ∃ r i' h', fixF (M_s_l16Draw_L1 c fun (x53, x54, x57, x58) => some ((x53, x54), (c.1, x57, x58))) FUEL (n, (W (1 + y)), ([] : List (List UInt8)), i, h) = some (r, (c.1, i', h')) ∧ CurOk (c.1, i', h') ∧ HistD r ∧ r.1 < 1000 := by
    intro n i h hn hn' hcu
    rw [W_eq (by omega) (by omega)]
    obtain ⟨r, i', h', r1, r2, r3, r4⟩ := histDraw_loop c FUEL n (1 + y) [] i h hcu hn (by omega) ⟨⟨by simp only; omega, by simp only; omega, by simp⟩, by simp⟩ (by omega) (by rw [fuel_eq]; omega)
    exact ⟨r, i', h', r1, r2, r3, by omega⟩
  simp only
  split
  · obtain ⟨u, i4, h4, e4, o4, u0, u1, _⟩ := below_ok _ o3 4
    have u1 := u1 (by omega)
    rw [bindO_of e4]
    rw [W_eq (x := 59 + u) (by omega) (by omega)]
    exact fin (59 + u) i4 h4 (by omega) (by omega) o4
  · exact fin z i3 h3 z0 (by omega) o3

theorem makeEmacs_ok (l : List UInt8) (hl : (l.length : Int) ≤ 1048576) : ∃ (t : List Int) (a n : Int) (r : List (List Int)) (h : Int × List (List UInt8)),
    M_s_MakeEmacs l = some ((false, 0, (t, a), 0, 0, 0, 0, 0, 0, n, r, [], 0, ([], 0), [], 0, ([], 0)), h) ∧ (t.length : Int) ≤ 16 ∧ (∀ x ∈ t, LineR x) ∧ 0 ≤ a ∧ a ≤ (t.length : Int) ∧ ringOk r = true ∧ 0 ≤ n ∧ n < 4 ∧ HistD h := by
  unfold M_s_MakeEmacs
  obtain ⟨h0, e0, o0⟩ := new_ok l hl
  rw [bindO_of e0]
  have en : M_s_EdNew false = some (false, 0, ([], 0), 0, 0, 0, 0, 0, 0, 0, [], [], 0, ([], 0), [], 0, ([], 0)) := rfl
  rw [bindO_of en]
  obtain ⟨t, a, i, h, e, ho, t1, t2, a0, a1⟩ := l13Draw_ok _ o0
  have e' : M_s_l13Draw (l, 0, h0) = some ((t, a), (l, i, h)) := e
  simp only
  rw [bindO_of e']
  obtain ⟨r, i2, h2, e2, o2, r1⟩ := ringDraw_ok _ ho
  have e2' : M_s_l15Ring (l, i, h) = some (r, (l, i2, h2)) := e2
  simp only
  rw [bindO_of e2']
  obtain ⟨n, i3, h3, e3, o3, n0, n1, _⟩ := below_ok _ o2 4
  have e3' : M_s_l01Below (l, i2, h2) 4 = some (n, (l, i3, h3)) := e3
  simp only
  rw [bindO_of e3']
  obtain ⟨hh, i4, h4, e4, o4, d, _⟩ := histDraw_ok _ o3
  have e4' : M_s_l16Draw (l, i3, h3) = some (hh, (l, i4, h4)) := e4
  simp only
  rw [bindO_of e4']
  exact ⟨t, a, n, r, hh, rfl, t1, t2, a0, a1, r1, n0, n1 (by omega), d⟩

theorem sameInts_l (l : List Int) (hl : (l.length : Int) ≤ 100000000) : M_l_sameInts l l = some true := by
  have loop : ∀ (m : Nat) (k : Int), 0 ≤ k → k ≤ (l.length : Int) → (l.length : Int) - k < m → fixF (M_l_sameInts_L1 l l fun _ => some true) m k = some true := by
    intro m
    induction m with
    | zero => intro k _ _ h; omega
    | succ m ih =>
      intro k h0 hk hm
      simp only [fixF, M_l_sameInts_L1, guardO]
      by_cases h : k < (l.length : Int)
      · rw [decide_eq_true h, cond_true, if_pos ⟨h0, h⟩, if_pos ⟨h0, h⟩, decide_true, Bool.not_true, cond_false, W_eq (by omega) (by omega)]
        exact ih _ (by omega) (by omega) (by omega)
      · rw [decide_eq_false h, cond_false]
  unfold M_l_sameInts
  rw [decide_eq_true rfl, Bool.not_true, cond_false]
  exact loop FUEL 0 (by omega) (by omega) (by rw [fuel_eq]; omega)

theorem at_map {α β : Type} [Inhabited α] [Inhabited β] (l : List α) (f : α → β) (k : Int) (h0 : 0 ≤ k) (h : k < (l.length : Int)) : at' (l.map f) k = f (at' l k) := by
  have h1 := at_some (xs := l) ⟨h0, h⟩
  have h2 := at_some (xs := l.map f) (i := k) ⟨h0, by rw [List.length_map]; exact h⟩
  rw [List.getElem?_map, h1] at h2
  exact (Option.some.inj h2).symm

def InvT (vi : Bool) (p : List Int) (e : EdT) : Prop := edOkB e = true ∧ (e.2.1 = 0 ∨ e.2.1 = 1) ∧ e.2.2.2.1 = 0 ∧ e.2.2.1 = (p, (p.length : Int)) ∧ e.1 = vi

theorem rune_plain (e : EdT) (hv : edOkB e = true) (h : Int × List (List UInt8)) (r : Int) : M_i_plain e h (1, r) = some ((insE (List.replicate (min (max e.2.2.2.1 1) 401).toNat r) 1 e).1, (insE (List.replicate (min (max e.2.2.2.1 1) 401).toNat r) 1 e).2, true) := by
  obtain ⟨hl, hc, _⟩ := eOk e hv
  unfold M_i_plain
  simp only [joinO, Bool.cond_decide]
  rw [if_pos trivial]
  exact bindO_tr (times_i _ _ (by omega) (by omega)) (bindO_tr (ins_i e hv _ (by rw [List.length_replicate]; omega) 1) rfl)

theorem type_one (h : Int × List (List UInt8)) (hh : (h.2.length : Int) ≤ 1048576) (hk : hOk h = true) {vi : Bool} {p : List Int} {e : EdT} (hi : InvT vi p e) (hp : p.length < 400) (r : Int) (hr : pr r = true) :
    ∃ e', M_i_EdKey e h (1, r) = some (e', 0) ∧ InvT vi (p ++ [r]) e' := by
  obtain ⟨hv, hm, hc, hln, hvi⟩ := hi
  obtain ⟨hl, _⟩ := eOk e hv
  have hpl := rune_plain e hv h r
  have hcan := canKey_i h hh (1, r) e (small_le (by omega) (smallV e hv))
  rw [hv, hk, show kOk (1, r) = true from hr] at hcan
  rw [hc] at hpl
  have ex : putX e.2.2.1 [r] = (p ++ [r], ((p ++ [r]).length : Int)) := by
    rw [hln]
    simp [putX, sub', List.take_of_length_le]
  have ho : lineOk (putX e.2.2.1 [r]) = true := by
    rw [ex]
    rw [hln] at hl
    have ha := allAdm_of hl
    refine lineOk_mk (allAdm_app ha ?_ (by simp; omega)) (by omega) (by omega)
    unfold allAdm adm
    simp [hr]
  have ei : insE (List.replicate (min (max 0 1) 401 : Int).toNat r) 1 e = (setE (putX e.2.2.1 [r]) 1 e, 0) := by
    unfold insE putR
    rw [show List.replicate (min (max 0 1) 401 : Int).toNat r = [r] from rfl, if_pos ho]
    rfl
  rw [ei] at hpl
  have hv' := setEV_ok e hv _ ho 1 (by omega)
  refine ⟨setE (putX e.2.2.1 [r]) 1 e, ?_, hv', ?_, ?_, ?_, ?_⟩
  · unfold M_i_EdKey
    rcases hm with hm | hm
    · rw [hm, decide_eq_true rfl]
      have : M_i_EmacsKey e h (1, r) = some (setE (putX e.2.2.1 [r]) 1 e, 0) := by
        unfold M_i_EmacsKey
        rw [bindO_of hcan, hm]
        exact bindO_tr hpl rfl
      exact bindO_tr this rfl
    · rw [hm]
      have : M_i_ViKey e h (1, r) = some (setE (putX e.2.2.1 [r]) 1 e, 0) := by
        unfold M_i_ViKey
        rw [bindO_of hcan, hm]
        exact bindO_tr hpl rfl
      exact bindO_tr this rfl
  · obtain ⟨a, mode, b⟩ := e
    exact hm
  · obtain ⟨a, mode, b⟩ := e
    rfl
  · have e2 : (setE (putX e.2.2.1 [r]) 1 e).2.2.1 = ((putX e.2.2.1 [r]).1, clipAt e.2.1 (putX e.2.2.1 [r])) := by
      obtain ⟨a, mode, b⟩ := e
      rfl
    rw [e2, ex]
    unfold clipAt
    rw [if_neg (by omega)]
  · obtain ⟨a, mode, b⟩ := e
    exact hvi

theorem keys_loop1 (t : List Int) (ht : t.length ≤ 400) (hr : ∀ r ∈ t, pr r = true) (j : Unit → Option (EdT × List Int)) : ∀ (m : Nat) (k : Int), 0 ≤ k → k ≤ (t.length : Int) → (t.length : Int) - k < m → 
    fixF (M_i_EdKeys_L1 (t.map fun r => ((1 : Int), r)) j) m k = j () := by
  intro m
  induction m with
  | zero => intro k _ _ h; omega
  | succ m ih =>
    intro k h0 h1 hm
    simp only [fixF, M_i_EdKeys_L1, guardO, Bool.cond_decide, List.length_map]
    by_cases hk : k < (t.length : Int)
    · rw [if_pos hk, if_pos ⟨h0, hk⟩, W_eq (by omega) (by omega)]
      have ha : at' (t.map fun r => ((1 : Int), r)) k = (1, at' t k) := at_map t _ k h0 hk
      have hx : kOk (1, at' t k) = true := hr _ (List.mem_of_getElem? (at_some ⟨h0, hk⟩))
      rw [ha, keyOk_i, hx]
      exact ih (k + 1) (by omega) (by omega) (by omega)
    · rw [if_neg hk]

theorem keys_loop2 (h : Int × List (List UInt8)) (hh : (h.2.length : Int) ≤ 1048576) (hk : hOk h = true) (t : List Int) (ht : t.length ≤ 400) (hr : ∀ r ∈ t, pr r = true) (vi : Bool) (j : List Int × EdT → Option (EdT × List Int)) :
    ∀ (m : Nat) (k : Int) (acts : List Int) (e : EdT), 0 ≤ k → k ≤ (t.length : Int) → (acts.length : Int) = k → InvT vi (t.take k.toNat) e → (t.length : Int) - k < m → 
    ∃ acts' e', fixF (M_i_EdKeys_L2 h (t.map fun r => ((1 : Int), r)) j) m (acts, k, e.1, e.2.1, e.2.2.1.1, e.2.2.1.2, e.2.2.2.1, e.2.2.2.2.1, e.2.2.2.2.2.1, e.2.2.2.2.2.2.1, e.2.2.2.2.2.2.2.1, e.2.2.2.2.2.2.2.2.1, e.2.2.2.2.2.2.2.2.2.1, e.2.2.2.2.2.2.2.2.2.2.1, e.2.2.2.2.2.2.2.2.2.2.2.1, e.2.2.2.2.2.2.2.2.2.2.2.2.1, e.2.2.2.2.2.2.2.2.2.2.2.2.2.1.1, e.2.2.2.2.2.2.2.2.2.2.2.2.2.1.2, e.2.2.2.2.2.2.2.2.2.2.2.2.2.2.1, e.2.2.2.2.2.2.2.2.2.2.2.2.2.2.2.1, e.2.2.2.2.2.2.2.2.2.2.2.2.2.2.2.2.1, e.2.2.2.2.2.2.2.2.2.2.2.2.2.2.2.2.2) = j (acts', e') ∧ acts'.length = t.length ∧ InvT vi t e' := by
  intro m
  induction m with
  | zero => intro k _ _ _ _ _ _ h; omega
  | succ m ih =>
    intro k acts e h0 h1 ha hi hm
    simp only [fixF, M_i_EdKeys_L2, guardO, Bool.cond_decide, List.length_map]
    by_cases hk' : k < (t.length : Int)
    · rw [if_pos hk', if_pos ⟨h0, hk'⟩, W_eq (by omega) (by omega)]
      have hat : at' (t.map fun r => ((1 : Int), r)) k = (1, at' t k) := at_map t _ k h0 hk'
      have hmem := List.mem_of_getElem? (at_some (xs := t) ⟨h0, hk'⟩)
      obtain ⟨e', he, hi'⟩ := type_one h hh hk hi (by rw [List.length_take]; omega) (at' t k) (hr _ hmem)
      have htk : t.take k.toNat ++ [at' t k] = t.take (k + 1).toNat := by
        have hg := at_some (xs := t) ⟨h0, hk'⟩
        rw [show (k + 1).toNat = k.toNat + 1 by omega, List.take_add_one, hg]
        rfl
      rw [htk] at hi'
      obtain ⟨acts', e2, r1, r2, r3⟩ := ih (k + 1) (acts ++ [0]) e' (by omega) (by omega) (by simp; omega) hi' (by omega)
      refine ⟨acts', e2, ?_, r2, r3⟩
      rw [hat]
      refine bindO_tr he ?_
      simp only
      rw [if_pos (by simp; omega)]
      exact r1
    · rw [if_neg hk']
      obtain rfl : k = (t.length : Int) := by omega
      refine ⟨acts, e, rfl, by omega, ?_⟩
      rw [Int.toNat_natCast, List.take_length] at hi
      exact hi

theorem keys_ok (h : Int × List (List UInt8)) (hh : (h.2.length : Int) ≤ 1048576) (hk : hOk h = true) (t : List Int) (ht : t.length ≤ 400) (hr : ∀ r ∈ t, pr r = true) (vi : Bool) (e : EdT) (hi : InvT vi [] e) :
    ∃ e' acts, M_i_EdKeys e h (t.map fun r => ((1 : Int), r)) = some (e', acts) ∧ acts.length = t.length ∧ InvT vi t e' := by
  unfold M_i_EdKeys
  have hs := smallV e hi.1
  rw [bindO_of (edOkV_i e (small_le (by omega) hs)), hi.1, iHistOk_eq h hh, hk, callO_pos (show (!true) = false from rfl)]
  simp only [joinO]
  obtain ⟨acts, e', r1, r2, r3⟩ := keys_loop2 h hh hk t ht hr vi (fun (x242, x245) => some (x245, x242)) FUEL 0 [] e (by omega) (by omega) rfl (by simpa using hi) (by rw [fuel_eq]; omega)
  refine ⟨e', acts, ?_, r2, r3⟩
  have l1 := keys_loop1 t ht hr
  refine (l1 _ FUEL 0 (by omega) (by omega) (by rw [fuel_eq]; omega)).trans ?_
  exact bindO_tr (copyEV_i e hi.1) r1

theorem mk_loop (t : List Int) (ht : t.length ≤ 400) (j : List (Int × Int) → Option Bool) : ∀ (m : Nat) (k : Int), 0 ≤ k → k ≤ (t.length : Int) → (t.length : Int) - k < m →
    fixF (M_l_FnType_L1 t j) m ((t.take k.toNat).map (fun r => ((1 : Int), r)), k) = j (t.map fun r => ((1 : Int), r)) := by
  intro m
  induction m with
  | zero => intro k _ _ h; omega
  | succ m ih =>
    intro k h0 h1 hm
    simp only [fixF, M_l_FnType_L1, guardO, Bool.cond_decide]
    by_cases hk : k < (t.length : Int)
    · rw [if_pos hk, if_pos ⟨h0, hk⟩, W_eq (by omega) (by omega), if_pos (by simp; omega)]
      have hg := at_some (xs := t) ⟨h0, hk⟩
      have htk : t.take k.toNat ++ [at' t k] = t.take (k + 1).toNat := by
        rw [show (k + 1).toNat = k.toNat + 1 by omega, List.take_add_one, hg]
        rfl
      have := ih (k + 1) (by omega) (by omega) (by omega)
      rw [← htk, List.map_append] at this
      exact this
    · rw [if_neg hk]
      obtain rfl : k = (t.length : Int) := by omega
      rw [Int.toNat_natCast, List.take_length]

theorem law_FnType (code : List UInt8) : M_l_FnType code = some true := by
  unfold M_l_FnType
  by_cases hl : 1048576 < (code.length : Int)
  · rw [decide_eq_true hl]; rfl
  rw [decide_eq_false hl, cond_false]
  obtain ⟨h0, e0, o0⟩ := new_ok code (by omega)
  obtain ⟨t, i, h, e, ho, t1, t2⟩ := runes_ok _ o0 20 (by omega) (by omega)
  have em : M_s_MakeRunes code = some t := by
    unfold M_s_MakeRunes
    rw [bindO_of e0]
    have e' : M_s_l02Runes (code, 0, h0) 20 = some (t, (code, i, h)) := e
    exact bindO_tr e' rfl
  obtain ⟨tl, a, n, r, hist, e2, _, _, _, _, _, _, _, d⟩ := makeEmacs_ok code (by omega)
  rw [bindO_of em, bindO_of e2]
  have hr : ∀ r ∈ t, pr r = true := by
    intro r hr
    have := lineR_adm (.inl (t2 r hr))
    have hd := t2 r hr
    unfold pr
    rcases hd with h | h | h | h
    · simp only [List.mem_cons, List.not_mem_nil, or_false] at h
      rcases h with h | h | h | h | h | h | h | h | h | h | h | h | h | h | h | h <;> subst h <;> decide
    · exact decide_eq_true (by omega)
    · exact decide_eq_true (by omega)
    · exact decide_eq_true (by omega)
  have hh : (hist.2.length : Int) ≤ 1048576 := by have := d.1.2.2; omega
  have inv : ∀ vi : Bool, ∃ e, M_i_EdNew vi = some e ∧ InvT vi [] e := by
    intro vi
    cases vi
    · exact ⟨_, rfl, by decide, .inl rfl, rfl, rfl, rfl⟩
    · exact ⟨_, rfl, by decide, .inr rfl, rfl, rfl, rfl⟩
  simp only [joinO]
  have l1 := mk_loop t (by omega)
  refine (l1 _ FUEL 0 (by omega) (by omega) (by rw [fuel_eq]; omega)).trans ?_
  obtain ⟨m, hm⟩ : ∃ m, FUEL = m + 1 + 1 + 1 := ⟨FUEL - 3, by rw [fuel_eq]⟩
  rw [hm]
  have st : ∀ (m : Nat) (k : Int) (vi : Bool) (j : Unit → Option Bool), 0 ≤ k → k < 2 → at' ([false, true] : List Bool) k = vi →
      fixF (M_l_FnType_L2 t hist (t.map fun r => ((1 : Int), r)) j) (m + 1) k = fixF (M_l_FnType_L2 t hist (t.map fun r => ((1 : Int), r)) j) m (k + 1) := by
    intro m k vi j h0 h1 hat
    obtain ⟨e, en, hi⟩ := inv vi
    obtain ⟨e', acts, ek, al, hi'⟩ := keys_ok hist hh d.ok t (by omega) hr vi e hi
    simp only [fixF, M_l_FnType_L2, guardO, Bool.cond_decide, joinO]
    rw [if_pos (show k < (([false, true] : List Bool).length : Int) from h1), if_pos ⟨h0, h1⟩, hat]
    refine bindO_tr en ?_
    have ek' : M_i_EdKeys (e.1, e.2.1, (([] : List Int), e.2.2.1.2), e.2.2.2.1, e.2.2.2.2.1, e.2.2.2.2.2.1, e.2.2.2.2.2.2.1, e.2.2.2.2.2.2.2.1, e.2.2.2.2.2.2.2.2.1, e.2.2.2.2.2.2.2.2.2.1, ([] : List (List Int)), ([] : List (List Int × Int)), e.2.2.2.2.2.2.2.2.2.2.2.2.1, (([] : List Int), e.2.2.2.2.2.2.2.2.2.2.2.2.2.1.2), ([] : List Int), e.2.2.2.2.2.2.2.2.2.2.2.2.2.2.2.1, (([] : List Int), e.2.2.2.2.2.2.2.2.2.2.2.2.2.2.2.2.2)) hist (t.map fun r => ((1 : Int), r)) = some (e', acts) := by
      cases vi
      · cases en; exact ek
      · cases en; exact ek
    refine bindO_tr ek' ?_
    obtain ⟨_, _, _, q1, q2⟩ := hi'
    simp only
    rw [q1, q2]
    refine bindO_tr (sameInts_l t (by omega)) ?_
    rw [decide_eq_true rfl, decide_eq_true (show (acts.length : Int) = (t.length : Int) by omega), beq_self_eq_true, W_eq (by omega) (by omega)]
    rfl
  rw [st _ 0 false _ (by omega) (by omega) rfl, st _ (0 + 1) true _ (by omega) (by omega) rfl]
  simp only [fixF, M_l_FnType_L2]
  rw [decide_eq_false (by decide)]
  obtain ⟨e, en, hi⟩ := inv true
  cases en
  exact bindO_tr (edOkV_i _ (small_le (by omega) (smallV _ hi.1))) rfl

end Go.Eng

namespace Go.Proofs.YtlpgcohnjhomgaaGreat.fnType
open Go.ChangeShapes Go.WideShapes Go.ChangeAt Go.RowKit Go.Eng
open Go.ChangeMaps (open_string shut_string)

theorem own : ownKnob Tryz.prog.godebug = none := by kernel_rfl
theorem laidOut : laidOutB Tryz.prog = true := by kernel_rfl

theorem walk (a0 : Option Addr) (len0 cap0 : Nat) (z0 : List Int) (w : World) (w0 : IsRow .u8 w a0 len0 cap0 z0) :
    Calls Tryz.prog 6 #[.slice a0 len0 cap0] w fun e w' => e = .returned (.bool true) ∧ Below w.heap.size w w' := by
  obtain ⟨l0, f0⟩ := w0.byteFact
  have h := ok_l_FnType (bytesOf (z0.take len0)) a0 cap0 len0 l0 true (law_FnType (bytesOf (z0.take len0)) )
  refine Calls.mono (h.calls w ?_) ?_
  · intro x hx
    rcases List.mem_cons.1 hx with rfl | hx
    · exact ⟨_, f0.choose_spec⟩
    cases hx
  · rintro e w' ⟨r, -, he, hk, -⟩
    exact ⟨he, hk.below⟩

set_option maxRecDepth 100000 in
theorem lifted (os : Os) (started : os.Started) (H : Type) (enc : TypeId × Value → H) :
    ReturnsInHanded {} Tryz.checked os 6 .any (Rows.fnTypeSpec.pre6 enc Tryz.prog Tryz.f6 Rows.fnTypeRow.domain false) (Rows.fnTypeSpec.post enc Tryz.prog Tryz.f6 false true false false) := by
  refine returnsInHanded_of_change (C := Tryz.checked) own started (by kernel_rfl) Tryz.func6
    (ChangeSpec.witness6 (enc := enc) (C := Tryz.checked) false ⟨#[], #[.slice none 0 0], []⟩ 8 (by kernel_rfl) (by kernel_rfl) (by kernel_rfl) (by kernel_rfl)) ?_
  intro W base args ds gs before hval0 hW hcnd _
  have hval : ∀ (j : Nat) t v, Tryz.f6.params[j]? = some t → args[j]? = some v → Value.okWide Tryz.prog W .any base t v := hval0
  have hW' := hW
  obtain ⟨p, q, hA0, hV, rfl, hfz, hnd⟩ := hW
  have hA : DataW.TrodAll enc Tryz.prog W 0 (fun _ => true) true Tryz.f6.params.toList args.toList ds p := hA0
  rw [Tryz.params6] at hA hval
  obtain ⟨v0, vs0, d0, ds0, p0, q0, hargs, rfl, rfl, h0, r0⟩ := trodAll_cons hA
  obtain ⟨rfl, rfl, rfl⟩ := trodAll_nil r0
  obtain rfl : args = #[v0] := by cases args; simp_all
  obtain ⟨rfl, rfl⟩ := trodVars_none hV
  obtain ⟨a0, len0, cap0, rfl⟩ := okWide_slice Tryz.underlying69 (hval 0 69 v0 rfl rfl)
  have k0 := h0
  have lt0 : ∀ x ∈ p0, x.block < W.heap.size := by obtain ⟨m, hm⟩ := k0; exact DataW.trod_lt m _ _ _ hm
  obtain ⟨z0, w0⟩ : ∃ zs, IsRow .u8 W a0 len0 cap0 zs := by
    obtain ⟨fuel, hf⟩ := h0
    rcases open_ints Tryz.underlying69 Tryz.underlying5 (by kernel_rfl) hf with ⟨hcs, _⟩ | ⟨x, l, c, zs, hcs, _, hl, hm, hz, _, hcell, hwz⟩
    · simp [Value.cells] at hcs
      obtain ⟨rfl, rfl, rfl⟩ := hcs
      exact ⟨[], .inl ⟨rfl, rfl, rfl, rfl⟩⟩
    · simp [Value.cells] at hcs
      obtain ⟨rfl, rfl, rfl⟩ := hcs
      exact ⟨zs, .inr ⟨_, rfl, hl, hm, by simpa using hz, hcell, hwz⟩⟩
  clear hA0 hval0
  simp only [List.append_nil] at hW'
  refine (walk a0 len0 cap0 z0 W w0).mono fun e W' ⟨he, bel⟩ => ?_
  subst he
  exact ⟨_, rfl, _, _, _, [], _, [], hW', trodAll_mk1 (shut_bool Tryz.underlying4 _), (trodAll_cons_mk (Below.trod laidOut (by kernel_rfl) (of_decide_eq_true (by kernel_rfl)) k0 bel lt0) trodAll_mk0), rfl, bel.frame _, fun h => by cases h⟩

theorem andI {a b : Bool} (ha : a = true) (hb : b = true) : (a && b) = true := by rw [ha, hb]; rfl
set_option maxHeartbeats 8000000 in
theorem closed : joinedFacts Tryz.checked.prog 6 Tryz.f6 Rows.fnTypeSpec Rows.fnTypeRow = true := by
  unfold joinedFacts
  (repeat' with_reducible refine andI ?_ ?_) <;> as_aux_lemma => kernel_rfl

theorem over : Rows.fnTypeRow.holds Tryz.pinned (OpenSpec.ofChange Rows.fnTypeSpec) :=
  OpenClaim.holds_of_wide 6 Tryz.f6 rfl rfl rfl rfl rfl rfl rfl ⟨rfl, rfl, rfl, rfl, rfl⟩ rfl rfl rfl rfl rfl (by kernel_rfl) Tryz.func6 closed
    (of_decide_eq_true (by kernel_rfl)) (by unfold Func.isWrapper; first | (rw [if_pos (by decide +kernel)]; kernel_rfl) | (rw [if_neg (by decide +kernel)]; exact ⟨rfl, rfl⟩))
    (fun os started H enc _ => lifted os started H enc)

theorem proved : Rows.FnTypeSaid := over
#print axioms proved
end Go.Proofs.YtlpgcohnjhomgaaGreat.fnType
