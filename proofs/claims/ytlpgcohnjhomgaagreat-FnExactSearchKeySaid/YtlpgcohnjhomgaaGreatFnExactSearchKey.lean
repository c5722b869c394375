/- FnExactSearchKey: for every input the given law returns true and leaves its arguments as they were. No condition. -/
import Derived.Test.YtlpgcohnjhomgaaGreatFnExactSearchKeyWalkD
import Derived.Test.YtlpgcohnjhomgaaGreatRows
import Derived.WalkKit
import Derived.ProofKit
import Derived.OpenShut
import Derived.ShutString
set_option linter.unusedVariables false
set_option linter.unusedSimpArgs false
namespace Go.Eng
open Go Go.Proofs

theorem bindO_of {α β : Type} {m : Option α} {k : α → Option β} {y : α} (h : m = some y) : bindO m k = k y := by rw [h]; rfl

theorem bindO_ret {α β : Type} (y : α) (k : α → Option β) : bindO (some y) k = k y := rfl

theorem callO_pos {α β : Type} {c : Prop} [Decidable c] {x d : α} {k : α → Option β} (h : c) : callO c (some x) d k = k x := by
  unfold callO; rw [if_pos h]; rfl
theorem drop_at {α : Type} [Inhabited α] {l : List α} {k : Int} (h0 : 0 ≤ k) (h : k < (l.length : Int)) : l.drop k.toNat = at' l k :: l.drop (k + 1).toNat := by
  have hlt : k.toNat < l.length := by omega
  rw [List.drop_eq_getElem_cons hlt]
  have : (k + 1).toNat = k.toNat + 1 := by omega
  rw [this]
  congr 1
  simp [at', List.getD_eq_getElem?_getD, hlt]

theorem ringCopy_s (xs : List (List Int)) (hl : (xs.length : Int) ≤ 1048576) (hs : ∀ s ∈ xs, (s.length : Int) ≤ 1048576) (j : List (List Int) → Option (List (List Int))) : ∀ (m : Nat) (i : Int) (ds : List (List Int)), 0 ≤ i → i ≤ (xs.length : Int) → (ds.length : Int) = i → (xs.length : Int) - i < m →
    fixF (M_s_l15Copy_L1 xs j) m (i, ds) = j (ds ++ xs.drop i.toNat) := by
  intro m
  induction m with
  | zero => intro i ds _ _ _ h; omega
  | succ m ih =>
    intro i ds hi hi' hd hm
    simp only [fixF, M_s_l15Copy_L1, guardO, Bool.cond_decide, List.nil_append]
    by_cases h1 : i < (xs.length : Int)
    · have hb := hs (at' xs i) (List.mem_of_getElem? (at_some ⟨hi, h1⟩))
      rw [if_pos h1, if_pos ⟨hi, h1⟩, if_pos (by simp; omega), if_pos (by simp; omega), W_eq (by omega) (by omega), ih (i + 1) _ (by omega) (by omega) (by simp; omega) (by omega), drop_at hi h1]
      simp
    · rw [if_neg h1, List.drop_eq_nil_of_le (by omega)]
      simp

theorem ringCopy_i (xs : List (List Int)) (hl : (xs.length : Int) ≤ 1048576) (hs : ∀ s ∈ xs, (s.length : Int) ≤ 1048576) (j : List (List Int) → Option (List (List Int))) : ∀ (m : Nat) (i : Int) (ds : List (List Int)), 0 ≤ i → i ≤ (xs.length : Int) → (ds.length : Int) = i → (xs.length : Int) - i < m →
    fixF (M_i_copyRing_L1 xs j) m (i, ds) = j (ds ++ xs.drop i.toNat) := by
  intro m
  induction m with
  | zero => intro i ds _ _ _ h; omega
  | succ m ih =>
    intro i ds hi hi' hd hm
    simp only [fixF, M_i_copyRing_L1, guardO, Bool.cond_decide]
    by_cases h1 : i < (xs.length : Int)
    · have hb := hs (at' xs i) (List.mem_of_getElem? (at_some ⟨hi, h1⟩))
      have ec : M_i_copyInts (at' xs i) = some (at' xs i) := by
        unfold M_i_copyInts guardO
        rw [if_pos (by simp; omega)]; simp
      rw [if_pos h1, if_pos ⟨hi, h1⟩, bindO_of ec, if_pos (by simp; omega), W_eq (by omega) (by omega), ih (i + 1) _ (by omega) (by omega) (by simp; omega) (by omega), drop_at hi h1]
      simp
    · rw [if_neg h1, List.drop_eq_nil_of_le (by omega)]
      simp

theorem copyRing_s (xs : List (List Int)) (hl : (xs.length : Int) ≤ 1048576) (hs : ∀ s ∈ xs, (s.length : Int) ≤ 1048576) : M_s_l15Copy xs = some xs := by
  unfold M_s_l15Copy
  simp only [joinO]
  rw [ringCopy_s xs hl hs _ FUEL 0 [] (by omega) (by omega) (by simp) (by rw [fuel_eq]; omega)]
  simp
theorem copyRing_i (xs : List (List Int)) (hl : (xs.length : Int) ≤ 1048576) (hs : ∀ s ∈ xs, (s.length : Int) ≤ 1048576) : M_i_copyRing xs = some xs := by
  unfold M_i_copyRing
  simp only [joinO]
  rw [ringCopy_i xs hl hs _ FUEL 0 [] (by omega) (by omega) (by simp) (by rw [fuel_eq]; omega)]
  simp

theorem copyInts_i (x : List Int) (h : (x.length : Int) ≤ 1048576) : M_i_copyInts x = some x := by
  unfold M_i_copyInts guardO
  rw [if_pos (by simp; omega)]; simp
theorem copyLine_i (x : List Int × Int) (h : (x.1.length : Int) ≤ 1048576) : M_i_copyLine x = some x := by
  unfold M_i_copyLine
  rw [bindO_of (copyInts_i x.1 h)]
theorem copyLine_s (x : List Int × Int) (h : (x.1.length : Int) ≤ 1048576) : M_s_l15Line x = some x := by
  unfold M_s_l15Line guardO
  rw [if_pos (by simp; omega)]; simp

theorem undoCopy_s (xs : List (List Int × Int)) (hl : (xs.length : Int) ≤ 1048576) (hs : ∀ s ∈ xs, (s.1.length : Int) ≤ 1048576) (j : List (List Int × Int) → Option (List (List Int × Int))) : ∀ (m : Nat) (i : Int) (ds : List (List Int × Int)), 0 ≤ i → i ≤ (xs.length : Int) → (ds.length : Int) = i → (xs.length : Int) - i < m →
    fixF (M_s_l15Lines_L1 xs j) m (i, ds) = j (ds ++ xs.drop i.toNat) := by
  intro m
  induction m with
  | zero => intro i ds _ _ _ h; omega
  | succ m ih =>
    intro i ds hi hi' hd hm
    simp only [fixF, M_s_l15Lines_L1, guardO, Bool.cond_decide]
    by_cases h1 : i < (xs.length : Int)
    · have hb := hs (at' xs i) (List.mem_of_getElem? (at_some ⟨hi, h1⟩))
      rw [if_pos h1, if_pos ⟨hi, h1⟩, bindO_of (copyLine_s (at' xs i) hb), if_pos (by simp; omega), W_eq (by omega) (by omega), ih (i + 1) _ (by omega) (by omega) (by simp; omega) (by omega), drop_at hi h1]
      simp
    · rw [if_neg h1, List.drop_eq_nil_of_le (by omega)]
      simp
theorem undoCopy_i (xs : List (List Int × Int)) (hl : (xs.length : Int) ≤ 1048576) (hs : ∀ s ∈ xs, (s.1.length : Int) ≤ 1048576) (j : List (List Int × Int) → Option (List (List Int × Int))) : ∀ (m : Nat) (i : Int) (ds : List (List Int × Int)), 0 ≤ i → i ≤ (xs.length : Int) → (ds.length : Int) = i → (xs.length : Int) - i < m →
    fixF (M_i_copyUndo_L1 xs j) m (i, ds) = j (ds ++ xs.drop i.toNat) := by
  intro m
  induction m with
  | zero => intro i ds _ _ _ h; omega
  | succ m ih =>
    intro i ds hi hi' hd hm
    simp only [fixF, M_i_copyUndo_L1, guardO, Bool.cond_decide]
    by_cases h1 : i < (xs.length : Int)
    · have hb := hs (at' xs i) (List.mem_of_getElem? (at_some ⟨hi, h1⟩))
      rw [if_pos h1, if_pos ⟨hi, h1⟩, bindO_of (copyLine_i (at' xs i) hb), if_pos (by simp; omega), W_eq (by omega) (by omega), ih (i + 1) _ (by omega) (by omega) (by simp; omega) (by omega), drop_at hi h1]
      simp
    · rw [if_neg h1, List.drop_eq_nil_of_le (by omega)]
      simp
theorem copyUndo_s (xs : List (List Int × Int)) (hl : (xs.length : Int) ≤ 1048576) (hs : ∀ s ∈ xs, (s.1.length : Int) ≤ 1048576) : M_s_l15Lines xs = some xs := by
  unfold M_s_l15Lines
  simp only [joinO]
  rw [undoCopy_s xs hl hs _ FUEL 0 [] (by omega) (by omega) (by simp) (by rw [fuel_eq]; omega)]
  simp
theorem copyUndo_i (xs : List (List Int × Int)) (hl : (xs.length : Int) ≤ 1048576) (hs : ∀ s ∈ xs, (s.1.length : Int) ≤ 1048576) : M_i_copyUndo xs = some xs := by
  unfold M_i_copyUndo
  simp only [joinO]
  rw [undoCopy_i xs hl hs _ FUEL 0 [] (by omega) (by omega) (by simp) (by rw [fuel_eq]; omega)]
  simp

section
variable (vi : Bool) (mode : Int) (line : List Int × Int) (count op opc wait fr fh last : Int) (ring : List (List Int)) (undo : List (List Int × Int)) (nav : Int) (own : List Int × Int) (query : List Int) (hit : Int) (back : List Int × Int)
  (h1 : line.1.length ≤ 1048576) (h2 : ring.length ≤ 1048576) (h3 : ∀ s ∈ ring, s.length ≤ 1048576) (h4 : undo.length ≤ 1048576) (h5 : ∀ s ∈ undo, s.1.length ≤ 1048576) (h6 : own.1.length ≤ 1048576) (h7 : query.length ≤ 1048576) (h8 : back.1.length ≤ 1048576)
include h1 h2 h3 h4 h5 h6 h7 h8
theorem copyEd_s : M_s_l21Copy (vi, mode, line, count, op, opc, wait, fr, fh, last, ring, undo, nav, own, query, hit, back) = some (vi, mode, line, count, op, opc, wait, fr, fh, last, ring, undo, nav, own, query, hit, back) := by
  unfold M_s_l21Copy
  simp only [copyLine_s line (by omega), copyLine_s own (by omega), copyLine_s back (by omega), copyRing_s ring (by omega) (fun s h => by have := h3 s h; omega), copyUndo_s undo (by omega) (fun s h => by have := h5 s h; omega), bindO, guardO]
  rw [if_pos (by simp; omega)]
  simp
theorem copyEd_i : M_i_copyEd (vi, mode, line, count, op, opc, wait, fr, fh, last, ring, undo, nav, own, query, hit, back) = some (vi, mode, line, count, op, opc, wait, fr, fh, last, ring, undo, nav, own, query, hit, back) := by
  unfold M_i_copyEd
  simp only [copyLine_i line (by omega), copyLine_i own (by omega), copyLine_i back (by omega), copyRing_i ring (by omega) (fun s h => by have := h3 s h; omega), copyUndo_i undo (by omega) (fun s h => by have := h5 s h; omega), copyInts_i query (by omega), bindO]
end

theorem in_eq (a b c : Int) : M_i_in a b c = some (decide (b ≤ a ∧ a ≤ c)) := by
  unfold M_i_in
  congr 1
  by_cases h1 : b ≤ a <;> by_cases h2 : a ≤ c <;> simp [h1, h2]

def pr (r : Int) : Bool := decide ((0 ≤ r ∧ r ≤ 1114111 ∧ (r < 55296 ∨ 57343 < r)) ∧ 32 ≤ r ∧ (r < 127 ∨ 159 < r))

theorem callO_of {α β : Type} {c : Prop} [Decidable c] {x d : α} {k : α → Option β} : callO c (some x) d k = k (if c then x else d) := by
  unfold callO
  split <;> simp [bindO, *]

theorem printable_s (r : Int) : M_s_Printable r = some (pr r) := by
  unfold M_s_Printable pr M_s_RuneOk
  simp only [bindO]
  congr 1
  by_cases h1 : 0 ≤ r <;> by_cases h2 : r ≤ 1114111 <;> by_cases h3 : r < 55296 <;> by_cases h4 : 57343 < r <;> by_cases h5 : 32 ≤ r <;> by_cases h6 : r < 127 <;> simp [h1, h2, h3, h4, h5, h6]

theorem printable_i (r : Int) : M_i_Printable r = some (pr r) := by
  unfold M_i_Printable pr M_i_RuneOk
  simp only [in_eq, callO_of, bindO]
  congr 1
  by_cases h1 : 0 ≤ r ∧ r ≤ 1114111
  · by_cases h2 : 55296 ≤ r ∧ r ≤ 57343
    · have : ¬ (r < 55296 ∨ 57343 < r) := by omega
      simp [h1, h2, this]
    · have : (r < 55296 ∨ 57343 < r) := by omega
      by_cases h5 : 32 ≤ r
      · by_cases h6 : 127 ≤ r ∧ r ≤ 159
        · have : ¬ (r < 127 ∨ 159 < r) := by omega
          simp [h1, h2, h5, h6, this]
        · have : (r < 127 ∨ 159 < r) := by omega
          simp [h1, h2, h5, h6, *]
      · simp [h1, h2, h5]
  · have : ¬ (0 ≤ r ∧ r ≤ 1114111 ∧ (r < 55296 ∨ 57343 < r)) := fun h => h1 ⟨h.1, h.2.1⟩
    simp [h1, this]

def adm (r : Int) : Bool := pr r || decide (r = 9) || decide (r = 10)

theorem typed_s (r : Int) : M_s_l13Typed r = some (adm r) := by
  unfold M_s_l13Typed adm
  rw [bindO_of (printable_s r)]
  cases pr r <;> by_cases h : r = 9 <;> by_cases h' : r = 10 <;> simp [h, h']

theorem admissible_i (r : Int) : M_i_admissible r = some (adm r) := by
  unfold M_i_admissible adm
  rw [bindO_of (printable_i r)]
  cases pr r <;> by_cases h : r = 9 <;> by_cases h' : r = 10 <;> simp [h, h']

theorem allTyped_loop (t : List Int) (ht : t.length ≤ 100000000) (j : Unit → Option Bool) : ∀ (m : Nat) (k : Int), 0 ≤ k → k ≤ (t.length : Int) → (t.length : Int) - k < m → fixF (M_s_l13AllTyped_L1 t j) m k = if (t.drop k.toNat).all adm then j () else some false := by
  intro m
  induction m with
  | zero => intro k _ _ h; omega
  | succ m ih =>
    intro k hk hk' hm
    simp only [fixF, M_s_l13AllTyped_L1, guardO, Bool.cond_decide, typed_s, bindO]
    by_cases h1 : k < (t.length : Int)
    · rw [if_pos h1, if_pos ⟨hk, h1⟩, W_eq (by omega) (by omega), drop_at hk h1]
      by_cases h2 : adm (at' t k)
      · rw [ih (k + 1) (by omega) (by omega) (by omega)]
        simp [h2]
      · simp [h2]
    · rw [if_neg h1, List.drop_eq_nil_of_le (by omega)]
      simp

theorem allTyped_s (t : List Int) (ht : t.length ≤ 100000000) : M_s_l13AllTyped t = some (t.all adm) := by
  unfold M_s_l13AllTyped joinO
  show fixF (M_s_l13AllTyped_L1 t fun _ => some true) FUEL 0 = _
  rw [allTyped_loop t ht _ FUEL 0 (by omega) (by omega) (by rw [fuel_eq]; omega)]
  simp only [Int.toNat_zero, List.drop_zero]
  cases t.all adm <;> simp

theorem areAdm_loop (t : List Int) (ht : t.length ≤ 100000000) (j : Unit → Option Bool) : ∀ (m : Nat) (k : Int), 0 ≤ k → k ≤ (t.length : Int) → (k = 0 ∨ k ≤ 400) → (t.length : Int) - k < m → fixF (M_i_areAdmissible_L1 t j) m k = if (t.drop k.toNat).all adm ∧ t.length ≤ 400 then j () else some false := by
  intro m
  induction m with
  | zero => intro k _ _ _ h; omega
  | succ m ih =>
    intro k hk hk' h4 hm
    simp only [fixF, M_i_areAdmissible_L1, guardO, Bool.cond_decide, admissible_i, callO_of]
    by_cases h1 : k < (t.length : Int)
    · rw [if_pos h1, if_pos ⟨hk, h1⟩, W_eq (by omega) (by omega), drop_at hk h1]
      by_cases h3 : 400 ≤ k
      · have : ¬ t.length ≤ 400 := by omega
        simp [h3, this]
      · by_cases h2 : adm (at' t k)
        · rw [ih (k + 1) (by omega) (by omega) (by omega) (by omega)]
          simp [h2, h3]
        · simp [h2, h3]
    · rw [if_neg h1, List.drop_eq_nil_of_le (by omega)]
      have : t.length ≤ 400 := by omega
      simp [this]

def allAdm (t : List Int) : Bool := t.all adm && decide (t.length ≤ 400)

theorem areAdm_i (t : List Int) (ht : t.length ≤ 100000000) : M_i_areAdmissible t = some (allAdm t) := by
  unfold M_i_areAdmissible joinO allAdm
  show fixF (M_i_areAdmissible_L1 t fun _ => some true) FUEL 0 = _
  rw [areAdm_loop t ht _ FUEL 0 (by omega) (by omega) (.inl rfl) (by rw [fuel_eq]; omega)]
  simp only [Int.toNat_zero, List.drop_zero]
  by_cases h : t.length ≤ 400 <;> cases t.all adm <;> simp [h]

def lineOk (l : List Int × Int) : Bool := allAdm l.1 && decide (0 ≤ l.2 ∧ l.2 ≤ (l.1.length : Int))

theorem lineOk_s (l : List Int × Int) (hl : l.1.length ≤ 100000000) : M_s_LineOk l = some (lineOk l) := by
  unfold M_s_LineOk lineOk allAdm
  rw [allTyped_s _ hl]
  simp only [callO_of]
  congr 1
  by_cases h : l.1.length ≤ 400
  · have h' : (l.1.length : Int) ≤ 400 := by omega
    by_cases h2 : 0 ≤ l.2 <;> by_cases h3 : l.2 ≤ (l.1.length : Int) <;> cases l.1.all adm <;> simp [h, h', h2, h3]
  · have h' : ¬ (l.1.length : Int) ≤ 400 := by omega
    simp [h, h']

theorem lineOk_i (l : List Int × Int) (hl : l.1.length ≤ 100000000) : M_i_LineOk l = some (lineOk l) := by
  unfold M_i_LineOk lineOk
  rw [bindO_of (areAdm_i _ hl)]
  simp only [in_eq, callO_of]
  congr 1
  cases allAdm l.1 <;> simp

def pieceOk (p : List Int) : Bool := allAdm p && !(decide (p.length = 0))
theorem ringLoop_s (r : List (List Int)) (hr : r.length ≤ 100000000) (hp : ∀ p ∈ r, p.length ≤ 100000000) (j : Unit → Option Bool) : ∀ (m : Nat) (k : Int), 0 ≤ k → k ≤ (r.length : Int) → (r.length : Int) - k < m → fixF (M_s_RingOk_L1 r j) m k = if (r.drop k.toNat).all pieceOk then j () else some false := by
  intro m
  induction m with
  | zero => intro k _ _ h; omega
  | succ m ih =>
    intro k hk hk' hm
    simp only [fixF, M_s_RingOk_L1, guardO, Bool.cond_decide]
    by_cases h1 : k < (r.length : Int)
    · have hq := hp (at' r k) (List.mem_of_getElem? (at_some ⟨hk, h1⟩))
      have e : M_s_l15Piece (at' r k) = some (allAdm (at' r k)) := by
        unfold M_s_l15Piece allAdm
        rw [allTyped_s _ hq, callO_of]
        congr 1
        by_cases h : (at' r k).length ≤ 400
        · have h' : ((at' r k).length : Int) ≤ 400 := by omega
          simp [h, h']
        · have h' : ¬ ((at' r k).length : Int) ≤ 400 := by omega
          simp [h, h']
      rw [if_pos h1, if_pos ⟨hk, h1⟩, W_eq (by omega) (by omega), drop_at hk h1, e, callO_of, ih (k + 1) (by omega) (by omega) (by omega)]
      have hb : (if ((at' r k).length : Int) = 0 then true else !(if decide (((at' r k).length : Int) = 0) = false then allAdm (at' r k) else false)) = !(pieceOk (at' r k)) := by
        unfold pieceOk
        by_cases hz : (at' r k).length = 0
        · have hz' : ((at' r k).length : Int) = 0 := by omega
          rw [if_pos hz', decide_eq_true hz]; simp
        · have hz' : ¬ ((at' r k).length : Int) = 0 := by omega
          rw [if_neg hz', decide_eq_false hz, decide_eq_false hz']; simp
      rw [hb]
      by_cases hz : pieceOk (at' r k) = true <;> simp [hz]
    · rw [if_neg h1, List.drop_eq_nil_of_le (by omega)]
      simp

theorem ringLoop_i (r : List (List Int)) (hr : r.length ≤ 100000000) (hp : ∀ p ∈ r, p.length ≤ 100000000) (j : Unit → Option Bool) : ∀ (m : Nat) (k : Int), 0 ≤ k → k ≤ (r.length : Int) → (r.length : Int) - k < m → fixF (M_i_RingOk_L1 r j) m k = if (r.drop k.toNat).all pieceOk then j () else some false := by
  intro m
  induction m with
  | zero => intro k _ _ h; omega
  | succ m ih =>
    intro k hk hk' hm
    simp only [fixF, M_i_RingOk_L1, guardO, Bool.cond_decide]
    by_cases h1 : k < (r.length : Int)
    · have hq := hp (at' r k) (List.mem_of_getElem? (at_some ⟨hk, h1⟩))
      rw [if_pos h1, if_pos ⟨hk, h1⟩, W_eq (by omega) (by omega), drop_at hk h1, areAdm_i _ hq, callO_of, ih (k + 1) (by omega) (by omega) (by omega)]
      have hb : (if ((at' r k).length : Int) = 0 then true else !(if decide (((at' r k).length : Int) = 0) = false then allAdm (at' r k) else false)) = !(pieceOk (at' r k)) := by
        unfold pieceOk
        by_cases hz : (at' r k).length = 0
        · have hz' : ((at' r k).length : Int) = 0 := by omega
          rw [if_pos hz', decide_eq_true hz]; simp
        · have hz' : ¬ ((at' r k).length : Int) = 0 := by omega
          rw [if_neg hz', decide_eq_false hz, decide_eq_false hz']; simp
      rw [hb]
      by_cases hz : pieceOk (at' r k) = true <;> simp [hz]
    · rw [if_neg h1, List.drop_eq_nil_of_le (by omega)]
      simp

def ringOk (r : List (List Int)) : Bool := r.all pieceOk && decide (r.length ≤ 6)

theorem dec_len {n m : Nat} : decide ((n : Int) ≤ (m : Int)) = decide (n ≤ m) := by
  by_cases h : n ≤ m
  · rw [decide_eq_true h, decide_eq_true (by omega)]
  · rw [decide_eq_false h, decide_eq_false (by omega)]

theorem ringOk_s (r : List (List Int)) (hr : r.length ≤ 100000000) (hp : ∀ p ∈ r, p.length ≤ 100000000) : M_s_RingOk r = some (ringOk r) := by
  unfold M_s_RingOk ringOk
  simp only [joinO]
  rw [ringLoop_s r hr hp _ FUEL 0 (by omega) (by omega) (by rw [fuel_eq]; omega)]
  have := dec_len (n := r.length) (m := 6)
  simp only [Int.toNat_zero, List.drop_zero] at this ⊢
  have e6 : ((6 : Nat) : Int) = 6 := rfl
  rw [e6] at this
  rw [this]
  cases r.all pieceOk <;> simp

theorem ringOk_i (r : List (List Int)) (hr : r.length ≤ 100000000) (hp : ∀ p ∈ r, p.length ≤ 100000000) : M_i_RingOk r = some (ringOk r) := by
  unfold M_i_RingOk ringOk
  simp only [joinO]
  rw [ringLoop_i r hr hp _ FUEL 0 (by omega) (by omega) (by rw [fuel_eq]; omega)]
  have := dec_len (n := r.length) (m := 6)
  simp only [Int.toNat_zero, List.drop_zero] at this ⊢
  have e6 : ((6 : Nat) : Int) = 6 := rfl
  rw [e6] at this
  rw [this]
  cases r.all pieceOk <;> simp

theorem undoLoop_s (r : List (List Int × Int)) (hr : r.length ≤ 100000000) (hp : ∀ p ∈ r, p.1.length ≤ 100000000) (j : Unit → Option Bool) : ∀ (m : Nat) (k : Int), 0 ≤ k → k ≤ (r.length : Int) → (r.length : Int) - k < m → fixF (M_s_UndoOk_L1 r j) m k = if (r.drop k.toNat).all lineOk then j () else some false := by
  intro m
  induction m with
  | zero => intro k _ _ h; omega
  | succ m ih =>
    intro k hk hk' hm
    simp only [fixF, M_s_UndoOk_L1, guardO, Bool.cond_decide]
    by_cases h1 : k < (r.length : Int)
    · have hq := hp (at' r k) (List.mem_of_getElem? (at_some ⟨hk, h1⟩))
      rw [if_pos h1, if_pos ⟨hk, h1⟩, W_eq (by omega) (by omega), drop_at hk h1, bindO_of (lineOk_s (at' r k) hq), ih (k + 1) (by omega) (by omega) (by omega)]
      obtain ⟨x, hx⟩ : ∃ x, x = lineOk (at' r k) := ⟨_, rfl⟩
      rw [List.all_cons, ← hx]
      cases x <;> rfl
    · rw [if_neg h1, List.drop_eq_nil_of_le (by omega)]
      simp

theorem undoLoop_i (r : List (List Int × Int)) (hr : r.length ≤ 100000000) (hp : ∀ p ∈ r, p.1.length ≤ 100000000) (j : Unit → Option Bool) : ∀ (m : Nat) (k : Int), 0 ≤ k → k ≤ (r.length : Int) → (r.length : Int) - k < m → fixF (M_i_UndoOk_L1 r j) m k = if (r.drop k.toNat).all lineOk then j () else some false := by
  intro m
  induction m with
  | zero => intro k _ _ h; omega
  | succ m ih =>
    intro k hk hk' hm
    simp only [fixF, M_i_UndoOk_L1, guardO, Bool.cond_decide]
    by_cases h1 : k < (r.length : Int)
    · have hq := hp (at' r k) (List.mem_of_getElem? (at_some ⟨hk, h1⟩))
      rw [if_pos h1, if_pos ⟨hk, h1⟩, W_eq (by omega) (by omega), drop_at hk h1, bindO_of (lineOk_i (at' r k) hq), ih (k + 1) (by omega) (by omega) (by omega)]
      obtain ⟨x, hx⟩ : ∃ x, x = lineOk (at' r k) := ⟨_, rfl⟩
      rw [List.all_cons, ← hx]
      cases x <;> rfl
    · rw [if_neg h1, List.drop_eq_nil_of_le (by omega)]
      simp

def undoOk (r : List (List Int × Int)) : Bool := r.all lineOk && decide (r.length ≤ 20)

theorem undoOk_s (r : List (List Int × Int)) (hr : r.length ≤ 100000000) (hp : ∀ p ∈ r, p.1.length ≤ 100000000) : M_s_UndoOk r = some (undoOk r) := by
  unfold M_s_UndoOk undoOk
  simp only [joinO]
  rw [undoLoop_s r hr hp _ FUEL 0 (by omega) (by omega) (by rw [fuel_eq]; omega)]
  have := dec_len (n := r.length) (m := 20)
  simp only [Int.toNat_zero, List.drop_zero] at this ⊢
  have e6 : ((20 : Nat) : Int) = 20 := rfl
  rw [e6] at this
  rw [this]
  cases r.all lineOk <;> simp

theorem undoOk_i (r : List (List Int × Int)) (hr : r.length ≤ 100000000) (hp : ∀ p ∈ r, p.1.length ≤ 100000000) : M_i_UndoOk r = some (undoOk r) := by
  unfold M_i_UndoOk undoOk
  simp only [joinO]
  rw [undoLoop_i r hr hp _ FUEL 0 (by omega) (by omega) (by rw [fuel_eq]; omega)]
  have := dec_len (n := r.length) (m := 20)
  simp only [Int.toNat_zero, List.drop_zero] at this ⊢
  have e6 : ((20 : Nat) : Int) = 20 := rfl
  rw [e6] at this
  rw [this]
  cases r.all lineOk <;> simp

def among (n : Int) (l : List Int) : Bool := l.any (fun x => decide (x = n))

theorem hasInt_loop (l : List Int) (n : Int) (hl : l.length ≤ 100000000) : ∀ (m : Nat) (k : Int), 0 ≤ k → k ≤ (l.length : Int) → (l.length : Int) - k < m → fixF (M_s_l03HasInt_L1 l n fun _ => some false) m k = some (among n (l.drop k.toNat)) := by
  intro m
  induction m with
  | zero => intro k _ _ h; omega
  | succ m ih =>
    intro k hk hk' hm
    simp only [fixF, M_s_l03HasInt_L1, guardO, Bool.cond_decide]
    by_cases h1 : k < (l.length : Int)
    · rw [if_pos h1, if_pos ⟨hk, h1⟩, W_eq (by omega) (by omega), drop_at hk h1, ih (k + 1) (by omega) (by omega) (by omega)]
      unfold among
      by_cases h2 : at' l k = n
      · simp [h2]
      · simp [h2]
    · rw [if_neg h1, List.drop_eq_nil_of_le (by omega)]
      simp [among]

theorem among_s (n : Int) (l : List Int) (hl : l.length ≤ 100000000) : M_s_l21Among n l = some (among n l) := by
  unfold M_s_l21Among M_s_l03HasInt
  simp only [joinO]
  rw [hasInt_loop l n hl FUEL 0 (by omega) (by omega) (by rw [fuel_eq]; omega)]
  simp [bindO]

theorem isAmong_loop (l : List UInt8) (n : Int) (hl : l.length ≤ 100000000) : ∀ (m : Nat) (k : Int), 0 ≤ k → k ≤ (l.length : Int) → (l.length : Int) - k < m → fixF (M_i_isAmong_L1 n l fun _ => some false) m k = some (among n ((l.drop k.toNat).map (fun b => (b.toNat : Int)))) := by
  intro m
  induction m with
  | zero => intro k _ _ h; omega
  | succ m ih =>
    intro k hk hk' hm
    simp only [fixF, M_i_isAmong_L1, guardO, Bool.cond_decide]
    by_cases h1 : k < (l.length : Int)
    · rw [if_pos h1, if_pos ⟨hk, h1⟩, W_eq (by omega) (by omega), drop_at hk h1, ih (k + 1) (by omega) (by omega) (by omega)]
      unfold among
      by_cases h2 : ((at' l k).toNat : Int) = n
      · simp [h2]
      · simp [h2]
    · rw [if_neg h1, List.drop_eq_nil_of_le (by omega)]
      simp [among]

theorem among_i (n : Int) (l : List UInt8) (hl : l.length ≤ 100000000) : M_i_isAmong n l = some (among n (l.map (fun b => (b.toNat : Int)))) := by
  unfold M_i_isAmong
  simp only [joinO]
  rw [isAmong_loop l n hl FUEL 0 (by omega) (by omega) (by rw [fuel_eq]; omega)]
  simp

def emptyL (l : List Int × Int) : Bool := decide ((l.1.length : Int) = 0) && decide (l.2 = 0)
theorem empty_s (l : List Int × Int) : M_s_l21Empty l = some (emptyL l) := by
  unfold M_s_l21Empty emptyL; cases decide ((l.1.length : Int) = 0) <;> rfl
theorem empty_i (l : List Int × Int) : M_i_emptyLine l = some (emptyL l) := by
  unfold M_i_emptyLine emptyL; cases decide ((l.1.length : Int) = 0) <;> rfl

def atEnd (l : List Int × Int) : Bool := decide (0 < (l.1.length : Int)) && decide (l.2 = (l.1.length : Int))
theorem atEnd_i (l : List Int × Int) : M_i_isAtEnd l = some (atEnd l) := by
  unfold M_i_isAtEnd atEnd; cases decide (0 < (l.1.length : Int)) <;> rfl

abbrev EdT := Bool × Int × (List Int × Int) × Int × Int × Int × Int × Int × Int × Int × List (List Int) × (List (List Int × Int)) × Int × (List Int × Int) × List Int × Int × List Int × Int

def modeB (vi : Bool) (mode : Int) (line : List Int × Int) (op opc wait : Int) : Bool :=
  decide (0 ≤ mode ∧ mode ≤ 3 ∧ (mode = 0 → vi = false) ∧ (mode = 1 → vi = true) ∧ (mode = 2 → vi = true) ∧ (mode = 2 → atEnd line = false) ∧ (mode ≠ 2 → op = 0 ∧ opc = 0 ∧ wait = 0) ∧ (op = 0 → opc = 0)) && among op [0, 100, 99, 121] && among wait [0, 102, 70, 116, 84, 114]

def searchB (mode : Int) (query : List Int) (hit : Int) (back : List Int × Int) : Bool :=
  decide (mode = 3) || (decide ((query.length : Int) = 0) && decide (hit = 0) && emptyL back)

set_option maxHeartbeats 4000000 in
theorem mode_s (vi : Bool) (mode : Int) (line : List Int × Int) (count op opc wait fr fh last : Int) (ring : List (List Int)) (undo : List (List Int × Int)) (nav : Int) (own : List Int × Int) (query : List Int) (hit : Int) (back : List Int × Int) :
    M_s_l21Mode (vi, mode, line, count, op, opc, wait, fr, fh, last, ring, undo, nav, own, query, hit, back) = some (modeB vi mode line op opc wait && searchB mode query hit back) := by
  unfold M_s_l21Mode
  have hg : (gl (among op [0, 100, 99, 121]) ([0, 102, 70, 116, 84, 114] : List Int)).length ≤ 100000000 := by
    cases among op [0, 100, 99, 121] <;> simp [gl]
  simp only [empty_s, among_s _ _ (show ([0, 100, 99, 121] : List Int).length ≤ 100000000 by simp), bindO, callO_of]
  rw [among_s _ _ hg, callO_of]
  unfold modeB searchB
  generalize hA : among op [0, 100, 99, 121] = A
  generalize hE : emptyL back = E
  have hW : (if A = true then among wait (gl A [0, 102, 70, 116, 84, 114]) else false) = (A && among wait [0, 102, 70, 116, 84, 114]) := by
    cases A <;> simp [gl]
  rw [hW]
  generalize hB : among wait [0, 102, 70, 116, 84, 114] = Bw
  have hAt : (bif (bif (decide (mode = 2)) then (decide (0 < (line.1.length : Int))) else false) then (decide (line.2 = (line.1.length : Int))) else false) = (decide (mode = 2) && atEnd line) := by
    unfold atEnd
    by_cases h : mode = 2 <;> simp [h]
  rw [hAt]
  generalize atEnd line = T
  generalize hQ : (query.length : Int) = q
  have hq : 0 ≤ q := by omega
  by_cases m0 : mode < 0
  · have : ¬ 0 ≤ mode := by omega
    simp [m0, this]
  by_cases m3 : 3 < mode
  · have : ¬ mode ≤ 3 := by omega
    simp [m0, m3, this]
  have hm : mode = 0 ∨ mode = 1 ∨ mode = 2 ∨ mode = 3 := by omega
  by_cases q0 : 0 < q
  · have q0' : ¬ q = 0 := by omega
    rcases hm with rfl | rfl | rfl | rfl <;> cases vi <;> cases A <;> cases Bw <;> cases T <;> by_cases o : op = 0 <;> by_cases oc : opc = 0 <;> by_cases w : wait = 0 <;> simp [o, oc, w, q0, q0']
  · have q0' : q = 0 := by omega
    by_cases hh : hit = 0 <;> rcases hm with rfl | rfl | rfl | rfl <;> cases vi <;> cases A <;> cases Bw <;> cases T <;> cases E <;> by_cases o : op = 0 <;> by_cases oc : opc = 0 <;> by_cases w : wait = 0 <;> simp [o, oc, w, q0', hh]

theorem among_op (op : Int) : among op [0, 100, 99, 121] = (decide (op = 0) || among op [100, 99, 121]) := by
  have e : decide (0 = op) = decide (op = 0) := by simp [eq_comm]
  simp only [among, List.any_cons, e]
theorem among_wt (op : Int) : among op [0, 102, 70, 116, 84, 114] = (decide (op = 0) || among op [102, 70, 116, 84, 114]) := by
  have e : decide (0 = op) = decide (op = 0) := by simp [eq_comm]
  simp only [among, List.any_cons, e]

set_option maxHeartbeats 4000000 in
theorem mode_i (vi : Bool) (mode : Int) (line : List Int × Int) (count op opc wait fr fh last : Int) (ring : List (List Int)) (undo : List (List Int × Int)) (nav : Int) (own : List Int × Int) (query : List Int) (hit : Int) (back : List Int × Int) :
    M_i_modeOk (vi, mode, line, count, op, opc, wait, fr, fh, last, ring, undo, nav, own, query, hit, back) = some (modeB vi mode line op opc wait) := by
  unfold M_i_modeOk modeB
  have e1 : ([100, 99, 121] : List UInt8).map (fun b => (b.toNat : Int)) = [100, 99, 121] := rfl
  have e2 : ([102, 70, 116, 84, 114] : List UInt8).map (fun b => (b.toNat : Int)) = [102, 70, 116, 84, 114] := rfl
  simp only [atEnd_i, among_i _ _ (show ([100, 99, 121] : List UInt8).length ≤ 100000000 by simp), among_i _ _ (show ([102, 70, 116, 84, 114] : List UInt8).length ≤ 100000000 by simp), callO_of, joinO, e1, e2, among_op, among_wt]
  generalize among op [100, 99, 121] = A
  generalize among wait [102, 70, 116, 84, 114] = Bw
  generalize atEnd line = T
  by_cases m0 : mode < 0
  · have h1 : ¬ 0 ≤ mode := by omega
    have h2 : ¬ mode = 0 := by omega
    have h3 : ¬ mode = 1 := by omega
    have h4 : ¬ mode = 2 := by omega
    have h5 : ¬ mode = 3 := by omega
    simp [h1, h2, h3, h4, h5]
  by_cases m3 : 3 < mode
  · have h1 : ¬ mode ≤ 3 := by omega
    have h2 : ¬ mode = 0 := by omega
    have h3 : ¬ mode = 1 := by omega
    have h4 : ¬ mode = 2 := by omega
    have h5 : ¬ mode = 3 := by omega
    simp [h1, h2, h3, h4, h5]
  have hm : mode = 0 ∨ mode = 1 ∨ mode = 2 ∨ mode = 3 := by omega
  rcases hm with rfl | rfl | rfl | rfl <;> cases vi <;> cases A <;> cases Bw <;> cases T <;> by_cases o : op = 0 <;> by_cases oc : opc = 0 <;> by_cases w : wait = 0 <;> simp [o, oc, w]

def findB (fr fh : Int) : Bool := decide ((fr = 0 → fh = 0) ∧ (fr ≠ 0 → 0 ≤ fh ∧ fh ≤ 3)) && (decide (fr = 0) || pr fr)

def edOkB (e : EdT) : Bool := match e with
  | (vi, mode, line, count, op, opc, wait, fr, fh, last, ring, undo, nav, own, query, hit, back) =>
    lineOk line && lineOk own && lineOk back && decide (0 ≤ count ∧ count ≤ 999) && decide (0 ≤ opc ∧ opc ≤ 999) && modeB vi mode line op opc wait && findB fr fh && decide (0 ≤ last ∧ last ≤ 3) && ringOk ring && undoOk undo && decide (0 ≤ nav ∧ nav ≤ 1000000060) && decide (0 ≤ hit ∧ hit ≤ 1000000060) && (!decide (nav = 0) || emptyL own) && decide ((query.length : Int) ≤ 40) && query.all pr && searchB mode query hit back

def Small (N : Nat) (e : EdT) : Prop := match e with
  | (_, _, line, _, _, _, _, _, _, _, ring, undo, _, own, query, _, back) =>
    line.1.length ≤ N ∧ (ring.length ≤ N ∧ ∀ s ∈ ring, s.length ≤ N) ∧ (undo.length ≤ N ∧ ∀ s ∈ undo, s.1.length ≤ N) ∧ own.1.length ≤ N ∧ query.length ≤ N ∧ back.1.length ≤ N

theorem rng (X : Bool) (c lo hi : Int) : (bif (bif X then true else decide (c < lo)) then true else decide (hi < c)) = (X || !decide (lo ≤ c ∧ c ≤ hi)) := by
  by_cases h1 : c < lo
  · have : ¬ (lo ≤ c ∧ c ≤ hi) := by omega
    rw [decide_eq_true h1, decide_eq_false this]; cases X <;> rfl
  · by_cases h2 : hi < c
    · have : ¬ (lo ≤ c ∧ c ≤ hi) := by omega
      rw [decide_eq_true h2, decide_eq_false this]; cases X <;> simp
    · have : (lo ≤ c ∧ c ≤ hi) := by omega
      rw [decide_eq_false h1, decide_eq_false h2, decide_eq_true this]; cases X <;> rfl

theorem rng0 (c lo hi : Int) : (bif decide (c < lo) then true else decide (hi < c)) = !decide (lo ≤ c ∧ c ≤ hi) := by
  have := rng false c lo hi
  simpa using this

theorem gt_le (c hi : Int) : decide (hi < c) = !decide (c ≤ hi) := by
  by_cases h : hi < c
  · rw [decide_eq_true h, decide_eq_false (by omega)]; rfl
  · rw [decide_eq_false h, decide_eq_true (by omega)]; rfl

section
variable (vi : Bool) (mode : Int) (line : List Int × Int) (count op opc wait fr fh last : Int) (ring : List (List Int)) (undo : List (List Int × Int)) (nav : Int) (own : List Int × Int) (query : List Int) (hit : Int) (back : List Int × Int)

theorem edLoop_s (hq : query.length ≤ 100000000) : ∀ (m : Nat) (k : Int), 0 ≤ k → k ≤ (query.length : Int) → (query.length : Int) - k < m → fixF (M_s_EdOk_L1 (vi, mode, line, count, op, opc, wait, fr, fh, last, ring, undo, nav, own, query, hit, back) fun _ => some true) m k = some ((query.drop k.toNat).all pr) := by
  intro m
  induction m with
  | zero => intro k _ _ h; omega
  | succ m ih =>
    intro k hk hk' hm
    simp only [fixF, M_s_EdOk_L1, guardO, Bool.cond_decide, printable_s, bindO]
    by_cases h1 : k < (query.length : Int)
    · rw [if_pos h1, if_pos ⟨hk, h1⟩, W_eq (by omega) (by omega), drop_at hk h1]
      by_cases h2 : pr (at' query k) = true
      · rw [ih (k + 1) (by omega) (by omega) (by omega)]
        simp [h2]
      · simp [h2]
    · rw [if_neg h1, List.drop_eq_nil_of_le (by omega)]
      simp

theorem edLoop_i (hq : query.length ≤ 100000000) (j : Unit → Option Bool) : ∀ (m : Nat) (k : Int), 0 ≤ k → k ≤ (query.length : Int) → (query.length : Int) - k < m → fixF (M_i_EdOk_L1 (vi, mode, line, count, op, opc, wait, fr, fh, last, ring, undo, nav, own, query, hit, back) j) m k = if (query.drop k.toNat).all pr then j () else some false := by
  intro m
  induction m with
  | zero => intro k _ _ h; omega
  | succ m ih =>
    intro k hk hk' hm
    simp only [fixF, M_i_EdOk_L1, guardO, Bool.cond_decide, printable_i, bindO]
    by_cases h1 : k < (query.length : Int)
    · rw [if_pos h1, if_pos ⟨hk, h1⟩, W_eq (by omega) (by omega), drop_at hk h1]
      by_cases h2 : pr (at' query k) = true
      · rw [ih (k + 1) (by omega) (by omega) (by omega)]
        simp [h2]
      · simp [h2]
    · rw [if_neg h1, List.drop_eq_nil_of_le (by omega)]
      simp

theorem edOk_s (hs : Small 100000000 (vi, mode, line, count, op, opc, wait, fr, fh, last, ring, undo, nav, own, query, hit, back)) : M_s_EdOk (vi, mode, line, count, op, opc, wait, fr, fh, last, ring, undo, nav, own, query, hit, back) = some (edOkB (vi, mode, line, count, op, opc, wait, fr, fh, last, ring, undo, nav, own, query, hit, back)) := by
  obtain ⟨h1, ⟨h2, h3⟩, ⟨h4, h5⟩, h6, h7, h8⟩ := hs
  unfold M_s_EdOk edOkB
  simp only [lineOk_s line h1, lineOk_s own h6, lineOk_s back h8, mode_s, ringOk_s ring h2 h3, undoOk_s undo h4 h5, printable_s, empty_s, callO_of, joinO, rng, rng0]
  simp only [gt_le]
  rw [edLoop_s vi mode line count op opc wait fr fh last ring undo nav own query hit back h7 FUEL 0 (by omega) (by omega) (by rw [fuel_eq]; omega)]
  simp only [bindO, Int.toNat_zero, List.drop_zero]
  have hF : (bif (bif (decide (fr = 0)) then (!(decide (fh = 0))) else false) then true else (bif (!(decide (fr = 0))) then (!(if (!decide (fr = 0)) = true ∧ (bif decide (fr = 0) then !decide (fh = 0) else false) = false then pr fr else false) || !decide (0 ≤ fh ∧ fh ≤ 3)) else false)) = !(findB fr fh) := by
    unfold findB
    by_cases a : fr = 0
    · by_cases b : fh = 0 <;> simp [a, b]
    · by_cases b : 0 ≤ fh ∧ fh ≤ 3
      · cases pr fr <;> simp [a, b]
      · cases pr fr <;> simp [a, b]
  rw [hF]
  generalize lineOk line = A1
  generalize lineOk own = A2
  generalize lineOk back = A3
  generalize modeB vi mode line op opc wait = M
  generalize searchB mode query hit back = S
  generalize decide (0 ≤ count ∧ count ≤ 999) = C
  generalize decide (0 ≤ opc ∧ opc ≤ 999) = OC
  generalize decide (0 ≤ last ∧ last ≤ 3) = L
  generalize ringOk ring = R
  generalize undoOk undo = U
  generalize findB fr fh = F
  generalize decide (0 ≤ nav ∧ nav ≤ 1000000060) = N
  generalize decide (0 ≤ hit ∧ hit ≤ 1000000060) = H
  generalize decide (nav = 0) = N0
  generalize emptyL own = EO
  generalize decide ((query.length : Int) ≤ 40) = Q
  generalize query.all pr = P
  cases A1
  · simp
  cases A2
  · simp
  cases A3
  · simp
  cases M
  · simp
  cases S
  · simp
  cases C
  · simp
  cases OC
  · simp
  cases L
  · simp
  cases R
  · simp
  cases U
  · simp
  cases F
  · simp
  cases N
  · simp
  cases H
  · simp
  cases N0 <;> cases EO <;> cases Q <;> cases P <;> rfl

theorem edOk_i (hs : Small 100000000 (vi, mode, line, count, op, opc, wait, fr, fh, last, ring, undo, nav, own, query, hit, back)) : M_i_EdOk (vi, mode, line, count, op, opc, wait, fr, fh, last, ring, undo, nav, own, query, hit, back) = some (edOkB (vi, mode, line, count, op, opc, wait, fr, fh, last, ring, undo, nav, own, query, hit, back)) := by
  obtain ⟨h1, ⟨h2, h3⟩, ⟨h4, h5⟩, h6, h7, h8⟩ := hs
  unfold M_i_EdOk edOkB
  simp only [lineOk_i line h1, lineOk_i own h6, lineOk_i back h8, mode_i, ringOk_i ring h2 h3, undoOk_i undo h4 h5, printable_i, empty_i, callO_of, joinO, in_eq, gt_le]
  rw [edLoop_i vi mode line count op opc wait fr fh last ring undo nav own query hit back h7 _ FUEL 0 (by omega) (by omega) (by rw [fuel_eq]; omega)]
  simp only [bindO, Int.toNat_zero, List.drop_zero]
  have hF : (bif (bif (decide (fr = 0)) then (!(decide (fh = 0))) else false) then true else (bif (!(decide (fr = 0))) then (bif (!(if (!decide (fr = 0)) = true ∧ (bif decide (fr = 0) then !decide (fh = 0) else false) = false then pr fr else false)) then true else (!(if (!if (!decide (fr = 0)) = true ∧ (bif decide (fr = 0) then !decide (fh = 0) else false) = false then pr fr else false) = false ∧ (!decide (fr = 0)) = true ∧ (bif decide (fr = 0) then !decide (fh = 0) else false) = false then decide (0 ≤ fh ∧ fh ≤ 3) else false))) else false)) = !(findB fr fh) := by
    unfold findB
    by_cases a : fr = 0
    · by_cases b : fh = 0 <;> simp [a, b]
    · by_cases b : 0 ≤ fh ∧ fh ≤ 3
      · cases pr fr <;> simp [a, b]
      · cases pr fr <;> simp [a, b]
  rw [hF]
  have hS : (bif (decide (mode = 3)) then true else (bif (bif (decide ((query.length : Int) = 0)) then (decide (hit = 0)) else false) then (if (bif (decide ((query.length : Int) = 0)) then (decide (hit = 0)) else false) = true ∧ (decide (mode = 3)) = false then emptyL back else false) else false)) = searchB mode query hit back := by
    unfold searchB
    by_cases a : mode = 3 <;> by_cases b : (query.length : Int) = 0 <;> by_cases c : hit = 0 <;> cases emptyL back <;> simp [a, b, c]
  have hS' : emptyL (back.1, back.2) = emptyL back := rfl
  rw [hS', hS]
  generalize lineOk line = A1
  generalize lineOk own = A2
  generalize lineOk back = A3
  generalize modeB vi mode line op opc wait = M
  generalize searchB mode query hit back = S
  generalize decide (0 ≤ count ∧ count ≤ 999) = C
  generalize decide (0 ≤ opc ∧ opc ≤ 999) = OC
  generalize decide (0 ≤ last ∧ last ≤ 3) = L
  generalize ringOk ring = R
  generalize undoOk undo = U
  generalize findB fr fh = F
  generalize decide (0 ≤ nav ∧ nav ≤ 1000000060) = N
  generalize decide (0 ≤ hit ∧ hit ≤ 1000000060) = H
  generalize decide (nav = 0) = N0
  generalize emptyL own = EO
  generalize decide ((query.length : Int) ≤ 40) = Q
  generalize query.all pr = P
  cases A1
  · simp
  cases A2
  · simp
  cases A3
  · simp
  cases C
  · simp
  cases OC
  · simp
  cases M
  · simp
  cases F
  · simp
  cases L
  · simp
  cases R
  · simp
  cases U
  · simp
  cases N
  · simp
  cases H
  · simp
  cases N0 <;> cases EO <;> cases Q <;> cases P <;> cases S <;> rfl
end

def clipAt (mode : Int) (l : List Int × Int) : Int := if mode = 2 ∧ l.2 = (l.1.length : Int) ∧ 0 < l.2 then l.2 - 1 else l.2

def zEd : EdT := (false, 0, ([], 0), 0, 0, 0, 0, 0, 0, 0, [], [], 0, ([], 0), [], 0, ([], 0))

theorem edOkB_parts {vi : Bool} {mode : Int} {line : List Int × Int} {count op opc wait fr fh last : Int} {ring : List (List Int)} {undo : List (List Int × Int)} {nav : Int} {own : List Int × Int} {query : List Int} {hit : Int} {back : List Int × Int} (h : edOkB (vi, mode, line, count, op, opc, wait, fr, fh, last, ring, undo, nav, own, query, hit, back) = true) : lineOk line = true ∧ undoOk undo = true := by
  unfold edOkB at h
  simp only [Bool.and_eq_true] at h
  exact ⟨h.1.1.1.1.1.1.1.1.1.1.1.1.1.1.1, h.1.1.1.1.1.1.2⟩

theorem clip_s (vi : Bool) (mode : Int) (l : List Int × Int) (count op opc wait fr fh last : Int) (ring : List (List Int)) (undo : List (List Int × Int)) (nav : Int) (own : List Int × Int) (query : List Int) (hit : Int) (back : List Int × Int) (wl : l.2 ≤ 9223372036854775807) :
    M_s_l21Clip (vi, mode, l, count, op, opc, wait, fr, fh, last, ring, undo, nav, own, query, hit, back) = some (vi, mode, (l.1, clipAt mode l), count, op, opc, wait, fr, fh, last, ring, undo, nav, own, query, hit, back) := by
  unfold M_s_l21Clip clipAt
  simp only [joinO]
  by_cases a : mode = 2
  · by_cases b : l.2 = (l.1.length : Int)
    · by_cases c : 0 < l.2
      · rw [W_eq (x := l.2 - 1) (by omega) (by omega), if_pos (show mode = 2 ∧ l.2 = (l.1.length : Int) ∧ 0 < l.2 from ⟨a, b, c⟩), decide_eq_true a, decide_eq_true b, decide_eq_true c]
        rfl
      · rw [if_neg (show ¬ (mode = 2 ∧ l.2 = (l.1.length : Int) ∧ 0 < l.2) from fun h => c h.2.2), decide_eq_true a, decide_eq_true b, decide_eq_false c]
        rfl
    · rw [if_neg (show ¬ (mode = 2 ∧ l.2 = (l.1.length : Int) ∧ 0 < l.2) from fun h => b h.2.1), decide_eq_true a, decide_eq_false b]
      rfl
  · rw [if_neg (show ¬ (mode = 2 ∧ l.2 = (l.1.length : Int) ∧ 0 < l.2) from fun h => a h.1), decide_eq_false a]
    rfl

theorem inCommand_i (l : List Int × Int) (mode : Int) (wl : l.2 ≤ 9223372036854775807) : M_i_inCommand l mode = some (l.1, clipAt mode l) := by
  unfold M_i_inCommand clipAt
  simp only [joinO, atEnd_i, callO_of]
  unfold atEnd
  by_cases a : mode = 2
  · by_cases b : l.2 = (l.1.length : Int)
    · by_cases c : 0 < l.2
      · have c' : 0 < (l.1.length : Int) := by omega
        rw [W_eq (x := l.2 - 1) (by omega) (by omega), if_pos (show mode = 2 ∧ l.2 = (l.1.length : Int) ∧ 0 < l.2 from ⟨a, b, c⟩), decide_eq_true a, decide_eq_true b, decide_eq_true c']
        rfl
      · have c' : ¬ 0 < (l.1.length : Int) := by omega
        rw [if_neg (show ¬ (mode = 2 ∧ l.2 = (l.1.length : Int) ∧ 0 < l.2) from fun h => c h.2.2), decide_eq_true a, decide_eq_false c']
        rfl
    · rw [if_neg (show ¬ (mode = 2 ∧ l.2 = (l.1.length : Int) ∧ 0 < l.2) from fun h => b h.2.1), decide_eq_true a, decide_eq_false b]
      simp
  · rw [if_neg (show ¬ (mode = 2 ∧ l.2 = (l.1.length : Int) ∧ 0 < l.2) from fun h => a h.1), decide_eq_false a]
    rfl

theorem join_s (a b c : List Int) (h : a.length + b.length + c.length ≤ 536870912) : M_s_l13Join a b c = some (a ++ b ++ c) := by
  unfold M_s_l13Join guardO
  rw [if_pos (by simp; omega), if_pos (by simp; omega), if_pos (by simp; omega)]
  simp

theorem allAdm_len {t : List Int} (h : allAdm t = true) : t.length ≤ 400 := by
  unfold allAdm at h
  simp only [Bool.and_eq_true, decide_eq_true_eq] at h
  exact h.2

theorem ringOk_spec {r : List (List Int)} (h : ringOk r = true) : r.length ≤ 6 ∧ ∀ s ∈ r, allAdm s = true ∧ 0 < s.length := by
  unfold ringOk at h
  simp only [Bool.and_eq_true, decide_eq_true_eq, List.all_eq_true] at h
  refine ⟨h.2, fun s hs => ?_⟩
  have := h.1 s hs
  unfold pieceOk at this
  simp only [Bool.and_eq_true, Bool.not_eq_true', decide_eq_false_iff_not] at this
  exact ⟨this.1, by omega⟩

theorem lineOk_at {l : List Int × Int} (h : lineOk l = true) : 0 ≤ l.2 ∧ l.2 ≤ (l.1.length : Int) ∧ l.1.length ≤ 400 := by
  unfold lineOk allAdm at h
  simp only [Bool.and_eq_true, decide_eq_true_eq] at h
  exact ⟨h.2.1, h.2.2, h.1.2⟩

theorem at_get {α : Type} [Inhabited α] {l : List α} {k : Int} (h0 : 0 ≤ k) (h : k < (l.length : Int)) : l[k.toNat]? = some (at' l k) := at_some ⟨h0, h⟩

theorem toIntS_loop (xs : List Int) (hl : (xs.length : Int) ≤ 100000000) (j : List Int → Option (List Int)) : ∀ (m : Nat) (ys : List Int) (k : Int), 0 ≤ k → k ≤ (xs.length : Int) → ys.length = xs.length → (∀ i : Nat, (i : Int) < k → ys[i]? = xs[i]?) → (xs.length : Int) - k < m → 0 < m →
    fixF (M_l_toIntS_L1 xs j) m (ys, k) = j xs := by
  intro m
  induction m with
  | zero => intro ys k _ _ _ _ h h'; omega
  | succ m ih =>
    intro ys k hk hk' hy hyx hm _
    simp only [fixF, M_l_toIntS_L1, guardO, Bool.cond_decide]
    by_cases h1 : k < (xs.length : Int)
    · have h2 : k < (ys.length : Int) := by omega
      simp only [h1, h2, hk, if_true, and_self]
      rw [W_eq (by omega) (by omega)]
      refine ih _ _ (by omega) (by omega) (by simpa using hy) (fun i hi => ?_) (by omega) (by omega)
      rw [List.getElem?_set]
      by_cases he : k.toNat = i
      · subst he
        rw [if_pos rfl, if_pos (by omega), at_get hk h1]
      · rw [if_neg he]
        exact hyx i (by omega)
    · simp only [h1, if_false]
      congr 1
      apply List.ext_getElem?
      intro i
      by_cases hi : (i : Int) < k
      · exact hyx i hi
      · rw [List.getElem?_eq_none (by omega), List.getElem?_eq_none (by omega)]

theorem toIntS_eq (xs : List Int) (hl : (xs.length : Int) ≤ 100000000) : M_l_toIntS xs = some xs := by
  unfold M_l_toIntS guardO
  rw [if_pos (by omega)]
  exact toIntS_loop xs hl _ FUEL _ 0 (by omega) (by omega) (by simp) (fun i hi => by omega) (by rw [fuel_eq]; omega) (by rw [fuel_eq]; omega)

theorem eqIntS_loop (xs : List Int) (hl : (xs.length : Int) ≤ 100000000) (j : Unit → Option Bool) : ∀ (m : Nat) (k : Int), 0 ≤ k → k ≤ (xs.length : Int) → (xs.length : Int) - k < m → 0 < m → fixF (M_l_eqIntS_L1 xs xs j) m k = j () := by
  intro m
  induction m with
  | zero => intro k _ _ h h'; omega
  | succ m ih =>
    intro k hk hk' hm _
    simp only [fixF, M_l_eqIntS_L1, guardO, Bool.cond_decide]
    by_cases h1 : k < (xs.length : Int)
    · simp only [h1, hk, if_true, and_self, decide_true, Bool.not_true, cond_false]
      rw [W_eq (by omega) (by omega)]
      exact ih _ (by omega) (by omega) (by omega) (by omega)
    · simp only [h1, if_false]

theorem eqIntS_self (xs : List Int) (hl : (xs.length : Int) ≤ 100000000) : M_l_eqIntS xs xs = some true := by
  unfold M_l_eqIntS
  simp only [decide_true, Bool.not_true, cond_false]
  exact eqIntS_loop xs hl _ FUEL 0 (by omega) (by omega) (by rw [fuel_eq]; omega) (by rw [fuel_eq]; omega)

theorem szIntS_ok (xs : List Int) (hx : xs.length ≤ maxLen) (left : Int) (h0 : 0 ≤ left) (h1 : left ≤ 1048576) :
    ∃ v, M_l_szIntS xs left = some v ∧ (v = -1 ∨ (0 ≤ v ∧ v ≤ left ∧ (xs.length : Int) ≤ left)) := by
  have hM' : maxLen ≤ 9223372036854775807 := by decide
  unfold M_l_szIntS
  rw [W_eq (by omega) (by omega)]
  by_cases h : left - (xs.length : Int) < 0
  · exact ⟨-1, by simp [h], .inl rfl⟩
  · exact ⟨left - xs.length, by simp [h], .inr (by omega)⟩

theorem szLine_ok (l : List Int × Int) (hx : l.1.length ≤ maxLen) (left : Int) (h0 : 0 ≤ left) (h1 : left ≤ 1048576) :
    ∃ v, M_l_szLine l left = some v ∧ (v = -1 ∨ (0 ≤ v ∧ v ≤ left ∧ (l.1.length : Int) ≤ left)) := by
  obtain ⟨v, e, hv⟩ := szIntS_ok l.1 hx left h0 h1
  unfold M_l_szLine
  rw [bindO_of e]
  rcases hv with rfl | ⟨v0, v1, v2⟩
  · exact ⟨-1, rfl, .inl rfl⟩
  · have : ¬ v < 0 := by omega
    exact ⟨v, by simp [this], .inr ⟨v0, v1, v2⟩⟩

theorem szPiece_ok (l : List Int) (hx : l.length ≤ maxLen) (left : Int) (h0 : 0 ≤ left) (h1 : left ≤ 1048576) :
    ∃ v, M_l_szPiece l left = some v ∧ (v = -1 ∨ (0 ≤ v ∧ v ≤ left ∧ (l.length : Int) ≤ left)) := by
  obtain ⟨v, e, hv⟩ := szIntS_ok l hx left h0 h1
  unfold M_l_szPiece
  rw [bindO_of e]
  rcases hv with rfl | ⟨v0, v1, v2⟩
  · exact ⟨-1, rfl, .inl rfl⟩
  · have : ¬ v < 0 := by omega
    exact ⟨v, by simp [this], .inr ⟨v0, v1, v2⟩⟩

theorem szPieceS_loop (xs : List (List Int)) (hx : xs.length ≤ maxLen) (hs : ∀ s ∈ xs, s.length ≤ maxLen) : ∀ (m : Nat) (left k : Int), 0 ≤ left → left ≤ 1048576 → 0 ≤ k → k ≤ (xs.length : Int) → (xs.length : Int) - k < m → 0 < m →
    ∃ v, fixF (M_l_szPieceS_L1 xs fun x => some x) m (left, k) = some v ∧ (v = -1 ∨ (0 ≤ v ∧ v ≤ left ∧ ∀ s ∈ xs.drop k.toNat, (s.length : Int) ≤ left)) := by
  have hM' : maxLen ≤ 9223372036854775807 := by decide
  intro m
  induction m with
  | zero => intro left k _ _ _ _ _ h; omega
  | succ m ih =>
    intro left k h0 h1 hk hk' hm _
    simp only [fixF, M_l_szPieceS_L1, guardO, Bool.cond_decide]
    by_cases h2 : k < (xs.length : Int)
    · rw [if_pos h2, if_pos ⟨hk, h2⟩]
      have hb := hs (at' xs k) (List.mem_of_getElem? (at_some ⟨hk, h2⟩))
      obtain ⟨v, e, hv⟩ := szPiece_ok (at' xs k) hb left h0 h1
      rw [bindO_of e, W_eq (x := k + 1) (by omega) (by omega)]
      rcases hv with rfl | ⟨v0, v1, v2⟩
      · exact ⟨-1, rfl, .inl rfl⟩
      · rw [if_neg (by omega)]
        obtain ⟨u, e', hu⟩ := ih v (k + 1) v0 (by omega) (by omega) (by omega) (by omega) (by omega)
        refine ⟨u, e', ?_⟩
        rcases hu with hu | ⟨g1, g2, g3⟩
        · exact .inl hu
        · refine .inr ⟨g1, by omega, ?_⟩
          rw [drop_at hk h2]
          intro s hs'
          rcases List.mem_cons.1 hs' with rfl | hs'
          · omega
          · have := g3 s hs'; omega
    · rw [if_neg h2]
      exact ⟨left, rfl, .inr ⟨h0, Int.le_refl _, by rw [List.drop_eq_nil_of_le (by omega)]; simp⟩⟩

theorem szPieceS_ok (xs : List (List Int)) (hx : xs.length ≤ maxLen) (hs : ∀ s ∈ xs, s.length ≤ maxLen) (left : Int) (h0 : 0 ≤ left) (h1 : left ≤ 1048576) :
    ∃ v, M_l_szPieceS xs left = some v ∧ (v = -1 ∨ (0 ≤ v ∧ v ≤ left ∧ (xs.length : Int) ≤ left ∧ ∀ s ∈ xs, (s.length : Int) ≤ left)) := by
  have hM' : maxLen ≤ 9223372036854775807 := by decide
  unfold M_l_szPieceS
  simp only [Bool.cond_decide, joinO]
  rw [W_eq (x := left - (xs.length : Int)) (by omega) (by omega)]
  by_cases h : left - (xs.length : Int) < 0
  · rw [if_pos h]; exact ⟨-1, rfl, .inl rfl⟩
  · rw [if_neg h]
    obtain ⟨v, e, hv⟩ := szPieceS_loop xs hx hs FUEL (left - (xs.length : Int)) 0 (by omega) (by omega) (by omega) (by omega) (by rw [fuel_eq]; omega) (by rw [fuel_eq]; omega)
    refine ⟨v, e, ?_⟩
    rcases hv with hv | ⟨g1, g2, g3⟩
    · exact .inl hv
    · refine .inr ⟨g1, by omega, by omega, fun s hs' => ?_⟩
      have := g3 s (by simpa using hs')
      omega

theorem szRing_ok (xs : List (List Int)) (hx : xs.length ≤ maxLen) (hs : ∀ s ∈ xs, s.length ≤ maxLen) (left : Int) (h0 : 0 ≤ left) (h1 : left ≤ 1048576) :
    ∃ v, M_l_szRing xs left = some v ∧ (v = -1 ∨ (0 ≤ v ∧ v ≤ left ∧ (xs.length : Int) ≤ left ∧ ∀ s ∈ xs, (s.length : Int) ≤ left)) := by
  obtain ⟨v, e, hv⟩ := szPieceS_ok xs hx hs left h0 h1
  unfold M_l_szRing
  rw [bindO_of e]
  rcases hv with rfl | ⟨v0, v1, v2⟩
  · exact ⟨-1, rfl, .inl rfl⟩
  · have : ¬ v < 0 := by omega
    exact ⟨v, by simp [this], .inr ⟨v0, v1, v2⟩⟩

theorem szLineS_loop (xs : List (List Int × Int)) (hx : xs.length ≤ maxLen) (hs : ∀ s ∈ xs, s.1.length ≤ maxLen) : ∀ (m : Nat) (left k : Int), 0 ≤ left → left ≤ 1048576 → 0 ≤ k → k ≤ (xs.length : Int) → (xs.length : Int) - k < m → 0 < m →
    ∃ v, fixF (M_l_szLineS_L1 xs fun x => some x) m (left, k) = some v ∧ (v = -1 ∨ (0 ≤ v ∧ v ≤ left ∧ ∀ s ∈ xs.drop k.toNat, (s.1.length : Int) ≤ left)) := by
  have hM' : maxLen ≤ 9223372036854775807 := by decide
  intro m
  induction m with
  | zero => intro left k _ _ _ _ _ h; omega
  | succ m ih =>
    intro left k h0 h1 hk hk' hm _
    simp only [fixF, M_l_szLineS_L1, guardO, Bool.cond_decide]
    by_cases h2 : k < (xs.length : Int)
    · rw [if_pos h2, if_pos ⟨hk, h2⟩]
      have hb := hs (at' xs k) (List.mem_of_getElem? (at_some ⟨hk, h2⟩))
      obtain ⟨v, e, hv⟩ := szLine_ok (at' xs k) hb left h0 h1
      rw [bindO_of e, W_eq (x := k + 1) (by omega) (by omega)]
      rcases hv with rfl | ⟨v0, v1, v2⟩
      · exact ⟨-1, rfl, .inl rfl⟩
      · rw [if_neg (by omega)]
        obtain ⟨u, e', hu⟩ := ih v (k + 1) v0 (by omega) (by omega) (by omega) (by omega) (by omega)
        refine ⟨u, e', ?_⟩
        rcases hu with hu | ⟨g1, g2, g3⟩
        · exact .inl hu
        · refine .inr ⟨g1, by omega, ?_⟩
          rw [drop_at hk h2]
          intro s hs'
          rcases List.mem_cons.1 hs' with rfl | hs'
          · omega
          · have := g3 s hs'; omega
    · rw [if_neg h2]
      exact ⟨left, rfl, .inr ⟨h0, Int.le_refl _, by rw [List.drop_eq_nil_of_le (by omega)]; simp⟩⟩

theorem szLineS_ok (xs : List (List Int × Int)) (hx : xs.length ≤ maxLen) (hs : ∀ s ∈ xs, s.1.length ≤ maxLen) (left : Int) (h0 : 0 ≤ left) (h1 : left ≤ 1048576) :
    ∃ v, M_l_szLineS xs left = some v ∧ (v = -1 ∨ (0 ≤ v ∧ v ≤ left ∧ (xs.length : Int) ≤ left ∧ ∀ s ∈ xs, (s.1.length : Int) ≤ left)) := by
  have hM' : maxLen ≤ 9223372036854775807 := by decide
  unfold M_l_szLineS
  simp only [Bool.cond_decide, joinO]
  rw [W_eq (x := left - (xs.length : Int)) (by omega) (by omega)]
  by_cases h : left - (xs.length : Int) < 0
  · rw [if_pos h]; exact ⟨-1, rfl, .inl rfl⟩
  · rw [if_neg h]
    obtain ⟨v, e, hv⟩ := szLineS_loop xs hx hs FUEL (left - (xs.length : Int)) 0 (by omega) (by omega) (by omega) (by omega) (by rw [fuel_eq]; omega) (by rw [fuel_eq]; omega)
    refine ⟨v, e, ?_⟩
    rcases hv with hv | ⟨g1, g2, g3⟩
    · exact .inl hv
    · refine .inr ⟨g1, by omega, by omega, fun s hs' => ?_⟩
      have := g3 s (by simpa using hs')
      omega

theorem szUndo_ok (xs : List (List Int × Int)) (hx : xs.length ≤ maxLen) (hs : ∀ s ∈ xs, s.1.length ≤ maxLen) (left : Int) (h0 : 0 ≤ left) (h1 : left ≤ 1048576) :
    ∃ v, M_l_szUndo xs left = some v ∧ (v = -1 ∨ (0 ≤ v ∧ v ≤ left ∧ (xs.length : Int) ≤ left ∧ ∀ s ∈ xs, (s.1.length : Int) ≤ left)) := by
  obtain ⟨v, e, hv⟩ := szLineS_ok xs hx hs left h0 h1
  unfold M_l_szUndo
  rw [bindO_of e]
  rcases hv with rfl | ⟨v0, v1, v2⟩
  · exact ⟨-1, rfl, .inl rfl⟩
  · have : ¬ v < 0 := by omega
    exact ⟨v, by simp [this], .inr ⟨v0, v1, v2⟩⟩

theorem toLine_eq (l : List Int × Int) (hl : (l.1.length : Int) ≤ 100000000) : M_l_toLine l = some l := by
  unfold M_l_toLine; rw [bindO_of (toIntS_eq l.1 hl)]
theorem toPiece_eq (l : List Int) (hl : (l.length : Int) ≤ 100000000) : M_l_toPiece l = some l := by
  unfold M_l_toPiece; rw [bindO_of (toIntS_eq l hl)]

theorem toPieceS_loop (xs : List (List Int)) (hl : (xs.length : Int) ≤ 100000000) (hs : ∀ s ∈ xs, (s.length : Int) ≤ 100000000) (j : List (List Int) → Option (List (List Int))) : ∀ (m : Nat) (ys : List (List Int)) (k : Int), 0 ≤ k → k ≤ (xs.length : Int) → ys.length = xs.length → (∀ i : Nat, (i : Int) < k → ys[i]? = xs[i]?) → (xs.length : Int) - k < m → 0 < m →
    fixF (M_l_toPieceS_L1 xs j) m (ys, k) = j xs := by
  intro m
  induction m with
  | zero => intro ys k _ _ _ _ h h'; omega
  | succ m ih =>
    intro ys k hk hk' hy hyx hm _
    simp only [fixF, M_l_toPieceS_L1, guardO, Bool.cond_decide]
    by_cases h1 : k < (xs.length : Int)
    · have h2 : k < (ys.length : Int) := by omega
      have hb := hs (at' xs k) (List.mem_of_getElem? (at_some ⟨hk, h1⟩))
      rw [if_pos h1, if_pos ⟨hk, h1⟩, bindO_of (toPiece_eq _ hb), if_pos ⟨hk, h2⟩]
      rw [W_eq (by omega) (by omega)]
      refine ih _ _ (by omega) (by omega) (by simpa using hy) (fun i hi => ?_) (by omega) (by omega)
      rw [List.getElem?_set]
      by_cases he : k.toNat = i
      · subst he
        rw [if_pos rfl, if_pos (by omega), at_some ⟨hk, h1⟩]
      · rw [if_neg he]
        exact hyx i (by omega)
    · simp only [h1, if_false]
      congr 1
      apply List.ext_getElem?
      intro i
      by_cases hi : (i : Int) < k
      · exact hyx i hi
      · rw [List.getElem?_eq_none (by omega), List.getElem?_eq_none (by omega)]

theorem toRing_eq (xs : List (List Int)) (hl : (xs.length : Int) ≤ 100000000) (hs : ∀ s ∈ xs, (s.length : Int) ≤ 100000000) : M_l_toRing xs = some xs := by
  unfold M_l_toRing M_l_toPieceS guardO
  rw [if_pos (by omega)]
  simp only [joinO]
  rw [toPieceS_loop xs hl hs _ FUEL _ 0 (by omega) (by omega) (by simp) (fun i hi => by omega) (by rw [fuel_eq]; omega) (by rw [fuel_eq]; omega)]
  rfl

theorem toLineS_loop (xs : List (List Int × Int)) (hl : (xs.length : Int) ≤ 100000000) (hs : ∀ s ∈ xs, (s.1.length : Int) ≤ 100000000) (j : List (List Int × Int) → Option (List (List Int × Int))) : ∀ (m : Nat) (ys : List (List Int × Int)) (k : Int), 0 ≤ k → k ≤ (xs.length : Int) → ys.length = xs.length → (∀ i : Nat, (i : Int) < k → ys[i]? = xs[i]?) → (xs.length : Int) - k < m → 0 < m →
    fixF (M_l_toLineS_L1 xs j) m (ys, k) = j xs := by
  intro m
  induction m with
  | zero => intro ys k _ _ _ _ h h'; omega
  | succ m ih =>
    intro ys k hk hk' hy hyx hm _
    simp only [fixF, M_l_toLineS_L1, guardO, Bool.cond_decide]
    by_cases h1 : k < (xs.length : Int)
    · have h2 : k < (ys.length : Int) := by omega
      have hb := hs (at' xs k) (List.mem_of_getElem? (at_some ⟨hk, h1⟩))
      rw [if_pos h1, if_pos ⟨hk, h1⟩, bindO_of (toLine_eq (at' xs k) hb), if_pos ⟨hk, h2⟩]
      rw [W_eq (by omega) (by omega)]
      refine ih _ _ (by omega) (by omega) (by simpa using hy) (fun i hi => ?_) (by omega) (by omega)
      rw [List.getElem?_set]
      by_cases he : k.toNat = i
      · subst he
        rw [if_pos rfl, if_pos (by omega), at_some ⟨hk, h1⟩]
      · rw [if_neg he]
        exact hyx i (by omega)
    · simp only [h1, if_false]
      congr 1
      apply List.ext_getElem?
      intro i
      by_cases hi : (i : Int) < k
      · exact hyx i hi
      · rw [List.getElem?_eq_none (by omega), List.getElem?_eq_none (by omega)]

theorem toUndo_eq (xs : List (List Int × Int)) (hl : (xs.length : Int) ≤ 100000000) (hs : ∀ s ∈ xs, (s.1.length : Int) ≤ 100000000) : M_l_toUndo xs = some xs := by
  unfold M_l_toUndo M_l_toLineS guardO
  rw [if_pos (by omega)]
  simp only [joinO]
  rw [toLineS_loop xs hl hs _ FUEL _ 0 (by omega) (by omega) (by simp) (fun i hi => by omega) (by rw [fuel_eq]; omega) (by rw [fuel_eq]; omega)]
  rfl

theorem eqLine_self (l : List Int × Int) (hl : (l.1.length : Int) ≤ 100000000) : M_l_eqLine l l = some true := by
  unfold M_l_eqLine; rw [bindO_of (eqIntS_self l.1 hl)]; simp
theorem eqPiece_self (l : List Int) (hl : (l.length : Int) ≤ 100000000) : M_l_eqPiece l l = some true := by
  unfold M_l_eqPiece; rw [bindO_of (eqIntS_self l hl)]; simp

theorem eqRing_self (xs : List (List Int)) (hl : (xs.length : Int) ≤ 100000000) (hs : ∀ s ∈ xs, (s.length : Int) ≤ 100000000) : M_l_eqRing xs xs = some true := by
  have loop : ∀ (j : Unit → Option Bool) (m : Nat) (k : Int), 0 ≤ k → k ≤ (xs.length : Int) → (xs.length : Int) - k < m → 0 < m → fixF (M_l_eqPieceS_L1 xs xs j) m k = j () := by
    intro j m
    induction m with
    | zero => intro k _ _ h h'; omega
    | succ m ih =>
      intro k hk hk' hm _
      simp only [fixF, M_l_eqPieceS_L1, guardO, Bool.cond_decide]
      by_cases h1 : k < (xs.length : Int)
      · have hb := hs (at' xs k) (List.mem_of_getElem? (at_some ⟨hk, h1⟩))
        rw [if_pos h1, if_pos ⟨hk, h1⟩, if_pos ⟨hk, h1⟩, bindO_of (eqPiece_self _ hb)]
        simp only [Bool.not_true, cond_false]
        rw [W_eq (by omega) (by omega)]
        exact ih _ (by omega) (by omega) (by omega) (by omega)
      · simp only [h1, if_false]
  unfold M_l_eqRing M_l_eqPieceS
  simp only [decide_true, Bool.not_true, cond_false, joinO]
  rw [loop _ FUEL 0 (by omega) (by omega) (by rw [fuel_eq]; omega) (by rw [fuel_eq]; omega)]
  rfl

theorem eqUndo_self (xs : List (List Int × Int)) (hl : (xs.length : Int) ≤ 100000000) (hs : ∀ s ∈ xs, (s.1.length : Int) ≤ 100000000) : M_l_eqUndo xs xs = some true := by
  have loop : ∀ (j : Unit → Option Bool) (m : Nat) (k : Int), 0 ≤ k → k ≤ (xs.length : Int) → (xs.length : Int) - k < m → 0 < m → fixF (M_l_eqLineS_L1 xs xs j) m k = j () := by
    intro j m
    induction m with
    | zero => intro k _ _ h h'; omega
    | succ m ih =>
      intro k hk hk' hm _
      simp only [fixF, M_l_eqLineS_L1, guardO, Bool.cond_decide]
      by_cases h1 : k < (xs.length : Int)
      · have hb := hs (at' xs k) (List.mem_of_getElem? (at_some ⟨hk, h1⟩))
        rw [if_pos h1, if_pos ⟨hk, h1⟩, if_pos ⟨hk, h1⟩, bindO_of (eqLine_self (at' xs k) hb)]
        simp only [Bool.not_true, cond_false]
        rw [W_eq (by omega) (by omega)]
        exact ih _ (by omega) (by omega) (by omega) (by omega)
      · simp only [h1, if_false]
  unfold M_l_eqUndo M_l_eqLineS
  simp only [decide_true, Bool.not_true, cond_false, joinO]
  rw [loop _ FUEL 0 (by omega) (by omega) (by rw [fuel_eq]; omega) (by rw [fuel_eq]; omega)]
  rfl

theorem szEd_ok (vi : Bool) (mode : Int) (line : List Int × Int) (count op opc wait fr fh last : Int) (ring : List (List Int)) (undo : List (List Int × Int)) (nav : Int) (own : List Int × Int) (query : List Int) (hit : Int) (back : List Int × Int)
    (w : WfT (.pair .bool (.pair (.int .i64) (.pair (.pair (.sl (.int .i64)) (.int .i64)) (.pair (.int .i64) (.pair (.int .i64) (.pair (.int .i64) (.pair (.int .i64) (.pair (.int .i64) (.pair (.int .i64) (.pair (.int .i64) (.pair (.sl (.sl (.int .i64))) (.pair (.sl (.pair (.sl (.int .i64)) (.int .i64))) (.pair (.int .i64) (.pair (.pair (.sl (.int .i64)) (.int .i64)) (.pair (.sl (.int .i64)) (.pair (.int .i64) (.pair (.sl (.int .i64)) (.int .i64)))))))))))))))))) (vi, mode, line, count, op, opc, wait, fr, fh, last, ring, undo, nav, own, query, hit, back))
    (left : Int) (h0 : 0 ≤ left) (h1 : left ≤ 1048576) :
    ∃ v, M_l_szEd (vi, mode, line, count, op, opc, wait, fr, fh, last, ring, undo, nav, own, query, hit, back) left = some v ∧ (v = -1 ∨ (0 ≤ v ∧ v ≤ left ∧ Small 1048576 (vi, mode, line, count, op, opc, wait, fr, fh, last, ring, undo, nav, own, query, hit, back))) := by
  obtain ⟨w1, w2, ⟨⟨w3, _⟩, w4⟩, w5, w6, w7, w8, w9, w10, w11, ⟨w12, w12'⟩, ⟨w13, w13'⟩, w14, ⟨⟨w15, _⟩, _⟩, ⟨w16, _⟩, w17, ⟨w18, _⟩, _⟩ := w
  unfold M_l_szEd
  obtain ⟨a1, e1, v1⟩ := szLine_ok line w3 left h0 h1
  simp only [Bool.cond_decide]
  rw [bindO_of e1]
  rcases v1 with rfl | ⟨p1, q1, s1⟩
  · exact ⟨-1, rfl, .inl rfl⟩
  rw [if_neg (by omega)]
  obtain ⟨a2, e2, v2⟩ := szRing_ok ring w12 (fun s hs => (w12' s hs).1) a1 p1 (by omega)
  rw [bindO_of e2]
  rcases v2 with rfl | ⟨p2, q2, s2, s2'⟩
  · exact ⟨-1, rfl, .inl rfl⟩
  rw [if_neg (by omega)]
  obtain ⟨a3, e3, v3⟩ := szUndo_ok undo w13 (fun s hs => (w13' s hs).1.1) a2 p2 (by omega)
  rw [bindO_of e3]
  rcases v3 with rfl | ⟨p3, q3, s3, s3'⟩
  · exact ⟨-1, rfl, .inl rfl⟩
  rw [if_neg (by omega)]
  obtain ⟨a4, e4, v4⟩ := szLine_ok own w15 a3 p3 (by omega)
  rw [bindO_of e4]
  rcases v4 with rfl | ⟨p4, q4, s4⟩
  · exact ⟨-1, rfl, .inl rfl⟩
  rw [if_neg (by omega)]
  obtain ⟨a5, e5, v5⟩ := szIntS_ok query w16 a4 p4 (by omega)
  rw [bindO_of e5]
  rcases v5 with rfl | ⟨p5, q5, s5⟩
  · exact ⟨-1, rfl, .inl rfl⟩
  rw [if_neg (by omega)]
  obtain ⟨a6, e6, v6⟩ := szLine_ok back w18 a5 p5 (by omega)
  rw [bindO_of e6]
  rcases v6 with rfl | ⟨p6, q6, s6⟩
  · exact ⟨-1, rfl, .inl rfl⟩
  rw [if_neg (by omega)]
  refine ⟨a6, rfl, .inr ⟨p6, by omega, ?_⟩⟩
  refine ⟨by omega, ⟨by omega, fun s hs => ?_⟩, ⟨by omega, fun s hs => ?_⟩, by omega, by omega, by omega⟩
  · have := s2' s hs; omega
  · have := s3' s hs; omega

theorem small_le {N M : Nat} (h : N ≤ M) {e : EdT} (hs : Small N e) : Small M e := by
  obtain ⟨vi, mode, line, count, op, opc, wait, fr, fh, last, ring, undo, nav, own, query, hit, back⟩ := e
  obtain ⟨h1, ⟨h2, h3⟩, ⟨h4, h5⟩, h6, h7, h8⟩ := hs
  exact ⟨by omega, ⟨by omega, fun s hs => by have := h3 s hs; omega⟩, ⟨by omega, fun s hs => by have := h5 s hs; omega⟩, by omega, by omega, by omega⟩

theorem toEd_eq (vi : Bool) (mode : Int) (line : List Int × Int) (count op opc wait fr fh last : Int) (ring : List (List Int)) (undo : List (List Int × Int)) (nav : Int) (own : List Int × Int) (query : List Int) (hit : Int) (back : List Int × Int) (hs : Small 100000000 (vi, mode, line, count, op, opc, wait, fr, fh, last, ring, undo, nav, own, query, hit, back)) :
    M_l_toEd (vi, mode, line, count, op, opc, wait, fr, fh, last, ring, undo, nav, own, query, hit, back) = some (vi, mode, line, count, op, opc, wait, fr, fh, last, ring, undo, nav, own, query, hit, back) := by
  obtain ⟨h1, ⟨h2, h3⟩, ⟨h4, h5⟩, h6, h7, h8⟩ := hs
  unfold M_l_toEd
  simp only [toLine_eq line (by omega), toLine_eq own (by omega), toLine_eq back (by omega), toRing_eq ring (by omega) (fun s hs => by have := h3 s hs; omega), toUndo_eq undo (by omega) (fun s hs => by have := h5 s hs; omega), toIntS_eq query (by omega), bindO]

theorem eqEd_self (vi : Bool) (mode : Int) (line : List Int × Int) (count op opc wait fr fh last : Int) (ring : List (List Int)) (undo : List (List Int × Int)) (nav : Int) (own : List Int × Int) (query : List Int) (hit : Int) (back : List Int × Int) (hs : Small 100000000 (vi, mode, line, count, op, opc, wait, fr, fh, last, ring, undo, nav, own, query, hit, back)) :
    M_l_eqEd (vi, mode, line, count, op, opc, wait, fr, fh, last, ring, undo, nav, own, query, hit, back) (vi, mode, line, count, op, opc, wait, fr, fh, last, ring, undo, nav, own, query, hit, back) = some true := by
  obtain ⟨h1, ⟨h2, h3⟩, ⟨h4, h5⟩, h6, h7, h8⟩ := hs
  unfold M_l_eqEd
  simp only [eqLine_self line (by omega), eqLine_self own (by omega), eqLine_self back (by omega), eqRing_self ring (by omega) (fun s hs => by have := h3 s hs; omega), eqUndo_self undo (by omega) (fun s hs => by have := h5 s hs; omega), eqIntS_self query (by omega), bindO, decide_true, Bool.not_true, cond_false, beq_self_eq_true]

section
variable {vi : Bool} {mode : Int} {line : List Int × Int} {count op opc wait fr fh last : Int} {ring : List (List Int)} {undo : List (List Int × Int)} {nav : Int} {own : List Int × Int} {query : List Int} {hit : Int} {back : List Int × Int}

theorem edOkB_all (h : edOkB (vi, mode, line, count, op, opc, wait, fr, fh, last, ring, undo, nav, own, query, hit, back) = true) :
    lineOk line = true ∧ lineOk own = true ∧ lineOk back = true ∧ (0 ≤ count ∧ count ≤ 999) ∧ (0 ≤ opc ∧ opc ≤ 999) ∧ modeB vi mode line op opc wait = true ∧ findB fr fh = true ∧ (0 ≤ last ∧ last ≤ 3) ∧ ringOk ring = true ∧ undoOk undo = true ∧ (0 ≤ nav ∧ nav ≤ 1000000060) ∧ (0 ≤ hit ∧ hit ≤ 1000000060) ∧ (!decide (nav = 0) || emptyL own) = true ∧ (query.length : Int) ≤ 40 ∧ query.all pr = true ∧ searchB mode query hit back = true := by
  unfold edOkB at h
  simp only [Bool.and_eq_true, decide_eq_true_eq] at h
  obtain ⟨⟨⟨⟨⟨⟨⟨⟨⟨⟨⟨⟨⟨⟨⟨h1, h2⟩, h3⟩, h4⟩, h5⟩, h6⟩, h7⟩, h8⟩, h9⟩, h10⟩, h11⟩, h12⟩, h13⟩, h14⟩, h15⟩, h16⟩ := h
  exact ⟨h1, h2, h3, h4, h5, h6, h7, h8, h9, h10, h11, h12, h13, h14, h15, h16⟩

theorem edOkB_mk (h : lineOk line = true ∧ lineOk own = true ∧ lineOk back = true ∧ (0 ≤ count ∧ count ≤ 999) ∧ (0 ≤ opc ∧ opc ≤ 999) ∧ modeB vi mode line op opc wait = true ∧ findB fr fh = true ∧ (0 ≤ last ∧ last ≤ 3) ∧ ringOk ring = true ∧ undoOk undo = true ∧ (0 ≤ nav ∧ nav ≤ 1000000060) ∧ (0 ≤ hit ∧ hit ≤ 1000000060) ∧ (!decide (nav = 0) || emptyL own) = true ∧ (query.length : Int) ≤ 40 ∧ query.all pr = true ∧ searchB mode query hit back = true) :
    edOkB (vi, mode, line, count, op, opc, wait, fr, fh, last, ring, undo, nav, own, query, hit, back) = true := by
  obtain ⟨h1, h2, h3, h4, h5, h6, h7, h8, h9, h10, h11, h12, h13, h14, h15, h16⟩ := h
  unfold edOkB
  simp only [Bool.and_eq_true, decide_eq_true_eq]
  exact ⟨⟨⟨⟨⟨⟨⟨⟨⟨⟨⟨⟨⟨⟨⟨h1, h2⟩, h3⟩, h4⟩, h5⟩, h6⟩, h7⟩, h8⟩, h9⟩, h10⟩, h11⟩, h12⟩, h13⟩, h14⟩, h15⟩, h16⟩

theorem undoOk_spec {u : List (List Int × Int)} (h : undoOk u = true) : u.length ≤ 20 ∧ ∀ s ∈ u, lineOk s = true := by
  unfold undoOk at h
  simp only [Bool.and_eq_true, decide_eq_true_eq, List.all_eq_true] at h
  exact ⟨h.2, h.1⟩

theorem small_of (h : edOkB (vi, mode, line, count, op, opc, wait, fr, fh, last, ring, undo, nav, own, query, hit, back) = true) : Small 400 (vi, mode, line, count, op, opc, wait, fr, fh, last, ring, undo, nav, own, query, hit, back) := by
  obtain ⟨h1, h2, h3, h4, h5, h6, h7, h8, h9, h10, h11, h12, h13, h14, h15, h16⟩ := edOkB_all h
  obtain ⟨r1, r2⟩ := ringOk_spec h9
  obtain ⟨u1, u2⟩ := undoOk_spec h10
  exact ⟨(lineOk_at h1).2.2, ⟨by omega, fun s hs => allAdm_len (r2 s hs).1⟩, ⟨by omega, fun s hs => (lineOk_at (u2 s hs)).2.2⟩, (lineOk_at h2).2.2, by omega, (lineOk_at h3).2.2⟩

theorem small_zEd : Small 400 zEd := ⟨by simp, ⟨by simp, by simp⟩, ⟨by simp, by simp⟩, by simp, by simp, by simp⟩
end

section
variable (vi : Bool) (mode : Int) (line : List Int × Int) (count op opc wait fr fh last : Int) (ring : List (List Int)) (undo : List (List Int × Int)) (nav : Int) (own : List Int × Int) (query : List Int) (hit : Int) (back : List Int × Int)
  (hv : edOkB (vi, mode, line, count, op, opc, wait, fr, fh, last, ring, undo, nav, own, query, hit, back) = true)
include hv

theorem copyV_s : M_s_l21Copy (vi, mode, line, count, op, opc, wait, fr, fh, last, ring, undo, nav, own, query, hit, back) = some (vi, mode, line, count, op, opc, wait, fr, fh, last, ring, undo, nav, own, query, hit, back) := by
  obtain ⟨h1, ⟨h2, h3⟩, ⟨h4, h5⟩, h6, h7, h8⟩ := small_le (M := 1048576) (by omega) (small_of hv)
  exact copyEd_s vi mode line count op opc wait fr fh last ring undo nav own query hit back h1 h2 h3 h4 h5 h6 h7 h8
theorem copyV_i : M_i_copyEd (vi, mode, line, count, op, opc, wait, fr, fh, last, ring, undo, nav, own, query, hit, back) = some (vi, mode, line, count, op, opc, wait, fr, fh, last, ring, undo, nav, own, query, hit, back) := by
  obtain ⟨h1, ⟨h2, h3⟩, ⟨h4, h5⟩, h6, h7, h8⟩ := small_le (M := 1048576) (by omega) (small_of hv)
  exact copyEd_i vi mode line count op opc wait fr fh last ring undo nav own query hit back h1 h2 h3 h4 h5 h6 h7 h8

end

theorem szStringS_loop (xs : List (List UInt8)) (hx : xs.length ≤ maxLen) (hs : ∀ s ∈ xs, s.length ≤ maxLen) : ∀ (m : Nat) (left k : Int), 0 ≤ left → left ≤ 1048576 → 0 ≤ k → k ≤ (xs.length : Int) → (xs.length : Int) - k < m → 0 < m →
    ∃ v, fixF (M_l_szStringS_L1 xs fun x18 => some x18) m (left, k) = some v ∧ (v = -1 ∨ (0 ≤ v ∧ v ≤ left ∧ ∀ s ∈ xs.drop k.toNat, (s.length : Int) ≤ left)) := by
  have hM' : maxLen ≤ 9223372036854775807 := by decide
  intro m
  induction m with
  | zero => intro left k _ _ _ _ _ h; omega
  | succ m ih =>
    intro left k h0 h1 hk hk' hm _
    simp only [fixF, M_l_szStringS_L1, guardO, Bool.cond_decide]
    by_cases h2 : k < (xs.length : Int)
    · rw [if_pos h2, if_pos ⟨hk, h2⟩]
      have hb := hs (at' xs k) (List.mem_of_getElem? (at_some ⟨hk, h2⟩))
      rw [W_eq (x := left - ((at' xs k).length : Int)) (by omega) (by omega), W_eq (x := k + 1) (by omega) (by omega)]
      by_cases h3 : left - ((at' xs k).length : Int) < 0
      · rw [if_pos h3]; exact ⟨-1, rfl, .inl rfl⟩
      · rw [if_neg h3]
        obtain ⟨v, e, hv⟩ := ih (left - ((at' xs k).length : Int)) (k + 1) (by omega) (by omega) (by omega) (by omega) (by omega) (by omega)
        refine ⟨v, e, ?_⟩
        rcases hv with hv | ⟨g1, g2, g3⟩
        · exact .inl hv
        · refine .inr ⟨g1, by omega, ?_⟩
          rw [drop_at hk h2]
          intro s hs'
          rcases List.mem_cons.1 hs' with rfl | hs'
          · omega
          · have := g3 s hs'; omega
    · rw [if_neg h2]
      exact ⟨left, rfl, .inr ⟨h0, Int.le_refl _, by rw [List.drop_eq_nil_of_le (by omega)]; simp⟩⟩

theorem szStringS_ok (xs : List (List UInt8)) (hx : xs.length ≤ maxLen) (hs : ∀ s ∈ xs, s.length ≤ maxLen) (left : Int) (h0 : 0 ≤ left) (h1 : left ≤ 1048576) :
    ∃ v, M_l_szStringS xs left = some v ∧ (v = -1 ∨ (0 ≤ v ∧ v ≤ left ∧ (xs.length : Int) ≤ left ∧ ∀ s ∈ xs, (s.length : Int) ≤ left)) := by
  have hM' : maxLen ≤ 9223372036854775807 := by decide
  unfold M_l_szStringS
  simp only [Bool.cond_decide, joinO]
  rw [W_eq (x := left - (xs.length : Int)) (by omega) (by omega)]
  by_cases h : left - (xs.length : Int) < 0
  · rw [if_pos h]; exact ⟨-1, rfl, .inl rfl⟩
  · rw [if_neg h]
    obtain ⟨v, e, hv⟩ := szStringS_loop xs hx hs FUEL (left - (xs.length : Int)) 0 (by omega) (by omega) (by omega) (by omega) (by rw [fuel_eq]; omega) (by rw [fuel_eq]; omega)
    refine ⟨v, e, ?_⟩
    rcases hv with hv | ⟨g1, g2, g3⟩
    · exact .inl hv
    · refine .inr ⟨g1, by omega, by omega, fun s hs' => ?_⟩
      have := g3 s (by simpa using hs')
      omega

theorem toStringS_loop (xs : List (List UInt8)) (hl : (xs.length : Int) ≤ 100000000) (j : List (List UInt8) → Option (List (List UInt8))) : ∀ (m : Nat) (ys : List (List UInt8)) (k : Int), 0 ≤ k → k ≤ (xs.length : Int) → ys.length = xs.length → (∀ i : Nat, (i : Int) < k → ys[i]? = xs[i]?) → (xs.length : Int) - k < m → 0 < m →
    fixF (M_l_toStringS_L1 xs j) m (ys, k) = j xs := by
  intro m
  induction m with
  | zero => intro ys k _ _ _ _ h h'; omega
  | succ m ih =>
    intro ys k hk hk' hy hyx hm _
    simp only [fixF, M_l_toStringS_L1, guardO, Bool.cond_decide]
    by_cases h1 : k < (xs.length : Int)
    · have h2 : k < (ys.length : Int) := by omega
      simp only [h1, h2, hk, if_true, and_self]
      rw [W_eq (by omega) (by omega)]
      refine ih _ _ (by omega) (by omega) (by simpa using hy) (fun i hi => ?_) (by omega) (by omega)
      rw [List.getElem?_set]
      by_cases he : k.toNat = i
      · subst he
        rw [if_pos rfl, if_pos (by omega), at_some ⟨hk, h1⟩]
      · rw [if_neg he]
        exact hyx i (by omega)
    · simp only [h1, if_false]
      congr 1
      apply List.ext_getElem?
      intro i
      by_cases hi : (i : Int) < k
      · exact hyx i hi
      · rw [List.getElem?_eq_none (by omega), List.getElem?_eq_none (by omega)]

theorem toStringS_eq (xs : List (List UInt8)) (hl : (xs.length : Int) ≤ 100000000) : M_l_toStringS xs = some xs := by
  unfold M_l_toStringS guardO
  rw [if_pos (by omega)]
  exact toStringS_loop xs hl _ FUEL _ 0 (by omega) (by omega) (by simp) (fun i hi => by omega) (by rw [fuel_eq]; omega) (by rw [fuel_eq]; omega)

theorem eqStringS_loop (xs : List (List UInt8)) (hl : (xs.length : Int) ≤ 100000000) (j : Unit → Option Bool) : ∀ (m : Nat) (k : Int), 0 ≤ k → k ≤ (xs.length : Int) → (xs.length : Int) - k < m → 0 < m → fixF (M_l_eqStringS_L1 xs xs j) m k = j () := by
  intro m
  induction m with
  | zero => intro k _ _ h h'; omega
  | succ m ih =>
    intro k hk hk' hm _
    simp only [fixF, M_l_eqStringS_L1, guardO, Bool.cond_decide]
    by_cases h1 : k < (xs.length : Int)
    · simp only [h1, hk, if_true, and_self, decide_true, Bool.not_true, cond_false]
      rw [W_eq (by omega) (by omega)]
      exact ih _ (by omega) (by omega) (by omega) (by omega)
    · simp only [h1, if_false]

theorem eqStringS_self (xs : List (List UInt8)) (hl : (xs.length : Int) ≤ 100000000) : M_l_eqStringS xs xs = some true := by
  unfold M_l_eqStringS
  simp only [decide_true, Bool.not_true, cond_false]
  exact eqStringS_loop xs hl _ FUEL 0 (by omega) (by omega) (by rw [fuel_eq]; omega) (by rw [fuel_eq]; omega)

/-- A history that is valid. -/
def hOk (h : Int × List (List UInt8)) : Bool := decide (1 ≤ h.1 ∧ h.1 ≤ 1000000000 ∧ (h.2.length : Int) ≤ 60) && h.2.all fun s => decide (1 ≤ (s.length : Int) ∧ (s.length : Int) ≤ 1000)

theorem sHistOk_loop (h : Int × List (List UInt8)) (hl : (h.2.length : Int) ≤ 1048576) (b : Bool) : ∀ (m : Nat) (k : Int), 0 ≤ k → k ≤ (h.2.length : Int) → (h.2.length : Int) - k < m → 0 < m →
    fixF (M_s_HistOk_L1 h fun _ => some b) m k = some (b && (h.2.drop k.toNat).all fun s => decide (1 ≤ (s.length : Int) ∧ (s.length : Int) ≤ 1000)) := by
  intro m
  induction m with
  | zero => intro k _ _ _ h'; omega
  | succ m ih =>
    intro k hk hk' hm _
    simp only [fixF, M_s_HistOk_L1, guardO, Bool.cond_decide]
    by_cases h1 : k < (h.2.length : Int)
    · rw [if_pos h1, if_pos ⟨hk, h1⟩, W_eq (by omega) (by omega), drop_at hk h1, ih _ (by omega) (by omega) (by omega) (by omega), List.all_cons]
      by_cases c1 : ((at' h.2 k).length : Int) < 1
      · have : ¬ (1 ≤ ((at' h.2 k).length : Int) ∧ ((at' h.2 k).length : Int) ≤ 1000) := by omega
        rw [decide_eq_false this]
        simp [c1]
      · by_cases c2 : 1000 < ((at' h.2 k).length : Int)
        · have : ¬ (1 ≤ ((at' h.2 k).length : Int) ∧ ((at' h.2 k).length : Int) ≤ 1000) := by omega
          rw [decide_eq_false this]
          simp [c1, c2]
        · have : (1 ≤ ((at' h.2 k).length : Int) ∧ ((at' h.2 k).length : Int) ≤ 1000) := by omega
          rw [decide_eq_true this]
          simp [c1, c2]
    · rw [if_neg h1, List.drop_eq_nil_of_le (by omega)]
      simp

theorem sHistOk_eq (h : Int × List (List UInt8)) (hl : (h.2.length : Int) ≤ 1048576) : M_s_HistOk h = some (hOk h) := by
  unfold M_s_HistOk
  simp only [joinO]
  rw [sHistOk_loop h hl _ FUEL 0 (by omega) (by omega) (by rw [fuel_eq]; omega) (by rw [fuel_eq]; omega)]
  unfold hOk
  simp only [Int.toNat_zero, List.drop_zero]
  congr 2
  by_cases c1 : 1 ≤ h.1 <;> by_cases c2 : h.1 ≤ 1000000000 <;> by_cases c3 : (h.2.length : Int) ≤ 60 <;> simp [c1, c2, c3]

theorem iHistOk_loop (h : Int × List (List UInt8)) (hl : (h.2.length : Int) ≤ 1048576) : ∀ (m : Nat) (k : Int), 0 ≤ k → k ≤ (h.2.length : Int) → (h.2.length : Int) - k < m → 0 < m →
    fixF (M_i_HistOk_L1 h fun _ => some true) m k = some ((h.2.drop k.toNat).all fun s => decide (1 ≤ (s.length : Int) ∧ (s.length : Int) ≤ 1000)) := by
  intro m
  induction m with
  | zero => intro k _ _ _ h'; omega
  | succ m ih =>
    intro k hk hk' hm _
    simp only [fixF, M_i_HistOk_L1, guardO, Bool.cond_decide, M_i_in, bindO]
    by_cases h1 : k < (h.2.length : Int)
    · rw [if_pos h1, if_pos ⟨hk, h1⟩, W_eq (by omega) (by omega), drop_at hk h1, ih _ (by omega) (by omega) (by omega) (by omega), List.all_cons]
      by_cases c1 : 1 ≤ ((at' h.2 k).length : Int) <;> by_cases c2 : ((at' h.2 k).length : Int) ≤ 1000 <;> simp only [c1, c2, and_self, and_true, and_false, false_and, true_and, decide_true, decide_false, if_true, if_false, Bool.not_true, Bool.not_false, cond_true, cond_false, Bool.true_and, Bool.false_and]
    · rw [if_neg h1, List.drop_eq_nil_of_le (by omega)]
      simp

theorem iHistOk_eq (h : Int × List (List UInt8)) (hl : (h.2.length : Int) ≤ 1048576) : M_i_HistOk h = some (hOk h) := by
  unfold M_i_HistOk M_i_in
  simp only [joinO, bindO, Bool.cond_decide]
  rw [iHistOk_loop h hl FUEL 0 (by omega) (by omega) (by rw [fuel_eq]; omega) (by rw [fuel_eq]; omega)]
  unfold hOk
  simp only [Int.toNat_zero, List.drop_zero]
  by_cases c1 : 1 ≤ h.1 <;> by_cases c2 : h.1 ≤ 1000000000 <;> by_cases c3 : (h.2.length : Int) ≤ 60
  all_goals first
    | (have c4 : ¬ (60 < (h.2.length : Int)) := by omega); simp [c1, c2, c3, c4]
    | (have c4 : 60 < (h.2.length : Int) := by omega); simp [c1, c2, c3, c4]

theorem hOk_spec {h : Int × List (List UInt8)} (hh : hOk h = true) : 1 ≤ h.1 ∧ h.1 ≤ 1000000000 ∧ (h.2.length : Int) ≤ 60 ∧ ∀ s ∈ h.2, 1 ≤ (s.length : Int) ∧ (s.length : Int) ≤ 1000 := by
  unfold hOk at hh
  simp only [Bool.and_eq_true, decide_eq_true_eq, List.all_eq_true] at hh
  exact ⟨hh.1.1, hh.1.2.1, hh.1.2.2, hh.2⟩

/-- The number of the last line. -/
def hLast (h : Int × List (List UInt8)) : Int := if hOk h = true ∧ 0 < h.2.length then h.1 + h.2.length - 1 else 0

theorem histLast_eq (h : Int × List (List UInt8)) (hl : (h.2.length : Int) ≤ 1048576) : M_s_HistLast h = some (hLast h) ∧ M_i_HistLast h = some (hLast h) := by
  unfold M_s_HistLast M_i_HistLast
  rw [bindO_of (sHistOk_eq h hl), bindO_of (iHistOk_eq h hl)]
  unfold hLast
  cases hh : hOk h with
  | false => simp
  | true =>
    obtain ⟨h1, h2, h3, _⟩ := hOk_spec hh
    simp only [Bool.cond_decide, Bool.not_true, cond_false]
    rw [W_eq (x := h.1 + (h.2.length : Int)) (by omega) (by omega), W_eq (by omega) (by omega)]
    by_cases h0 : (h.2.length : Int) = 0
    · have : ¬ (0 < h.2.length) := by omega
      simp [h0, this]
    · have : 0 < h.2.length := by omega
      simp only [h0, this, if_false, and_self, if_true]

def hGet (h : Int × List (List UInt8)) (n : Int) : List UInt8 × Bool := if hOk h = true ∧ h.1 ≤ n ∧ n < h.1 + h.2.length then (at' h.2 (n - h.1), true) else ([], false)

theorem histGet_eq (h : Int × List (List UInt8)) (hl : (h.2.length : Int) ≤ 1048576) (n : Int) (hn : -9223372036854775808 ≤ n ∧ n ≤ 9223372036854775807) : M_s_HistGet h n = some (hGet h n) ∧ M_i_HistGet h n = some (hGet h n) := by
  unfold M_s_HistGet M_i_HistGet
  rw [bindO_of (sHistOk_eq h hl), bindO_of (iHistOk_eq h hl)]
  unfold hGet
  cases hh : hOk h with
  | false => simp [callO, bindO]
  | true =>
    obtain ⟨h1, h2, h3, _⟩ := hOk_spec hh
    simp only [Bool.cond_decide, Bool.not_true, cond_false, callO, if_true, M_i_in, bindO, guardO, true_and]
    rw [W_eq (x := h.1 + (h.2.length : Int)) (by omega) (by omega), W_eq (x := h.1 + (h.2.length : Int) - 1) (by omega) (by omega)]
    by_cases c1 : h.1 ≤ n
    · rw [W_eq (x := n - h.1) (by omega) (by omega)]
      by_cases c2 : n < h.1 + h.2.length
      · have d1 : ¬ (n < h.1) := by omega
        have d2 : ¬ ((h.2.length : Int) ≤ n - h.1) := by omega
        have d3 : n ≤ h.1 + (h.2.length : Int) - 1 := by omega
        have d4 : 0 ≤ n - h.1 ∧ n - h.1 < (h.2.length : Int) := by omega
        simp [c1, c2, d1, d2, d3, d4]
      · have d1 : ¬ (n < h.1) := by omega
        have d2 : ((h.2.length : Int) ≤ n - h.1) := by omega
        have d3 : ¬ (n ≤ h.1 + (h.2.length : Int) - 1) := by omega
        simp [c1, c2, d1, d2, d3]
    · have d1 : n < h.1 := by omega
      simp [c1, d1]

def encL (r : Int) : List Int :=
  if ¬ (0 ≤ r ∧ r ≤ 1114111 ∧ (r < 55296 ∨ 57343 < r)) then [] else
  if r < 128 then [r] else if r < 2048 then [192 + r / 64, 128 + r % 64]
  else if r < 65536 then [224 + r / 4096, 128 + r / 64 % 64, 128 + r % 64]
  else [240 + r / 262144, 128 + r / 4096 % 64, 128 + r / 64 % 64, 128 + r % 64]

def enc (r : Int) : List UInt8 := (encL r).map u8

theorem td {a b : Int} (h : 0 ≤ a) : Int.tdiv a b = a / b := Int.tdiv_eq_ediv_of_nonneg h
theorem tm {a b : Int} (h : 0 ≤ a) : Int.tmod a b = a % b := Int.tmod_eq_emod_of_nonneg h

theorem u8_nat {x : Int} (h : 0 ≤ x) (h2 : x < 256) : ((u8 x).toNat : Int) = x := by
  simp [u8]; omega

theorem u8_self (x : UInt8) : u8 (x.toNat : Int) = x := by
  have : x.toNat < 256 := x.toNat_lt
  apply UInt8.toNat_inj.1
  have := u8_nat (x := (x.toNat : Int)) (by omega) (by omega)
  omega

theorem map_u8 : ∀ (l : List Int) (bs : List UInt8), (∀ x ∈ l, 0 ≤ x ∧ x < 256) → (l.map u8 = bs ↔ l = bs.map (fun b => (b.toNat : Int)))
  | [], [], _ => by simp
  | [], b :: bs, _ => by simp
  | x :: l, [], _ => by simp
  | x :: l, b :: bs, h => by
    have hx := h x (by simp)
    have ih := map_u8 l bs (fun y hy => h y (by simp [hy]))
    simp only [List.map_cons, List.cons.injEq, ih]
    constructor
    · rintro ⟨h1, h2⟩
      refine ⟨?_, h2⟩
      rw [← h1, u8_nat hx.1 hx.2]
    · rintro ⟨h1, h2⟩
      refine ⟨?_, h2⟩
      rw [h1, u8_self]

theorem encL_bytes (r : Int) : ∀ x ∈ encL r, 0 ≤ x ∧ x < 256 := by
  intro x
  unfold encL
  split
  · simp
  · split
    · simp; omega
    · split
      · simp; omega
      · split
        · simp; omega
        · simp; omega

theorem enc_iff (r : Int) (bs : List UInt8) : enc r = bs ↔ encL r = bs.map (fun b => (b.toNat : Int)) := map_u8 _ _ (encL_bytes r)

theorem enc_len (r : Int) : (enc r).length ≤ 4 := by
  unfold enc encL
  split
  · simp
  · split
    · simp
    · split
      · simp
      · split <;> simp

def r2 (x y : Int) : Int := (x - 192) * 64 + y - 128
def r3 (x y z : Int) : Int := ((x - 224) * 64 + y - 128) * 64 + z - 128
def r4 (x y z v : Int) : Int := (((x - 240) * 64 + y - 128) * 64 + z - 128) * 64 + v - 128

theorem encL1 {x : Int} (h : 0 ≤ x) (h2 : x < 256) : encL x = [x] ↔ x < 128 := by
  unfold encL
  split
  · simp; omega
  · split
    · simp; omega
    · split
      · simp; omega
      · omega

def E2 (x y : Int) : Prop := 194 ≤ x ∧ x ≤ 223 ∧ 128 ≤ y ∧ y ≤ 191
instance (x y : Int) : Decidable (E2 x y) := by unfold E2; infer_instance
def E3 (x y z : Int) : Prop := (224 ≤ x ∧ x ≤ 239 ∧ 128 ≤ y ∧ y ≤ 191 ∧ 128 ≤ z ∧ z ≤ 191) ∧ 2048 ≤ r3 x y z ∧ (r3 x y z < 55296 ∨ 57343 < r3 x y z)
instance (x y z : Int) : Decidable (E3 x y z) := by unfold E3; infer_instance
def E4 (x y z v : Int) : Prop := (240 ≤ x ∧ x ≤ 247 ∧ 128 ≤ y ∧ y ≤ 191 ∧ 128 ≤ z ∧ z ≤ 191 ∧ 128 ≤ v ∧ v ≤ 191) ∧ 65536 ≤ r4 x y z v ∧ r4 x y z v ≤ 1114111
instance (x y z v : Int) : Decidable (E4 x y z v) := by unfold E4; infer_instance

theorem encL2 {x y : Int} (h : 0 ≤ x ∧ x < 256 ∧ 0 ≤ y ∧ y < 256) : encL (r2 x y) = [x, y] ↔ E2 x y := by
  unfold E2
  generalize hr : r2 x y = r
  unfold r2 at hr
  unfold encL
  split
  · simp; omega
  · split
    · simp; omega
    · split
      · simp only [List.cons.injEq, and_true]; omega
      · split <;> (simp; try omega)

theorem encL3 {x y z : Int} (h : 0 ≤ x ∧ x < 256 ∧ 0 ≤ y ∧ y < 256 ∧ 0 ≤ z ∧ z < 256) : encL (r3 x y z) = [x, y, z] ↔ E3 x y z := by
  unfold E3
  generalize hr : r3 x y z = r
  unfold r3 at hr
  unfold encL
  split
  · simp; omega
  · split
    · simp; omega
    · split
      · simp; omega
      · split
        · simp only [List.cons.injEq, and_true]; omega
        · simp; omega

theorem encL4 {x y z v : Int} (h : 0 ≤ x ∧ x < 256 ∧ 0 ≤ y ∧ y < 256 ∧ 0 ≤ z ∧ z < 256 ∧ 0 ≤ v ∧ v < 256) : encL (r4 x y z v) = [x, y, z, v] ↔ E4 x y z v := by
  unfold E4
  generalize hr : r4 x y z v = r
  unfold r4 at hr
  unfold encL
  split
  · simp; omega
  · split
    · simp; omega
    · split
      · simp; omega
      · split
        · simp; omega
        · simp only [List.cons.injEq, and_true]; omega

def bi (s : List UInt8) (i : Int) : Int := ((at' s i).toNat : Int)

def rd (s : List UInt8) : Int × Int :=
  if s.length < 1 then (0, 0) else
  if bi s 0 < 128 then (bi s 0, 1) else
  if s.length < 2 then (0, 0) else
  if E2 (bi s 0) (bi s 1) then (r2 (bi s 0) (bi s 1), 2) else
  if s.length < 3 then (0, 0) else
  if E3 (bi s 0) (bi s 1) (bi s 2) then (r3 (bi s 0) (bi s 1) (bi s 2), 3) else
  if s.length < 4 then (0, 0) else
  if E4 (bi s 0) (bi s 1) (bi s 2) (bi s 3) then (r4 (bi s 0) (bi s 1) (bi s 2) (bi s 3), 4) else (0, 0)

theorem at_drop {α : Type} [Inhabited α] {b : List α} {a : Int} (h0 : 0 ≤ a) (i : Int) (hi : 0 ≤ i) : at' b (a + i) = at' (b.drop a.toNat) i := by
  unfold at'
  have : (a + i).toNat = a.toNat + i.toNat := by omega
  rw [this]
  simp [List.getD_eq_getElem?_getD, List.getElem?_drop]

theorem at_drop0 {α : Type} [Inhabited α] {b : List α} {a : Int} (h0 : 0 ≤ a) : at' b a = at' (b.drop a.toNat) 0 := by
  have := at_drop (b := b) h0 0 (by omega)
  simpa using this

theorem sub_drop {α : Type} {b : List α} {a n : Int} (h0 : 0 ≤ a) (hn : 0 ≤ n) : sub' b a (a + n) = (b.drop a.toNat).take n.toNat := by
  unfold sub'
  congr 1
  omega

theorem byteB (x : UInt8) : 0 ≤ (x.toNat : Int) ∧ (x.toNat : Int) < 256 := by
  have : x.toNat < 256 := x.toNat_lt
  omega

theorem rd_1 (x : UInt8) : rd [x] = if (x.toNat : Int) < 128 then ((x.toNat : Int), 1) else (0, 0) := by
  simp [rd, bi, at']
theorem rd_2 (x y : UInt8) : rd [x, y] = if (x.toNat : Int) < 128 then ((x.toNat : Int), 1) else if E2 x.toNat y.toNat then (r2 x.toNat y.toNat, 2) else (0, 0) := by
  simp [rd, bi, at']
theorem rd_3 (x y z : UInt8) : rd [x, y, z] = if (x.toNat : Int) < 128 then ((x.toNat : Int), 1) else if E2 x.toNat y.toNat then (r2 x.toNat y.toNat, 2) else if E3 x.toNat y.toNat z.toNat then (r3 x.toNat y.toNat z.toNat, 3) else (0, 0) := by
  simp [rd, bi, at']
theorem rd_4 (x y z v : UInt8) (t : List UInt8) : rd (x :: y :: z :: v :: t) = if (x.toNat : Int) < 128 then ((x.toNat : Int), 1) else if E2 x.toNat y.toNat then (r2 x.toNat y.toNat, 2) else if E3 x.toNat y.toNat z.toNat then (r3 x.toNat y.toNat z.toNat, 3) else if E4 x.toNat y.toNat z.toNat v.toNat then (r4 x.toNat y.toNat z.toNat v.toNat, 4) else (0, 0) := by
  have l1 : ¬ (t.length + 1 + 1 + 1 + 1 < 1) := by omega
  have l2 : ¬ (t.length + 1 + 1 + 1 + 1 < 2) := by omega
  have l3 : ¬ (t.length + 1 + 1 + 1 + 1 < 3) := by omega
  have l4 : ¬ (t.length + 1 + 1 + 1 + 1 < 4) := by omega
  simp [rd, bi, at', l1, l2, l3, l4]

theorem runeOk_s (r : Int) : M_s_RuneOk r = some (decide (0 ≤ r ∧ r ≤ 1114111 ∧ (r < 55296 ∨ 57343 < r))) := by
  unfold M_s_RuneOk
  congr 1
  by_cases h1 : 0 ≤ r <;> by_cases h2 : r ≤ 1114111 <;> by_cases h3 : r < 55296 <;> simp [h1, h2, h3]

theorem runeBytes_s (r : Int) : M_s_RuneBytes r = some (enc r) := by
  unfold M_s_RuneBytes enc encL
  rw [bindO_of (runeOk_s r)]
  by_cases h : 0 ≤ r ∧ r ≤ 1114111 ∧ (r < 55296 ∨ 57343 < r)
  · have h0 := h.1
    have h00 : 0 ≤ r / 64 := by omega
    have h01 : 0 ≤ r / 4096 := by omega
    simp only [h, decide_true, Bool.not_true, cond_false, not_true, if_false, Bool.cond_decide, td h0, tm h0]
    rw [W_eq (x := r / 64) (by omega) (by omega), W_eq (x := r / 4096) (by omega) (by omega), W_eq (x := r / 262144) (by omega) (by omega), tm h00, tm h01]
    rw [W_eq (x := 192 + r / 64) (by omega) (by omega), W_eq (x := 128 + r % 64) (by omega) (by omega), W_eq (x := 224 + r / 4096) (by omega) (by omega), W_eq (x := 128 + r / 64 % 64) (by omega) (by omega), W_eq (x := 240 + r / 262144) (by omega) (by omega), W_eq (x := 128 + r / 4096 % 64) (by omega) (by omega)]
    split
    · rfl
    · split
      · rfl
      · split <;> rfl
  · simp only [h, decide_false, Bool.not_false, cond_true, not_false_eq_true, if_true, List.map_nil]

section
variable {b : List UInt8} {a : Int} (h0 : 0 ≤ a) (hl : (b.length : Int) ≤ 100000000)
include h0 hl

theorem rrInner (n : Int) (hn : 1 ≤ n) (hn4 : n ≤ 4) (han : a + n ≤ (b.length : Int)) (j : Int → Option (Int × Int)) (m : Nat) : ∀ (r i : Int), 1 ≤ i → i ≤ n → (-100000000 ≤ r ∧ r ≤ 100000000) →
    fixF (M_s_RuneRead_L1 b a n j) (m + 1) (r, i) = if i < n then fixF (M_s_RuneRead_L1 b a n j) m (r * 64 + ((at' b (a + i)).toNat : Int) - 128, i + 1) else j r := by
  intro r i hi hin hr
  simp only [fixF, M_s_RuneRead_L1, guardO, Bool.cond_decide]
  by_cases h : i < n
  · have hb := byteB (at' b (a + i))
    rw [if_pos h, if_pos h]
    rw [W_eq (x := a + i) (by omega) (by omega), if_pos (by omega), W_eq (x := r * 64) (by omega) (by omega), W_eq (x := r * 64 + _) (by omega) (by omega), W_eq (x := r * 64 + _ - 128) (by omega) (by omega), W_eq (x := i + 1) (by omega) (by omega)]
  · rw [if_neg h, if_neg h]

def vl (b : List UInt8) (a n : Int) : Int :=
  if n = 1 then (at' b a).toNat
  else if n = 2 then r2 (at' b a).toNat (at' b (a + 1)).toNat
  else if n = 3 then r3 (at' b a).toNat (at' b (a + 1)).toNat (at' b (a + 2)).toNat
  else r4 (at' b a).toNat (at' b (a + 1)).toNat (at' b (a + 2)).toNat (at' b (a + 3)).toNat

theorem rrLoop (n : Int) (hn : 1 ≤ n) (hn4 : n ≤ 4) (han : a + n ≤ (b.length : Int)) (j : Int → Option (Int × Int)) :
    (if 1 < n then fixF (M_s_RuneRead_L1 b a n j) FUEL ((((at' b a).toNat : Int) - (at' ([0, 0, 192, 224, 240] : List Int) n)), 1) else fixF (M_s_RuneRead_L1 b a n j) FUEL (((at' b a).toNat : Int), 1)) = j (vl b a n) := by
  obtain ⟨m, hm⟩ : ∃ m, FUEL = m + 1 + 1 + 1 + 1 := ⟨FUEL - 4, by rw [fuel_eq]⟩
  rw [hm]
  have b0 := byteB (at' b a)
  have b1 := byteB (at' b (a + 1))
  have b2 := byteB (at' b (a + 2))
  have b3 := byteB (at' b (a + 3))
  have b4 := byteB (at' b (a + (1 + 1)))
  have b5 := byteB (at' b (a + (1 + 1 + 1)))
  have hc : n = 1 ∨ n = 2 ∨ n = 3 ∨ n = 4 := by omega
  rcases hc with rfl | rfl | rfl | rfl
  · rw [if_neg (by omega), rrInner h0 hl _ hn hn4 han _ _ _ _ (by omega) (by omega) (by omega), if_neg (by omega)]
    rfl
  · rw [if_pos (by omega)]
    have e : at' ([0, 0, 192, 224, 240] : List Int) 2 = 192 := rfl
    rw [e, rrInner h0 hl _ hn hn4 han _ _ _ _ (by omega) (by omega) (by omega), if_pos (by omega), rrInner h0 hl _ hn hn4 han _ _ _ _ (by omega) (by omega) (by omega), if_neg (by omega)]
    rfl
  · rw [if_pos (by omega)]
    have e : at' ([0, 0, 192, 224, 240] : List Int) 3 = 224 := rfl
    rw [e, rrInner h0 hl _ hn hn4 han _ _ _ _ (by omega) (by omega) (by omega), if_pos (by omega), rrInner h0 hl _ hn hn4 han _ _ _ _ (by omega) (by omega) (by omega), if_pos (by omega), rrInner h0 hl _ hn hn4 han _ _ _ _ (by omega) (by omega) (by omega), if_neg (by omega)]
    rfl
  · rw [if_pos (by omega)]
    have e : at' ([0, 0, 192, 224, 240] : List Int) 4 = 240 := rfl
    rw [e, rrInner h0 hl _ hn hn4 han _ _ _ _ (by omega) (by omega) (by omega), if_pos (by omega), rrInner h0 hl _ hn hn4 han _ _ _ _ (by omega) (by omega) (by omega), if_pos (by omega), rrInner h0 hl _ hn hn4 han _ _ _ _ (by omega) (by omega) (by omega), if_pos (by omega), rrInner h0 hl _ hn hn4 han _ _ _ _ (by omega) (by omega) (by omega), if_neg (by omega)]
    rfl

theorem rrStep (j : Unit → Option (Int × Int)) (k : Int → Option (Int × Int)) (n : Int) (hn : 1 ≤ n) (hn5 : n ≤ 5) (ha : a < (b.length : Int)) :
    M_s_RuneRead_L2 b a j k n = if n ≤ 4 ∧ n ≤ (b.length : Int) - a then (if enc (vl b a n) = sub' b a (a + n) then some (vl b a n, n) else k (n + 1)) else j () := by
  unfold M_s_RuneRead_L2
  simp only [joinO, guardO, Bool.cond_decide, runeBytes_s, bindO]
  rw [W_eq (x := (b.length : Int) - a) (by omega) (by omega), W_eq (x := a + n) (by omega) (by omega), W_eq (x := n + 1) (by omega) (by omega)]
  by_cases hc : n ≤ 4 ∧ n ≤ (b.length : Int) - a
  · have hs : ((sub' b a (a + n)).length : Int) = n := by
      rw [sub_len (by omega)]; omega
    have b0 := byteB (at' b a)
    have ht : 0 ≤ at' ([0, 0, 192, 224, 240] : List Int) n ∧ at' ([0, 0, 192, 224, 240] : List Int) n ≤ 240 := by
      have : n = 1 ∨ n = 2 ∨ n = 3 ∨ n = 4 := by omega
      rcases this with rfl | rfl | rfl | rfl <;> decide
    rw [if_pos hc, if_pos hc.1, decide_eq_true hc.2, cond_true, if_pos ⟨h0, ha⟩, if_pos (show 0 ≤ n ∧ n < (([0, 0, 192, 224, 240] : List Int).length : Int) by simp; omega), W_eq (x := ((at' b a).toNat : Int) - _) (by omega) (by omega)]
    rw [rrLoop h0 hl n hn hc.1 (by omega)]
    rw [if_pos (fun _ => by omega)]
    by_cases h : enc (vl b a n) = sub' b a (a + n)
    · rw [h]; simp [hs]
    · simp [h]
  · rw [if_neg hc]
    by_cases h1 : n ≤ 4
    · have : ¬ n ≤ (b.length : Int) - a := fun h => hc ⟨h1, h⟩
      simp [h1, this]
    · simp [h1]

theorem runeRead_s (ha : a < (b.length : Int)) : M_s_RuneRead b a = some (rd (b.drop a.toNat)) := by
  unfold M_s_RuneRead
  have e0 : decide (a < 0) = false := by simp; omega
  have e1 : decide ((b.length : Int) ≤ a) = false := by simp; omega
  rw [e0, e1]
  simp only [cond_false, joinO]
  obtain ⟨m, hm⟩ : ∃ m, FUEL = m + 1 + 1 + 1 + 1 + 1 := ⟨FUEL - 5, by rw [fuel_eq]⟩
  rw [hm]
  have st : ∀ (m : Nat) (n : Int), 1 ≤ n → n ≤ 5 → fixF (M_s_RuneRead_L2 b a fun _ => some (0, 0)) (m + 1) n = if n ≤ 4 ∧ n ≤ (b.length : Int) - a then (if enc (vl b a n) = sub' b a (a + n) then some (vl b a n, n) else fixF (M_s_RuneRead_L2 b a fun _ => some (0, 0)) m (n + 1)) else some (0, 0) := by
    intro m n h1 h2
    simp only [fixF]
    exact rrStep h0 hl _ _ n h1 h2 ha
  rw [st _ 1 (by omega) (by omega), st _ (1 + 1) (by omega) (by omega), st _ (1 + 1 + 1) (by omega) (by omega), st _ (1 + 1 + 1 + 1) (by omega) (by omega), st _ (1 + 1 + 1 + 1 + 1) (by omega) (by omega)]
  rw [sub_drop h0 (by omega), sub_drop h0 (by omega), sub_drop h0 (by omega), sub_drop h0 (by omega)]
  unfold vl
  rw [at_drop0 h0, at_drop h0 1 (by omega), at_drop h0 2 (by omega), at_drop h0 3 (by omega)]
  have hL : (b.length : Int) - a = ((b.drop a.toNat).length : Int) := by simp; omega
  rw [hL]
  have hne : 0 < (b.drop a.toNat).length := by simp; omega
  generalize b.drop a.toNat = s at *
  clear st hL hm
  have ai : ∀ (c : Prop) [Decidable c] (x y : Int × Int), (if c then some x else some y) = some (if c then x else y) := fun c _ x y => by split <;> rfl
  simp only [enc_iff]
  rcases s with _ | ⟨x, _ | ⟨y, _ | ⟨z, _ | ⟨v, t⟩⟩⟩⟩
  · simp at hne
  · have b0 := byteB x
    have e1 := encL1 b0.1 b0.2
    simp [at', rd_1, e1, ai]
  · have b0 := byteB x
    have b1 := byteB y
    have e1 := encL1 b0.1 b0.2
    have e2 := encL2 (x := x.toNat) (y := y.toNat) (by omega)
    simp [at', rd_2, e1, e2, ai]
  · have b0 := byteB x
    have b1 := byteB y
    have b2 := byteB z
    have e1 := encL1 b0.1 b0.2
    have e2 := encL2 (x := x.toNat) (y := y.toNat) (by omega)
    have e3 := encL3 (x := x.toNat) (y := y.toNat) (z := z.toNat) (by omega)
    simp [at', rd_3, e1, e2, e3, ai]
  · have b0 := byteB x
    have b1 := byteB y
    have b2 := byteB z
    have b3 := byteB v
    have e1 := encL1 b0.1 b0.2
    have e2 := encL2 (x := x.toNat) (y := y.toNat) (by omega)
    have e3 := encL3 (x := x.toNat) (y := y.toNat) (z := z.toNat) (by omega)
    have e4 := encL4 (x := x.toNat) (y := y.toNat) (z := z.toNat) (v := v.toNat) (by omega)
    have l1 : (1 : Int) ≤ ((t.length : Int) + 1 + 1 + 1 + 1) := by omega
    have l2 : (2 : Int) ≤ ((t.length : Int) + 1 + 1 + 1 + 1) := by omega
    have l3 : (3 : Int) ≤ ((t.length : Int) + 1 + 1 + 1 + 1) := by omega
    have l4 : (4 : Int) ≤ ((t.length : Int) + 1 + 1 + 1 + 1) := by omega
    simp [at', rd_4, e1, e2, e3, e4, l1, l2, l3, l4, ai]
end

theorem runeOk_i (r : Int) : M_i_RuneOk r = some (decide (0 ≤ r ∧ r ≤ 1114111 ∧ (r < 55296 ∨ 57343 < r))) := by
  unfold M_i_RuneOk
  simp only [in_eq, bindO, callO]
  by_cases h1 : 0 ≤ r ∧ r ≤ 1114111
  · rw [decide_eq_true h1]
    simp only [cond_true, if_true]
    by_cases h2 : r < 55296
    · have : ¬ (55296 ≤ r ∧ r ≤ 57343) := by omega
      simp [h1, h2, this]
    · by_cases h3 : 57343 < r
      · have : ¬ (55296 ≤ r ∧ r ≤ 57343) := by omega
        simp [h1, h2, h3, this]
      · have : (55296 ≤ r ∧ r ≤ 57343) := by omega
        simp [h1, h2, h3, this]
  · have : ¬ (0 ≤ r ∧ r ≤ 1114111 ∧ (r < 55296 ∨ 57343 < r)) := fun h => h1 ⟨h.1, h.2.1⟩
    rw [decide_eq_false h1, decide_eq_false this]
    simp

theorem runeBytes_i (r : Int) : M_i_RuneBytes r = some (enc r) := by
  unfold M_i_RuneBytes enc encL
  rw [bindO_of (runeOk_i r)]
  by_cases h : 0 ≤ r ∧ r ≤ 1114111 ∧ (r < 55296 ∨ 57343 < r)
  · have h0 := h.1
    have h00 : 0 ≤ r / 64 := by omega
    have h01 : 0 ≤ r / 4096 := by omega
    simp only [h, decide_true, Bool.not_true, cond_false, not_true, if_false, Bool.cond_decide, td h0, tm h0]
    rw [W_eq (x := r / 64) (by omega) (by omega), W_eq (x := r / 4096) (by omega) (by omega), W_eq (x := r / 262144) (by omega) (by omega), tm h00, tm h01]
    rw [W_eq (x := 192 + r / 64) (by omega) (by omega), W_eq (x := 128 + r % 64) (by omega) (by omega), W_eq (x := 224 + r / 4096) (by omega) (by omega), W_eq (x := 128 + r / 64 % 64) (by omega) (by omega), W_eq (x := 240 + r / 262144) (by omega) (by omega), W_eq (x := 128 + r / 4096 % 64) (by omega) (by omega)]
    split
    · rfl
    · split
      · rfl
      · split <;> rfl
  · simp only [h, decide_false, Bool.not_false, cond_true, not_false_eq_true, if_true, List.map_nil]

section
variable {b : List UInt8} {a : Int} (h0 : 0 ≤ a) (hl : (b.length : Int) ≤ 100000000)
include h0 hl

theorem riInner (n : Int) (hn : 2 ≤ n) (hn4 : n ≤ 4) (han : a + n ≤ (b.length : Int)) (j : Int → Option (Int × Int)) (m : Nat) : ∀ (r i : Int), 0 ≤ i → i ≤ n - 1 → (-100000000 ≤ r ∧ r ≤ 100000000) →
    fixF (M_i_RuneRead_L1 b a n j) (m + 1) (r, i) = if i < n - 1 then fixF (M_i_RuneRead_L1 b a n j) m (r * 64 + ((at' b (a + 1 + i)).toNat : Int) - 128, i + 1) else j r := by
  intro r i hi hin hr
  have e1 : W (a + 1) = a + 1 := W_eq (by omega) (by omega)
  have e2 : W (a + n) = a + n := W_eq (by omega) (by omega)
  have hsl : ((sub' b (a + 1) (a + n)).length : Int) = n - 1 := by rw [sub_len (by omega)]; omega
  simp only [fixF, M_i_RuneRead_L1, guardO, Bool.cond_decide, e1, e2, hsl]
  by_cases h : i < n - 1
  · have ea : at' (sub' b (a + 1) (a + n)) i = at' b (a + 1 + i) := by
      unfold at' sub'
      have q : (a + 1 + i).toNat = (a + 1).toNat + i.toNat := by omega
      rw [q]
      simp only [List.getD_eq_getElem?_getD, List.getElem?_take, List.getElem?_drop]
      rw [if_pos (by omega)]
    have hb := byteB (at' b (a + 1 + i))
    rw [if_pos h, if_pos h, if_pos ⟨hi, h⟩, ea]
    rw [W_eq (x := r * 64) (by omega) (by omega), W_eq (x := r * 64 + _) (by omega) (by omega), W_eq (x := r * 64 + _ - 128) (by omega) (by omega), W_eq (x := i + 1) (by omega) (by omega)]
  · rw [if_neg h, if_neg h]

theorem riTail (n v0 : Int) (hn : 2 ≤ n) (hn4 : n ≤ 4) (han : a + n ≤ (b.length : Int)) (hv : v0 = (at' b a).toNat - (if n = 2 then 192 else if n = 3 then 224 else 240)) (j : Int → Option (Int × Int)) :
    fixF (M_i_RuneRead_L1 b a n j) FUEL (v0, 0) = j (vl b a n) := by
  obtain ⟨m, hm⟩ : ∃ m, FUEL = m + 1 + 1 + 1 + 1 := ⟨FUEL - 4, by rw [fuel_eq]⟩
  rw [hm]
  subst hv
  have b0 := byteB (at' b a)
  have b1 := byteB (at' b (a + 1))
  have b2 := byteB (at' b (a + 2))
  have b3 := byteB (at' b (a + 3))
  have b4 := byteB (at' b (a + 1 + 0))
  have b5 := byteB (at' b (a + 1 + 1))
  have b6 := byteB (at' b (a + 1 + 2))
  have q0 : a + 1 + 0 = a + 1 := by omega
  have q1 : a + 1 + 1 = a + 2 := by omega
  have q2 : a + 1 + 2 = a + 3 := by omega
  have z1 : (0 : Int) + 1 = 1 := rfl
  have z2 : (1 : Int) + 1 = 2 := rfl
  have z3 : (2 : Int) + 1 = 3 := rfl
  have hc : n = 2 ∨ n = 3 ∨ n = 4 := by omega
  rcases hc with rfl | rfl | rfl
  · rw [if_pos rfl, riInner h0 hl _ hn hn4 han _ _ _ _ (by omega) (by omega) (by omega), if_pos (by omega), z1, riInner h0 hl _ hn hn4 han _ _ _ _ (by omega) (by omega) (by omega), if_neg (by omega), q0]
    rfl
  · rw [if_neg (by omega), if_pos rfl, riInner h0 hl _ hn hn4 han _ _ _ _ (by omega) (by omega) (by omega), if_pos (by omega), z1, riInner h0 hl _ hn hn4 han _ _ _ _ (by omega) (by omega) (by omega), if_pos (by omega), z2, riInner h0 hl _ hn hn4 han _ _ _ _ (by omega) (by omega) (by omega), if_neg (by omega), q0, q1]
    rfl
  · rw [if_neg (by omega), if_neg (by omega), riInner h0 hl _ hn hn4 han _ _ _ _ (by omega) (by omega) (by omega), if_pos (by omega), z1, riInner h0 hl _ hn hn4 han _ _ _ _ (by omega) (by omega) (by omega), if_pos (by omega), z2, riInner h0 hl _ hn hn4 han _ _ _ _ (by omega) (by omega) (by omega), if_pos (by omega), z3, riInner h0 hl _ hn hn4 han _ _ _ _ (by omega) (by omega) (by omega), if_neg (by omega), q0, q1, q2]
    rfl

theorem riMid (n v0 : Int) (hn : 2 ≤ n) (hn4 : n ≤ 4) (ha : a < (b.length : Int)) (hv : v0 = (at' b a).toNat - (if n = 2 then 192 else if n = 3 then 224 else 240)) :
    (bif (decide ((W ((b.length : Int) - n)) < a)) then
      some ((0 : Int), (0 : Int))
      else
      (guardO (0 ≤ (W (a + 1)) ∧ (W (a + 1)) ≤ (W (a + n)) ∧ (W (a + n)) ≤ (b.length : Int)) <|
      (joinO (fun (x38 : Int) =>
      (bindO (M_i_RuneBytes x38) fun (y42 : List UInt8) =>
      (guardO (0 ≤ a ∧ a ≤ (W (a + n)) ∧ (W (a + n)) ≤ (b.length : Int)) <|
      (bif (!(decide (y42 = (sub' b a (W (a + n)))))) then
      some (0, 0)
      else
      some (x38, n))))) fun j39 =>
      (fixF (M_i_RuneRead_L1 b a n j39) FUEL (v0, 0))))) = some (if a + n ≤ (b.length : Int) ∧ enc (vl b a n) = sub' b a (a + n) then (vl b a n, n) else (0, 0)) := by
  rw [W_eq (x := (b.length : Int) - n) (by omega) (by omega), W_eq (x := a + 1) (by omega) (by omega), W_eq (x := a + n) (by omega) (by omega)]
  by_cases c : (b.length : Int) - n < a
  · rw [decide_eq_true c, if_neg (by omega)]; rfl
  · rw [decide_eq_false c, cond_false]
    simp only [guardO, joinO, runeBytes_i, bindO]
    rw [if_pos (by omega), riTail h0 hl n v0 hn hn4 (by omega) hv, if_pos (by omega)]
    by_cases h : enc (vl b a n) = sub' b a (a + n)
    · rw [if_pos ⟨by omega, h⟩]; simp [h]
    · rw [if_neg (fun q => h q.2)]; simp [h]

theorem runeRead_i (ha : a < (b.length : Int)) : M_i_RuneRead b a = some (rd (b.drop a.toNat)) := by
  unfold M_i_RuneRead
  have e0 : decide (a < 0) = false := by simp; omega
  have e1 : decide ((b.length : Int) ≤ a) = false := by simp; omega
  have b0 := byteB (at' b a)
  rw [e0, e1]
  simp only [cond_false, in_eq]
  have g : 0 ≤ a ∧ a < (b.length : Int) := ⟨h0, ha⟩
  rw [show ∀ k : Option (Int × Int), guardO (0 ≤ a ∧ a < (b.length : Int)) k = k from fun k => if_pos g]
  have j1 : ∀ (f : Int × Int → Option (Int × Int)) (B : (Int × Int → Option (Int × Int)) → Option (Int × Int)), joinO f B = B f := fun _ _ => rfl
  rw [j1]
  rw [W_eq (x := ((at' b a).toNat : Int) - 192) (by omega) (by omega), W_eq (x := ((at' b a).toNat : Int) - 224) (by omega) (by omega), W_eq (x := ((at' b a).toNat : Int) - 240) (by omega) (by omega)]
  have bS : ∀ (x : Bool) (k : Bool → Option (Int × Int)), bindO (some x) k = k x := fun _ _ => rfl
  simp only [bS]
  have m2 := fun v => riMid h0 hl 2 v (by omega) (by omega) ha
  have m3 := fun v => riMid h0 hl 3 v (by omega) (by omega) ha
  have m4 := fun v => riMid h0 hl 4 v (by omega) (by omega) ha
  have hL : (b.length : Int) = a + ((b.drop a.toNat).length : Int) := by simp; omega
  have s2 := sub_drop (b := b) (n := 2) h0 (by omega)
  have s3 := sub_drop (b := b) (n := 3) h0 (by omega)
  have s4 := sub_drop (b := b) (n := 4) h0 (by omega)
  have t0 := at_drop0 (b := b) h0
  have t1 := at_drop (b := b) h0 1 (by omega)
  have t2 := at_drop (b := b) h0 2 (by omega)
  have t3 := at_drop (b := b) h0 3 (by omega)
  have v2 : vl b a 2 = r2 (at' b a).toNat (at' b (a + 1)).toNat := rfl
  have v3 : vl b a 3 = r3 (at' b a).toNat (at' b (a + 1)).toNat (at' b (a + 2)).toNat := rfl
  have v4 : vl b a 4 = r4 (at' b a).toNat (at' b (a + 1)).toNat (at' b (a + 2)).toNat (at' b (a + 3)).toNat := rfl
  have hne : 0 < (b.drop a.toNat).length := by simp; omega
  by_cases c0 : ((at' b a).toNat : Int) < 128
  · rw [decide_eq_true c0, cond_true]
    rw [t0] at c0 ⊢
    unfold rd bi
    rw [if_neg (show ¬ (List.drop a.toNat b).length < 1 by omega), if_pos c0]
  · rw [decide_eq_false c0, cond_false]
    by_cases c2 : 192 ≤ ((at' b a).toNat : Int) ∧ ((at' b a).toNat : Int) ≤ 223
    · rw [decide_eq_true c2, cond_true, m2 _ (by simp), s2, v2, t1]
      rw [t0] at c0 c2 ⊢
      rw [hL]
      generalize b.drop a.toNat = s at *
      congr 1
      unfold rd bi
      rw [if_neg (show ¬ s.length < 1 by omega), if_neg c0]
      by_cases l2 : s.length < 2
      · rw [if_pos l2, if_neg (show ¬ (a + 2 ≤ a + (s.length : Int) ∧ _) from fun h => by omega)]
      · rw [if_neg l2]
        obtain ⟨x, y, t, rfl⟩ : ∃ x y t, s = x :: y :: t := by
          rcases s with _ | ⟨x, _ | ⟨y, t⟩⟩
          · simp at l2
          · simp at l2
          · exact ⟨x, y, t, rfl⟩
        have e := encL2 (x := x.toNat) (y := y.toNat) (by have := byteB x; have := byteB y; omega)
        have a0 : at' (x :: y :: t) 0 = x := rfl
        have a1 : at' (x :: y :: t) 1 = y := rfl
        have tk : (x :: y :: t).take (Int.toNat 2) = [x, y] := rfl
        rw [a0] at c0 c2
        rw [tk, a0, a1]
        have ee : (a + 2 ≤ a + ((x :: y :: t).length : Int) ∧ enc (r2 x.toNat y.toNat) = [x, y]) ↔ E2 x.toNat y.toNat := by
          rw [enc_iff]
          simp only [List.map_cons, List.map_nil, e]
          exact ⟨fun h => h.2, fun h => ⟨by simp; omega, h⟩⟩
        by_cases q : E2 x.toNat y.toNat
        · rw [if_pos (ee.2 q), if_pos q]
        · rw [if_neg (fun h => q (ee.1 h)), if_neg q]
          have n3 : ∀ u v, ¬ E3 (x.toNat : Int) u v := fun u v h => by unfold E3 at h; omega
          have n4 : ∀ u v w, ¬ E4 (x.toNat : Int) u v w := fun u v w h => by unfold E4 at h; omega
          simp only [n3, n4, if_false, ite_self]
    · rw [decide_eq_false c2, cond_false]
      by_cases c3 : 224 ≤ ((at' b a).toNat : Int) ∧ ((at' b a).toNat : Int) ≤ 239
      · rw [decide_eq_true c3, cond_true, m3 _ (by simp), s3, v3, t1, t2]
        rw [t0] at c0 c2 c3 ⊢
        rw [hL]
        generalize b.drop a.toNat = s at *
        congr 1
        unfold rd bi
        have n2 : ∀ u, ¬ E2 ((at' s 0).toNat : Int) u := fun u h => by unfold E2 at h; omega
        have n4 : ∀ u v w, ¬ E4 ((at' s 0).toNat : Int) u v w := fun u v w h => by unfold E4 at h; omega
        rw [if_neg (show ¬ s.length < 1 by omega), if_neg c0]
        simp only [n2, n4, if_false, ite_self]
        by_cases l2 : s.length < 3
        · rw [if_pos l2, ite_self, if_neg (show ¬ (a + 3 ≤ a + (s.length : Int) ∧ _) from fun h => by omega)]
        · rw [if_neg l2, if_neg (show ¬ s.length < 2 by omega)]
          obtain ⟨x, y, z, t, rfl⟩ : ∃ x y z t, s = x :: y :: z :: t := by
            rcases s with _ | ⟨x, _ | ⟨y, _ | ⟨z, t⟩⟩⟩
            · simp at l2
            · simp at l2
            · simp at l2
            · exact ⟨x, y, z, t, rfl⟩
          have e := encL3 (x := x.toNat) (y := y.toNat) (z := z.toNat) (by have := byteB x; have := byteB y; have := byteB z; omega)
          have a0 : at' (x :: y :: z :: t) 0 = x := rfl
          have a1 : at' (x :: y :: z :: t) 1 = y := rfl
          have a2 : at' (x :: y :: z :: t) 2 = z := rfl
          have tk : (x :: y :: z :: t).take (Int.toNat 3) = [x, y, z] := rfl
          rw [tk, a0, a1, a2]
          have ee : (a + 3 ≤ a + ((x :: y :: z :: t).length : Int) ∧ enc (r3 x.toNat y.toNat z.toNat) = [x, y, z]) ↔ E3 x.toNat y.toNat z.toNat := by
            rw [enc_iff]
            simp only [List.map_cons, List.map_nil, e]
            exact ⟨fun h => h.2, fun h => ⟨by simp; omega, h⟩⟩
          by_cases q : E3 x.toNat y.toNat z.toNat
          · rw [if_pos (ee.2 q), if_pos q]
          · rw [if_neg (fun h => q (ee.1 h)), if_neg q]
      · rw [decide_eq_false c3, cond_false]
        by_cases c4 : 240 ≤ ((at' b a).toNat : Int) ∧ ((at' b a).toNat : Int) ≤ 247
        · rw [decide_eq_true c4, cond_true, m4 _ (by simp), s4, v4, t1, t2, t3]
          rw [t0] at c0 c2 c3 c4 ⊢
          rw [hL]
          generalize b.drop a.toNat = s at *
          congr 1
          unfold rd bi
          have n2 : ∀ u, ¬ E2 ((at' s 0).toNat : Int) u := fun u h => by unfold E2 at h; omega
          have n3 : ∀ u v, ¬ E3 ((at' s 0).toNat : Int) u v := fun u v h => by unfold E3 at h; omega
          rw [if_neg (show ¬ s.length < 1 by omega), if_neg c0]
          simp only [n2, n3, if_false, ite_self]
          by_cases l2 : s.length < 4
          · rw [if_pos l2, ite_self, ite_self, if_neg (show ¬ (a + 4 ≤ a + (s.length : Int) ∧ _) from fun h => by omega)]
          · rw [if_neg l2, if_neg (show ¬ s.length < 2 by omega), if_neg (show ¬ s.length < 3 by omega)]
            obtain ⟨x, y, z, v, t, rfl⟩ : ∃ x y z v t, s = x :: y :: z :: v :: t := by
              rcases s with _ | ⟨x, _ | ⟨y, _ | ⟨z, _ | ⟨v, t⟩⟩⟩⟩
              · simp at l2
              · simp at l2
              · simp at l2
              · simp at l2
              · exact ⟨x, y, z, v, t, rfl⟩
            have e := encL4 (x := x.toNat) (y := y.toNat) (z := z.toNat) (v := v.toNat) (by have := byteB x; have := byteB y; have := byteB z; have := byteB v; omega)
            have a0 : at' (x :: y :: z :: v :: t) 0 = x := rfl
            have a1 : at' (x :: y :: z :: v :: t) 1 = y := rfl
            have a2 : at' (x :: y :: z :: v :: t) 2 = z := rfl
            have a3 : at' (x :: y :: z :: v :: t) 3 = v := rfl
            have tk : (x :: y :: z :: v :: t).take (Int.toNat 4) = [x, y, z, v] := rfl
            rw [tk, a0, a1, a2, a3]
            have ee : (a + 4 ≤ a + ((x :: y :: z :: v :: t).length : Int) ∧ enc (r4 x.toNat y.toNat z.toNat v.toNat) = [x, y, z, v]) ↔ E4 x.toNat y.toNat z.toNat v.toNat := by
              rw [enc_iff]
              simp only [List.map_cons, List.map_nil, e]
              exact ⟨fun h => h.2, fun h => ⟨by simp; omega, h⟩⟩
            by_cases q : E4 x.toNat y.toNat z.toNat v.toNat
            · rw [if_pos (ee.2 q), if_pos q]
            · rw [if_neg (fun h => q (ee.1 h)), if_neg q]
        · rw [decide_eq_false c4, cond_false]
          rw [t0] at c0 c2 c3 c4
          unfold rd bi
          generalize b.drop a.toNat = s at *
          have n2 : ∀ u, ¬ E2 ((at' s 0).toNat : Int) u := fun u h => by unfold E2 at h; omega
          have n3 : ∀ u v, ¬ E3 ((at' s 0).toNat : Int) u v := fun u v h => by unfold E3 at h; omega
          have n4 : ∀ u v w, ¬ E4 ((at' s 0).toNat : Int) u v w := fun u v w h => by unfold E4 at h; omega
          simp only [n2, n3, n4, c0, if_false, ite_self]
end

theorem rd_bound (s : List UInt8) : 0 ≤ (rd s).2 ∧ (rd s).2 ≤ 4 ∧ (rd s).2 ≤ (s.length : Int) := by
  unfold rd
  repeat' split
  all_goals simp only
  all_goals omega

/-- The runes of some bytes: with so much fuel. -/
def runes : Nat → List UInt8 → Option (List Int)
  | 0, _ => some []
  | m + 1, s => if s.length = 0 then some [] else if (rd s).2 = 0 then none else (runes m (s.drop (rd s).2.toNat)).map ((rd s).1 :: ·)

def runesR (s : List UInt8) : List Int × Bool := if 65536 < (s.length : Int) then ([], false) else match runes s.length s with
  | some l => (l, true)
  | none => ([], false)

theorem runes_len : ∀ (m : Nat) (s : List UInt8) (l : List Int), runes m s = some l → l.length ≤ s.length
  | 0, s, l, h => by simp only [runes, Option.some.injEq] at h; subst h; simp
  | m + 1, s, l, h => by
    simp only [runes] at h
    split at h
    · simp only [Option.some.injEq] at h; subst h; simp
    · split at h
      · cases h
      · rename_i h0 h1
        obtain ⟨q, hq, rfl⟩ := Option.map_eq_some_iff.1 h
        have := runes_len m _ q hq
        have b := rd_bound s
        simp only [List.length_drop, List.length_cons] at this ⊢
        omega

theorem runesR_len (s : List UInt8) : ((runesR s).1.length : Int) ≤ 65536 := by
  unfold runesR
  split
  · simp
  · split
    · rename_i l hl
      have := runes_len _ _ _ hl
      simp only; omega
    · simp

theorem runesLoop_s (s : List UInt8) (hs : (s.length : Int) ≤ 65536) (j : List Int → Option (List Int × Bool)) : ∀ (f m : Nat) (o : List Int) (k : Int), 0 ≤ k → k ≤ (s.length : Int) → (s.length : Int) - k ≤ f → (s.length : Int) - k < m → (o.length : Int) ≤ k →
    fixF (M_s_RunesOf_L1 s j) m (o, k) = match runes f (s.drop k.toNat) with
      | some l => j (o ++ l)
      | none => some ([], false) := by
  intro f
  induction f with
  | zero =>
    intro m o k hk hk' hf hm ho
    cases m with
    | zero => omega
    | succ m =>
      have h1 : ¬ k < (s.length : Int) := by omega
      simp only [fixF, M_s_RunesOf_L1, h1, decide_false, cond_false, runes, List.append_nil]
  | succ f ih =>
    intro m o k hk hk' hf hm ho
    cases m with
    | zero => omega
    | succ m =>
      simp only [fixF, M_s_RunesOf_L1, guardO, runes, Bool.cond_decide]
      by_cases h1 : k < (s.length : Int)
      · have hne : ¬ (s.drop k.toNat).length = 0 := by simp; omega
        rw [if_pos h1, bindO_of (runeRead_s hk (by omega) h1), if_neg hne]
        have hb := rd_bound (s.drop k.toNat)
        simp only [List.length_drop] at hb
        by_cases h2 : (rd (s.drop k.toNat)).2 = 0
        · rw [if_pos h2, if_pos h2]
        · rw [if_neg h2, if_neg h2, if_pos (by simp; omega), W_eq (by omega) (by omega), ih m _ _ (by omega) (by omega) (by omega) (by omega) (by simp; omega)]
          have e : s.drop (k + (rd (s.drop k.toNat)).2).toNat = (s.drop k.toNat).drop (rd (s.drop k.toNat)).2.toNat := by
            rw [List.drop_drop]; congr 1; omega
          rw [e]
          cases runes f ((s.drop k.toNat).drop (rd (s.drop k.toNat)).2.toNat) with
          | none => rfl
          | some l => simp
      · have hne : (s.drop k.toNat).length = 0 := by simp; omega
        rw [if_neg h1, if_pos hne]; simp

theorem runesLoop_i (s : List UInt8) (hs : (s.length : Int) ≤ 65536) (j : List Int → Option (List Int × Bool)) : ∀ (f m : Nat) (o : List Int) (k : Int), 0 ≤ k → k ≤ (s.length : Int) → (s.length : Int) - k ≤ f → (s.length : Int) - k < m → (o.length : Int) ≤ k →
    fixF (M_i_RunesOf_L1 s j) m (o, k) = match runes f (s.drop k.toNat) with
      | some l => j (o ++ l)
      | none => some ([], false) := by
  intro f
  induction f with
  | zero =>
    intro m o k hk hk' hf hm ho
    cases m with
    | zero => omega
    | succ m =>
      have h1 : ¬ k < (s.length : Int) := by omega
      simp only [fixF, M_i_RunesOf_L1, h1, decide_false, cond_false, runes, List.append_nil]
  | succ f ih =>
    intro m o k hk hk' hf hm ho
    cases m with
    | zero => omega
    | succ m =>
      simp only [fixF, M_i_RunesOf_L1, guardO, runes, Bool.cond_decide]
      by_cases h1 : k < (s.length : Int)
      · have hne : ¬ (s.drop k.toNat).length = 0 := by simp; omega
        rw [if_pos h1, bindO_of (runeRead_i hk (by omega) h1), if_neg hne]
        have hb := rd_bound (s.drop k.toNat)
        simp only [List.length_drop] at hb
        by_cases h2 : (rd (s.drop k.toNat)).2 = 0
        · rw [if_pos h2, if_pos h2]
        · rw [if_neg h2, if_neg h2, if_pos (by simp; omega), W_eq (by omega) (by omega), ih m _ _ (by omega) (by omega) (by omega) (by omega) (by simp; omega)]
          have e : s.drop (k + (rd (s.drop k.toNat)).2).toNat = (s.drop k.toNat).drop (rd (s.drop k.toNat)).2.toNat := by
            rw [List.drop_drop]; congr 1; omega
          rw [e]
          cases runes f ((s.drop k.toNat).drop (rd (s.drop k.toNat)).2.toNat) with
          | none => rfl
          | some l => simp
      · have hne : (s.drop k.toNat).length = 0 := by simp; omega
        rw [if_neg h1, if_pos hne]; simp

theorem runesOf_s (s : List UInt8) : M_s_RunesOf s = some (runesR s) := by
  unfold M_s_RunesOf runesR
  simp only [joinO, Bool.cond_decide]
  by_cases h : 65536 < (s.length : Int)
  · rw [if_pos h, if_pos h]
  · rw [if_neg h, if_neg h, runesLoop_s s (by omega) _ s.length FUEL [] 0 (by omega) (by omega) (by omega) (by rw [fuel_eq]; omega) (by simp)]
    simp only [Int.toNat_zero, List.drop_zero, List.nil_append]
    cases runes s.length s <;> rfl

theorem runesOf_i (s : List UInt8) : M_i_RunesOf s = some (runesR s) := by
  unfold M_i_RunesOf runesR
  simp only [joinO, Bool.cond_decide]
  by_cases h : 65536 < (s.length : Int)
  · rw [if_pos h, if_pos h]
  · rw [if_neg h, if_neg h, runesLoop_i s (by omega) _ s.length FUEL [] 0 (by omega) (by omega) (by omega) (by rw [fuel_eq]; omega) (by simp)]
    simp only [Int.toNat_zero, List.drop_zero, List.nil_append]
    cases runes s.length s <;> rfl

def lineOf (s : List UInt8) : (List Int × Int) × Bool := if (runesR s).2 && lineOk ((runesR s).1, ((runesR s).1.length : Int)) then (((runesR s).1, ((runesR s).1.length : Int)), true) else (([], 0), false)

theorem lineOf_s (s : List UInt8) : M_s_LineOf s = some (lineOf s) := by
  unfold M_s_LineOf M_s_l13If lineOf
  have hl := runesR_len s
  rw [bindO_of (runesOf_s s)]
  generalize runesR s = r at *
  obtain ⟨l, b⟩ := r
  simp only at hl ⊢
  rw [lineOk_s (l, (l.length : Int)) (by simp only; omega), callO_of]
  cases b
  · simp [bindO]
  · cases hk : lineOk (l, (l.length : Int)) <;> simp [bindO, hk]

theorem lineOf_i (s : List UInt8) : M_i_LineOf s = some (lineOf s) := by
  unfold M_i_LineOf lineOf
  have hl := runesR_len s
  rw [bindO_of (runesOf_i s)]
  generalize runesR s = r at *
  obtain ⟨l, b⟩ := r
  simp only at hl ⊢
  rw [lineOk_i (l, (l.length : Int)) (by simp only; omega), callO_of]
  cases b
  · simp
  · cases hk : lineOk (l, (l.length : Int)) <;> simp [hk]

theorem lineOf_small (s : List UInt8) : (lineOf s).1.1.length ≤ 400 := by
  unfold lineOf
  split
  · rename_i h
    simp only [Bool.and_eq_true] at h
    have h2 := h.2
    unfold lineOk allAdm at h2
    simp only [Bool.and_eq_true, decide_eq_true_eq] at h2
    exact h2.1.2
  · simp

theorem bindO_tr {α β : Type} {m : Option α} {k : α → Option β} {y : α} {z : Option β} (h : m = some y) (hk : k y = z) : bindO m k = z := (bindO_of h).trans hk

section
variable (e : EdT) (hv : edOkB e = true)
include hv
theorem smallV : Small 400 e := by
  obtain ⟨vi, mode, line, count, op, opc, wait, fr, fh, last, ring, undo, nav, own, query, hit, back⟩ := e
  exact small_of hv
theorem copyEV_i : M_i_copyEd e = some e := by
  obtain ⟨vi, mode, line, count, op, opc, wait, fr, fh, last, ring, undo, nav, own, query, hit, back⟩ := e
  exact copyV_i vi mode line count op opc wait fr fh last ring undo nav own query hit back hv
theorem copyEV_s : M_s_l21Copy e = some e := by
  obtain ⟨vi, mode, line, count, op, opc, wait, fr, fh, last, ring, undo, nav, own, query, hit, back⟩ := e
  exact copyV_s vi mode line count op opc wait fr fh last ring undo nav own query hit back hv
end

theorem callO_pos_of {α β : Type} {c : Prop} [Decidable c] {m : Option α} {x d : α} {k : α → Option β} (h : m = some x) (hc : c) : callO c m d k = k x := by
  rw [h, callO_pos hc]

def kOk (k : Int × Int) : Bool :=
  if k.1 = 1 then pr k.2
  else if k.1 = 2 then decide (k.2 = 95 ∨ (97 ≤ k.2 ∧ k.2 ≤ 122 ∧ k.2 ≠ 104 ∧ k.2 ≠ 105 ∧ k.2 ≠ 106 ∧ k.2 ≠ 109))
  else if k.1 = 3 then decide (33 ≤ k.2 ∧ k.2 ≤ 126)
  else decide (4 ≤ k.1 ∧ k.1 ≤ 16 ∧ k.2 = 0)

theorem keyOk_i (k : Int × Int) : M_i_KeyOk k = some (kOk k) := by
  unfold M_i_KeyOk kOk
  simp only [printable_i, bindO, Bool.cond_decide, M_i_isLower, M_i_in, callO_of]
  by_cases h1 : k.1 = 1
  · rw [if_pos h1, if_pos h1]
  rw [if_neg h1, if_neg h1]
  by_cases h2 : k.1 = 2
  · rw [if_pos h2, if_pos h2]
    congr 1
    by_cases q1 : k.2 = 95
    · simp [q1]
    · by_cases q2 : 97 ≤ k.2 <;> by_cases q3 : k.2 ≤ 122 <;> simp [q1, q2, q3, Bool.and_assoc]
  rw [if_neg h2, if_neg h2]
  by_cases h3 : k.1 = 3
  · rw [if_pos h3, if_pos h3]
    congr 1
    by_cases q2 : 33 ≤ k.2 <;> simp [q2]
  rw [if_neg h3, if_neg h3]
  congr 1
  by_cases q2 : 4 ≤ k.1 <;> by_cases q3 : k.1 ≤ 16 <;> simp [q2, q3]

theorem keyOk_s (k : Int × Int) : M_s_KeyOk k = some (kOk k) := by
  unfold M_s_KeyOk kOk
  simp only [printable_s, bindO, Bool.cond_decide]
  by_cases h1 : k.1 = 1
  · rw [if_pos h1, if_pos h1]
  rw [if_neg h1, if_neg h1]
  by_cases h2 : k.1 = 2
  · rw [if_pos h2, if_pos h2]
    congr 1
    by_cases q1 : k.2 = 95
    · simp [q1]
    · by_cases q2 : 97 ≤ k.2 <;> by_cases q3 : k.2 ≤ 122 <;> simp [q1, q2, q3, Bool.and_assoc]
  rw [if_neg h2, if_neg h2]
  by_cases h3 : k.1 = 3
  · rw [if_pos h3, if_pos h3]
    congr 1
    by_cases q2 : 33 ≤ k.2 <;> simp [q2]
  rw [if_neg h3, if_neg h3]
  congr 1
  by_cases q2 : 4 ≤ k.1 <;> by_cases q3 : k.1 ≤ 16 <;> simp [q2, q3]

theorem markText_loop (j : List UInt8 → Option (List UInt8)) (hj : ∀ l : List UInt8, (l.length : Int) ≤ 9000000000000000 → ∃ v, j l = some v) : ∀ (m : Nat) (x : Int) (l : List UInt8), 0 ≤ x → x < m → (l.length : Int) + x ≤ 9000000000000000 → ∃ v, fixF (M_l_markText_L1 j) m (x, l) = some v := by
  intro m
  induction m with
  | zero => intro x l h0 h _; omega
  | succ m ih =>
    intro x l h0 hm hl
    simp only [fixF, M_l_markText_L1, guardO, Bool.cond_decide]
    by_cases h : 0 < x
    · rw [if_pos h]
      have hd : Int.tdiv x 10 = x / 10 := Int.tdiv_eq_ediv_of_nonneg h0
      rw [hd, W_eq (x := x / 10) (by omega) (by omega)]
      rw [if_pos (by simp; omega)]
      exact ih _ _ (by omega) (by omega) (by simp; omega)
    · rw [if_neg h]
      exact hj l (by omega)

theorem markText_ok (k : Int) (hk : k ≤ 8000000000000000) : ∃ t, M_l_markText k = some t := by
  unfold M_l_markText
  simp only [joinO, Bool.cond_decide]
  by_cases h : k ≤ 0
  · rw [if_pos h]; exact ⟨_, rfl⟩
  · rw [if_neg h]
    refine markText_loop _ (fun l hl => ?_) FUEL k [] (by omega) (by rw [fuel_eq]; omega) (by simp; omega)
    simp only [guardO]
    rw [if_pos (by simp; omega)]
    exact ⟨_, rfl⟩

theorem markStringS_loop (xs : List (List UInt8)) (hl : (xs.length : Int) ≤ 1048576) (k0 : Int) (hk0 : 0 ≤ k0 ∧ k0 ≤ 5000000000000000) (j : List (List UInt8) × Int → Option (Int × List (List UInt8))) : ∀ (m : Nat) (ys : List (List UInt8)) (i : Int), 0 ≤ i → i ≤ (xs.length : Int) → ys.length = xs.length → (xs.length : Int) - i < m →
    ∃ zs, fixF (M_l_markStringS_L1 xs j) m (ys, k0 + i, i) = j (zs, k0 + xs.length) ∧ zs.length = xs.length := by
  intro m
  induction m with
  | zero => intro ys i _ _ _ h; omega
  | succ m ih =>
    intro ys i h0 h1 hy hm
    simp only [fixF, M_l_markStringS_L1, guardO, Bool.cond_decide]
    by_cases h : i < (xs.length : Int)
    · rw [if_pos h]
      obtain ⟨t, ht⟩ := markText_ok (k0 + i) (by omega)
      rw [bindO_of ht, if_pos ⟨h0, h⟩, W_eq (x := k0 + i + 1) (by omega) (by omega), W_eq (x := i + 1) (by omega) (by omega)]
      have := ih (List.set ys i.toNat t) (i + 1) (by omega) (by omega) (by simpa using hy) (by omega)
      rw [← Int.add_assoc] at this
      exact this
    · rw [if_neg h]
      have : i = (xs.length : Int) := by omega
      subst this
      exact ⟨ys, rfl, hy⟩

theorem markStringS_ok (xs : List (List UInt8)) (hl : (xs.length : Int) ≤ 1048576) (k0 : Int) (hk0 : 0 ≤ k0 ∧ k0 ≤ 5000000000000000) : ∃ zs, M_l_markStringS xs k0 = some (k0 + xs.length, zs) := by
  unfold M_l_markStringS
  simp only [joinO]
  obtain ⟨zs, h, _⟩ := markStringS_loop xs hl k0 hk0 (fun x => some (x.2, x.1)) FUEL xs 0 (by omega) (by omega) rfl (by rw [fuel_eq]; omega)
  refine ⟨zs, ?_⟩
  rw [Int.add_zero] at h
  exact h

theorem toHist_eq (h : Int × List (List UInt8)) (hl : (h.2.length : Int) ≤ 100000000) : M_l_toHist h = some h := by
  unfold M_l_toHist; rw [bindO_of (toStringS_eq h.2 hl)]
theorem eqHist_self (h : Int × List (List UInt8)) (hl : (h.2.length : Int) ≤ 100000000) : M_l_eqHist h h = some true := by
  unfold M_l_eqHist; rw [bindO_of (eqStringS_self h.2 hl)]; simp
theorem szHist_ok (h : Int × List (List UInt8)) (wh : WfT (.pair (.int .i64) (.sl .str)) h) (left : Int) (h0 : 0 ≤ left) (h1 : left ≤ 1048576) :
    ∃ v, M_l_szHist h left = some v ∧ (v = -1 ∨ (0 ≤ v ∧ v ≤ left ∧ (h.2.length : Int) ≤ 1048576 ∧ ∀ s ∈ h.2, (s.length : Int) ≤ 1048576)) := by
  obtain ⟨w1, w2, w3⟩ := wh
  obtain ⟨v, e, hv⟩ := szStringS_ok h.2 w2 w3 left h0 h1
  unfold M_l_szHist
  rw [bindO_of e]
  rcases hv with rfl | ⟨v0, v1, v2, v3⟩
  · exact ⟨-1, rfl, .inl rfl⟩
  · have nv : ¬ (v < 0) := by omega
    exact ⟨v, by simp [nv], .inr ⟨v0, v1, by omega, fun s hs => by have := v3 s hs; omega⟩⟩
theorem markHist_ok (h : Int × List (List UInt8)) (hl : (h.2.length : Int) ≤ 1048576) (k0 : Int) (hk0 : 0 ≤ k0 ∧ k0 ≤ 5000000000000000) : ∃ zs, M_l_markHist h k0 = some (k0 + h.2.length, zs) := by
  obtain ⟨zs, e⟩ := markStringS_ok h.2 hl k0 hk0
  exact ⟨zs, by unfold M_l_markHist; rw [bindO_of e]⟩

def MkI (ys : List Int) (k : Int) : Prop := ∀ i : Nat, i < ys.length → ys[i]? = some (k + i)

theorem markIntS_loop (xs : List Int) (hl : (xs.length : Int) ≤ 100000000) (k0 : Int) (hk0 : 0 ≤ k0 ∧ k0 ≤ 4000000000000000000) (j : List Int × Int → Option (Int × List Int)) : ∀ (m : Nat) (ys : List Int) (i : Int), 0 ≤ i → i ≤ (xs.length : Int) → ys.length = xs.length → (∀ q : Nat, (q : Int) < i → ys[q]? = some (k0 + q)) → (xs.length : Int) - i < m → 0 < m →
    ∃ zs, fixF (M_l_markIntS_L1 xs j) m (ys, k0 + i, i) = j (zs, k0 + xs.length) ∧ zs.length = xs.length ∧ MkI zs k0 := by
  intro m
  induction m with
  | zero => intro ys k _ _ _ _ h h'; omega
  | succ m ih =>
    intro ys k hk hk' hy hyx hm _
    simp only [fixF, M_l_markIntS_L1, guardO, Bool.cond_decide]
    by_cases h1 : k < (xs.length : Int)
    · simp only [h1, hk, if_true, and_self]
      rw [W_eq (x := k + 1) (by omega) (by omega), W_eq (x := k0 + k + 1) (by omega) (by omega)]
      have e : k0 + k + 1 = k0 + (k + 1) := by omega
      rw [e]
      refine ih _ _ (by omega) (by omega) (by simpa using hy) (fun q hq => ?_) (by omega) (by omega)
      rw [List.getElem?_set]
      by_cases he : k.toNat = q
      · subst he
        rw [if_pos rfl, if_pos (by omega)]
        congr 1; omega
      · rw [if_neg he]
        exact hyx q (by omega)
    · simp only [h1, if_false]
      have : k = (xs.length : Int) := by omega
      subst this
      exact ⟨ys, rfl, hy, fun q hq => hyx q (by omega)⟩

theorem markIntS_ok (xs : List Int) (hl : (xs.length : Int) ≤ 100000000) (k : Int) (hk0 : 0 ≤ k ∧ k ≤ 4000000000000000000) : ∃ ys, M_l_markIntS xs k = some (k + xs.length, ys) ∧ ys.length = xs.length ∧ MkI ys k := by
  obtain ⟨zs, h1, h2, h3⟩ := markIntS_loop xs hl k hk0 (fun x => some (x.2, x.1)) FUEL xs 0 (by omega) (by omega) rfl (fun q hq => by omega) (by rw [fuel_eq]; omega) (by rw [fuel_eq]; omega)
  refine ⟨zs, ?_, h2, h3⟩
  unfold M_l_markIntS joinO
  have e : k + 0 = k := by omega
  rw [e] at h1
  exact h1

theorem heldIntS_loop (xs : List Int) (hl : (xs.length : Int) ≤ 100000000) (k0 : Int) (hk0 : 0 ≤ k0 ∧ k0 ≤ 4000000000000000000) (hM : MkI xs k0) (j : Int → Option Int) : ∀ (m : Nat) (i : Int), 0 ≤ i → i ≤ (xs.length : Int) → (xs.length : Int) - i < m → 0 < m →
    fixF (M_l_heldIntS_L1 xs j) m (k0 + i, i) = j (k0 + xs.length) := by
  intro m
  induction m with
  | zero => intro k _ _ h h'; omega
  | succ m ih =>
    intro k hk hk' hm _
    simp only [fixF, M_l_heldIntS_L1, guardO, Bool.cond_decide]
    by_cases h1 : k < (xs.length : Int)
    · have h2 := hM k.toNat (by omega)
      rw [at_some ⟨hk, h1⟩] at h2
      have h3 : at' xs k = k0 + k := by
        injection h2 with h2
        rw [h2]; omega
      simp only [h1, hk, if_true, and_self, h3, decide_true, Bool.not_true, cond_false]
      rw [W_eq (x := k + 1) (by omega) (by omega), W_eq (x := k0 + k + 1) (by omega) (by omega)]
      have e : k0 + k + 1 = k0 + (k + 1) := by omega
      rw [e]
      exact ih _ (by omega) (by omega) (by omega) (by omega)
    · simp only [h1, if_false]
      congr 1; omega

theorem heldIntS_ok (xs : List Int) (hl : (xs.length : Int) ≤ 100000000) (k : Int) (hk0 : 0 ≤ k ∧ k ≤ 4000000000000000000) (hM : MkI xs k) : M_l_heldIntS xs k = some (k + xs.length) := by
  have h := heldIntS_loop xs hl k hk0 hM (fun x => some x) FUEL 0 (by omega) (by omega) (by rw [fuel_eq]; omega) (by rw [fuel_eq]; omega)
  unfold M_l_heldIntS joinO
  have e : k + 0 = k := by omega
  rw [e] at h
  exact h

def totP : List (List Int) → Int
  | [] => 0
  | p :: t => (p.length : Int) + totP t
def MkP : List (List Int) → Int → Prop
  | [], _ => True
  | p :: t, k => MkI p k ∧ MkP t (k + p.length)

theorem totP_app (a b : List (List Int)) : totP (a ++ b) = totP a + totP b := by
  induction a with
  | nil => simp [totP]
  | cons p t ih => simp only [List.cons_append, totP, ih]; omega
theorem MkP_app (a b : List (List Int)) : ∀ k, MkP (a ++ b) k ↔ MkP a k ∧ MkP b (k + totP a) := by
  induction a with
  | nil => intro k; simp [MkP, totP]
  | cons p t ih =>
    intro k
    simp only [List.cons_append, MkP, ih, totP, and_assoc]
    have : k + ↑p.length + totP t = k + (↑p.length + totP t) := by omega
    rw [this]
theorem totP_bound (xs : List (List Int)) (N : Int) (hN : 0 ≤ N) (hs : ∀ s ∈ xs, (s.length : Int) ≤ N) : 0 ≤ totP xs ∧ totP xs ≤ N * xs.length := by
  induction xs with
  | nil => simp [totP]
  | cons p t ih =>
    have h1 := hs p (by simp)
    have h2 := ih (fun s h => hs s (by simp [h]))
    simp only [totP, List.length_cons]
    have e : N * ((t.length + 1 : Nat) : Int) = N * t.length + N := by rw [Int.natCast_add, Int.mul_add]; simp
    omega
theorem totP_len {xs ys : List (List Int)} (h : xs.map List.length = ys.map List.length) : totP xs = totP ys := by
  induction xs generalizing ys with
  | nil => cases ys with
    | nil => rfl
    | cons _ _ => simp at h
  | cons p t ih => cases ys with
    | nil => simp at h
    | cons q u =>
      simp only [List.map_cons, List.cons.injEq] at h
      simp only [totP, ih h.2, h.1]

theorem mul_small {a b : Int} (ha : 0 ≤ a) (hb : 0 ≤ b) (ha' : a ≤ 1048576) (hb' : b ≤ 1048576) : a * b ≤ 1099511627776 := by
  have h1 : a * b ≤ 1048576 * b := Int.mul_le_mul_of_nonneg_right ha' hb
  omega

theorem markPieceS_loop (xs : List (List Int)) (hl : (xs.length : Int) ≤ 1048576) (hs : ∀ s ∈ xs, (s.length : Int) ≤ 1048576) (k0 : Int) (hk0 : 0 ≤ k0 ∧ k0 ≤ 1000000000000000000) (j : List (List Int) × Int → Option (Int × List (List Int))) : ∀ (rest : List (List Int)) (m : Nat) (ds : List (List Int)), xs.length = ds.length + rest.length → xs.map List.length = (ds ++ rest).map List.length → MkP ds k0 → rest.length < m →
    ∃ zs, fixF (M_l_markPieceS_L1 xs j) m (ds ++ rest, k0 + totP ds, (ds.length : Int)) = j (zs, k0 + totP xs) ∧ zs.map List.length = xs.map List.length ∧ MkP zs k0 := by
  intro rest
  induction rest with
  | nil =>
    intro m ds h1 h2 h3 hm
    obtain ⟨m, rfl⟩ : ∃ q, m = q + 1 := ⟨m - 1, by simp at hm; omega⟩
    simp only [List.append_nil, List.length_nil, Nat.add_zero] at h1 h2 ⊢
    simp only [fixF, M_l_markPieceS_L1, Bool.cond_decide]
    rw [if_neg (by omega)]
    exact ⟨ds, by rw [totP_len h2], h2.symm, h3⟩
  | cons p rest ih =>
    intro m ds h1 h2 h3 hm
    obtain ⟨m, rfl⟩ : ∃ q, m = q + 1 := ⟨m - 1, by simp at hm; omega⟩
    simp only [List.length_cons] at h1 hm
    have hlt : (ds.length : Int) < (xs.length : Int) := by omega
    have hp : (p.length : Int) ≤ 1048576 := by
      have hm' : p.length ∈ xs.map List.length := by rw [h2]; simp
      obtain ⟨s, q1, q2⟩ := List.mem_map.1 hm'
      have := hs s q1
      omega
    have hds := totP_bound ds 1048576 (by omega) (fun s h => by
      have hm' : s.length ∈ xs.map List.length := by rw [h2]; simp; exact .inl ⟨s, h, rfl⟩
      obtain ⟨s', q1, q2⟩ := List.mem_map.1 hm'
      have := hs s' q1
      omega)
    have hb : totP ds ≤ 1099511627776 := by
      have := mul_small (a := 1048576) (b := ds.length) (by omega) (by omega) (by omega) (by omega)
      omega
    have hat : at' (ds ++ p :: rest) (ds.length : Int) = p := by
      unfold at'
      simp [List.getD_eq_getElem?_getD]
    obtain ⟨ys, y1, y2, y3⟩ := markIntS_ok p (by omega) (k0 + totP ds) (by omega)
    simp only [fixF, M_l_markPieceS_L1, guardO, Bool.cond_decide]
    rw [if_pos hlt, if_pos ⟨by omega, hlt⟩, hat, bindO_of y1, W_eq (by omega) (by omega)]
    have hset : (ds ++ p :: rest).set (Int.toNat (ds.length : Int)) ys = (ds ++ [ys]) ++ rest := by
      simp [List.set_append]
    have hk : k0 + totP ds + (p.length : Int) = k0 + totP (ds ++ [ys]) := by
      rw [totP_app]; simp only [totP]; omega
    have hi : (ds.length : Int) + 1 = ((ds ++ [ys]).length : Int) := by simp
    rw [hset, hi]
    simp only
    rw [hk]
    refine ih m (ds ++ [ys]) (by simp; omega) (by rw [h2]; simp [y2]) ?_ (by omega)
    rw [MkP_app]
    exact ⟨h3, y3, trivial⟩

theorem markRing_ok (xs : List (List Int)) (hl : (xs.length : Int) ≤ 1048576) (hs : ∀ s ∈ xs, (s.length : Int) ≤ 1048576) (k : Int) (hk0 : 0 ≤ k ∧ k ≤ 1000000000000000000) : ∃ zs, M_l_markRing xs k = some (k + totP xs, zs) ∧ zs.map List.length = xs.map List.length ∧ MkP zs k := by
  obtain ⟨zs, h1, h2, h3⟩ := markPieceS_loop xs hl hs k hk0 (fun x => some (x.2, x.1)) xs FUEL [] (by simp) (by simp) trivial (by rw [fuel_eq]; omega)
  refine ⟨zs, ?_, h2, h3⟩
  unfold M_l_markRing M_l_markPieceS joinO
  simp only [List.nil_append, totP, Int.add_zero, List.length_nil] at h1
  have e : ((0 : Nat) : Int) = 0 := rfl
  rw [e] at h1
  exact bindO_of h1

theorem heldPieceS_loop (xs : List (List Int)) (hl : (xs.length : Int) ≤ 1048576) (hs : ∀ s ∈ xs, (s.length : Int) ≤ 1048576) (j : Int → Option Int) : ∀ (m : Nat) (k i : Int), 0 ≤ i → i ≤ (xs.length : Int) → 0 ≤ k → k + totP (xs.drop i.toNat) ≤ 2000000000000000000 → MkP (xs.drop i.toNat) k → (xs.length : Int) - i < m →
    fixF (M_l_heldPieceS_L1 xs j) m (k, i) = j (k + totP (xs.drop i.toNat)) := by
  intro m
  induction m with
  | zero => intro k i _ _ _ _ _ h; omega
  | succ m ih =>
    intro k i hi hi' hk hk' hM hm
    simp only [fixF, M_l_heldPieceS_L1, guardO, Bool.cond_decide]
    by_cases h1 : i < (xs.length : Int)
    · rw [drop_at hi h1] at hM hk' ⊢
      have hb := hs (at' xs i) (List.mem_of_getElem? (at_some ⟨hi, h1⟩))
      have htb := totP_bound (xs.drop (i + 1).toNat) 1048576 (by omega) (fun s h => hs s (List.mem_of_mem_drop h))
      simp only [totP] at hk' ⊢
      obtain ⟨hM1, hM2⟩ := hM
      rw [if_pos h1, if_pos ⟨hi, h1⟩, bindO_of (heldIntS_ok _ (by omega) k (by omega) hM1), if_neg (by omega), W_eq (by omega) (by omega)]
      rw [ih _ (i + 1) (by omega) (by omega) (by omega) (by omega) hM2 (by omega)]
      congr 1; omega
    · rw [if_neg h1, List.drop_eq_nil_of_le (by omega)]
      simp [totP]

theorem heldRing_ok (xs : List (List Int)) (hl : (xs.length : Int) ≤ 1048576) (hs : ∀ s ∈ xs, (s.length : Int) ≤ 1048576) (k : Int) (hk0 : 0 ≤ k ∧ k ≤ 1000000000000000000) (hM : MkP xs k) : M_l_heldRing xs k = some (k + totP xs) := by
  have hb := totP_bound xs 1048576 (by omega) hs
  have := mul_small (a := 1048576) (b := xs.length) (by omega) (by omega) (by omega) (by omega)
  unfold M_l_heldRing M_l_heldPieceS
  simp only [joinO]
  rw [heldPieceS_loop xs hl hs _ FUEL k 0 (by omega) (by omega) (by omega) (by simp only [Int.toNat_zero, List.drop_zero]; omega) (by simpa using hM) (by rw [fuel_eq]; omega)]
  simp only [Int.toNat_zero, List.drop_zero, bindO]
  have : ¬ (k + totP xs < 0) := by omega
  simp [this]

def totL : List (List Int × Int) → Int
  | [] => 0
  | p :: t => (p.1.length : Int) + 1 + totL t
def MkL : List (List Int × Int) → Int → Prop
  | [], _ => True
  | p :: t, k => (MkI p.1 k ∧ p.2 = k + p.1.length) ∧ MkL t (k + p.1.length + 1)

theorem totL_app (a b : List (List Int × Int)) : totL (a ++ b) = totL a + totL b := by
  induction a with
  | nil => simp [totL]
  | cons p t ih => simp only [List.cons_append, totL, ih]; omega
theorem MkL_app (a b : List (List Int × Int)) : ∀ k, MkL (a ++ b) k ↔ MkL a k ∧ MkL b (k + totL a) := by
  induction a with
  | nil => intro k; simp [MkL, totL]
  | cons p t ih =>
    intro k
    simp only [List.cons_append, MkL, ih, totL, and_assoc]
    have : k + ↑p.1.length + 1 + totL t = k + (↑p.1.length + 1 + totL t) := by omega
    rw [this]
theorem totL_bound (xs : List (List Int × Int)) (N : Int) (hN : 0 ≤ N) (hs : ∀ s ∈ xs, (s.1.length : Int) + 1 ≤ N) : 0 ≤ totL xs ∧ totL xs ≤ N * xs.length := by
  induction xs with
  | nil => simp [totL]
  | cons p t ih =>
    have h1 := hs p (by simp)
    have h2 := ih (fun s h => hs s (by simp [h]))
    simp only [totL, List.length_cons]
    have e : N * ((t.length + 1 : Nat) : Int) = N * t.length + N := by rw [Int.natCast_add, Int.mul_add]; simp
    omega
def len1 (p : List Int × Int) : Nat := p.1.length
theorem totL_len {xs ys : List (List Int × Int)} (h : xs.map len1 = ys.map len1) : totL xs = totL ys := by
  induction xs generalizing ys with
  | nil => cases ys with
    | nil => rfl
    | cons _ _ => simp at h
  | cons p t ih => cases ys with
    | nil => simp at h
    | cons q u =>
      simp only [List.map_cons, List.cons.injEq, len1] at h
      simp only [totL, ih h.2, h.1]

theorem mul_small2 {b : Int} (hb : 0 ≤ b) (hb' : b ≤ 1048576) : 1048577 * b ≤ 1099512676352 := by omega

theorem markLineS_loop (xs : List (List Int × Int)) (hl : (xs.length : Int) ≤ 1048576) (hs : ∀ s ∈ xs, (s.1.length : Int) ≤ 1048576) (k0 : Int) (hk0 : 0 ≤ k0 ∧ k0 ≤ 1000000000000000000) (j : List (List Int × Int) × Int → Option (Int × List (List Int × Int))) : ∀ (rest : List (List Int × Int)) (m : Nat) (ds : List (List Int × Int)), xs.length = ds.length + rest.length → xs.map len1 = (ds ++ rest).map len1 → MkL ds k0 → rest.length < m →
    ∃ zs, fixF (M_l_markLineS_L1 xs j) m (ds ++ rest, k0 + totL ds, (ds.length : Int)) = j (zs, k0 + totL xs) ∧ zs.map len1 = xs.map len1 ∧ MkL zs k0 := by
  intro rest
  induction rest with
  | nil =>
    intro m ds h1 h2 h3 hm
    obtain ⟨m, rfl⟩ : ∃ q, m = q + 1 := ⟨m - 1, by simp at hm; omega⟩
    simp only [List.append_nil, List.length_nil, Nat.add_zero] at h1 h2 ⊢
    simp only [fixF, M_l_markLineS_L1, Bool.cond_decide]
    rw [if_neg (by omega)]
    exact ⟨ds, by rw [totL_len h2], h2.symm, h3⟩
  | cons p rest ih =>
    intro m ds h1 h2 h3 hm
    obtain ⟨m, rfl⟩ : ∃ q, m = q + 1 := ⟨m - 1, by simp at hm; omega⟩
    simp only [List.length_cons] at h1 hm
    have hlt : (ds.length : Int) < (xs.length : Int) := by omega
    have hp : (p.1.length : Int) ≤ 1048576 := by
      have hm' : len1 p ∈ xs.map len1 := by rw [h2]; simp
      obtain ⟨s, q1, q2⟩ := List.mem_map.1 hm'
      have := hs s q1
      unfold len1 at q2
      omega
    have hds := totL_bound ds 1048577 (by omega) (fun s h => by
      have hm' : len1 s ∈ xs.map len1 := by rw [h2]; exact List.mem_map.2 ⟨s, List.mem_append_left _ h, rfl⟩
      obtain ⟨s', q1, q2⟩ := List.mem_map.1 hm'
      have := hs s' q1
      unfold len1 at q2
      omega)
    have hb : totL ds ≤ 1099512676352 := by
      have := mul_small2 (b := ds.length) (by omega) (by omega)
      omega
    have hat : at' (ds ++ p :: rest) (ds.length : Int) = p := by
      unfold at'
      simp [List.getD_eq_getElem?_getD]
    obtain ⟨ys, y1, y2, y3⟩ := markIntS_ok p.1 (by omega) (k0 + totL ds) (by omega)
    simp only [fixF, M_l_markLineS_L1, guardO, Bool.cond_decide]
    rw [if_pos hlt, if_pos ⟨by omega, hlt⟩, hat, bindO_of y1]
    have hset : ∀ v, (ds ++ p :: rest).set (Int.toNat (ds.length : Int)) v = ds ++ v :: rest := by
      intro v; simp [List.set_append]
    have hset2 : ∀ u v, (ds ++ u :: rest).set (Int.toNat (ds.length : Int)) v = ds ++ v :: rest := by
      intro u v; simp [List.set_append]
    have hat2 : ∀ u : List Int × Int, at' (ds ++ u :: rest) (ds.length : Int) = u := by
      intro u; unfold at'; simp [List.getD_eq_getElem?_getD]
    simp only [hset, hset2, hat2]
    rw [if_pos ⟨by omega, hlt⟩, W_eq (x := (ds.length : Int) + 1) (by omega) (by omega), W_eq (x := k0 + totL ds + (p.1.length : Int) + 1) (by omega) (by omega)]
    have hk : k0 + totL ds + (p.1.length : Int) + 1 = k0 + totL (ds ++ [(ys, k0 + totL ds + (p.1.length : Int))]) := by
      rw [totL_app]; simp only [totL]; omega
    have hi : (ds.length : Int) + 1 = ((ds ++ [(ys, k0 + totL ds + (p.1.length : Int))]).length : Int) := by simp
    rw [hi, hk]
    have ha : ds ++ (ys, k0 + totL ds + (p.1.length : Int)) :: rest = (ds ++ [(ys, k0 + totL ds + (p.1.length : Int))]) ++ rest := by simp
    rw [ha]
    refine ih m _ (by simp; omega) (by rw [h2]; simp [len1, y2]) ?_ (by omega)
    rw [MkL_app]
    exact ⟨h3, ⟨y3, by rw [y2]⟩, trivial⟩

theorem markUndo_ok (xs : List (List Int × Int)) (hl : (xs.length : Int) ≤ 1048576) (hs : ∀ s ∈ xs, (s.1.length : Int) ≤ 1048576) (k : Int) (hk0 : 0 ≤ k ∧ k ≤ 1000000000000000000) : ∃ zs, M_l_markUndo xs k = some (k + totL xs, zs) ∧ zs.map len1 = xs.map len1 ∧ MkL zs k := by
  obtain ⟨zs, h1, h2, h3⟩ := markLineS_loop xs hl hs k hk0 (fun x => some (x.2, x.1)) xs FUEL [] (by simp) (by simp) trivial (by rw [fuel_eq]; omega)
  refine ⟨zs, ?_, h2, h3⟩
  unfold M_l_markUndo M_l_markLineS joinO
  simp only [List.nil_append, totL, Int.add_zero, List.length_nil] at h1
  have e : ((0 : Nat) : Int) = 0 := rfl
  rw [e] at h1
  exact bindO_of h1

theorem heldLineS_loop (xs : List (List Int × Int)) (hl : (xs.length : Int) ≤ 1048576) (hs : ∀ s ∈ xs, (s.1.length : Int) ≤ 1048576) (j : Int → Option Int) : ∀ (m : Nat) (k i : Int), 0 ≤ i → i ≤ (xs.length : Int) → 0 ≤ k → k + totL (xs.drop i.toNat) ≤ 2000000000000000000 → MkL (xs.drop i.toNat) k → (xs.length : Int) - i < m →
    fixF (M_l_heldLineS_L1 xs j) m (k, i) = j (k + totL (xs.drop i.toNat)) := by
  intro m
  induction m with
  | zero => intro k i _ _ _ _ _ h; omega
  | succ m ih =>
    intro k i hi hi' hk hk' hM hm
    simp only [fixF, M_l_heldLineS_L1, guardO, Bool.cond_decide]
    by_cases h1 : i < (xs.length : Int)
    · rw [drop_at hi h1] at hM hk' ⊢
      have hb := hs (at' xs i) (List.mem_of_getElem? (at_some ⟨hi, h1⟩))
      have htb := totL_bound (xs.drop (i + 1).toNat) 1048577 (by omega) (fun s h => by have := hs s (List.mem_of_mem_drop h); omega)
      simp only [totL] at hk' ⊢
      obtain ⟨⟨hM1, hM3⟩, hM2⟩ := hM
      rw [if_pos h1, if_pos ⟨hi, h1⟩, bindO_of (heldIntS_ok _ (by omega) k (by omega) hM1), if_neg (by omega), if_pos ⟨hi, h1⟩]
      rw [decide_eq_true hM3]
      simp only [Bool.not_true, cond_false]
      rw [W_eq (x := i + 1) (by omega) (by omega), W_eq (x := k + _ + 1) (by omega) (by omega)]
      rw [ih _ (i + 1) (by omega) (by omega) (by omega) (by omega) hM2 (by omega)]
      congr 1; omega
    · rw [if_neg h1, List.drop_eq_nil_of_le (by omega)]
      simp [totL]

theorem heldUndo_ok (xs : List (List Int × Int)) (hl : (xs.length : Int) ≤ 1048576) (hs : ∀ s ∈ xs, (s.1.length : Int) ≤ 1048576) (k : Int) (hk0 : 0 ≤ k ∧ k ≤ 1000000000000000000) (hM : MkL xs k) : M_l_heldUndo xs k = some (k + totL xs) := by
  have hb := totL_bound xs 1048577 (by omega) (fun s h => by have := hs s h; omega)
  have := mul_small2 (b := xs.length) (by omega) (by omega)
  unfold M_l_heldUndo M_l_heldLineS
  simp only [joinO]
  rw [heldLineS_loop xs hl hs _ FUEL k 0 (by omega) (by omega) (by omega) (by simp only [Int.toNat_zero, List.drop_zero]; omega) (by simpa using hM) (by rw [fuel_eq]; omega)]
  simp only [Int.toNat_zero, List.drop_zero, bindO]
  have : ¬ (k + totL xs < 0) := by omega
  simp [this]

theorem markLine_ok (l : List Int × Int) (hl : (l.1.length : Int) ≤ 100000000) (k : Int) (hk0 : 0 ≤ k ∧ k ≤ 4000000000000000000) : ∃ ys, M_l_markLine l k = some (k + l.1.length, ys) ∧ ys.length = l.1.length ∧ MkI ys k := by
  obtain ⟨ys, h1, h2, h3⟩ := markIntS_ok l.1 hl k hk0
  exact ⟨ys, by unfold M_l_markLine; rw [bindO_of h1], h2, h3⟩
theorem heldLine_ok (l : List Int × Int) (hl : (l.1.length : Int) ≤ 100000000) (k : Int) (hk0 : 0 ≤ k ∧ k ≤ 4000000000000000000) (hM : MkI l.1 k) : M_l_heldLine l k = some (k + l.1.length) := by
  unfold M_l_heldLine
  rw [bindO_of (heldIntS_ok l.1 hl k hk0 hM)]
  have : ¬ (k + (l.1.length : Int) < 0) := by omega
  simp [this]

theorem map_len {xs ys : List (List Int)} (h : xs.map List.length = ys.map List.length) : xs.length = ys.length := by
  have := congrArg List.length h; simpa using this
theorem map_len1 {xs ys : List (List Int × Int)} (h : xs.map len1 = ys.map len1) : xs.length = ys.length := by
  have := congrArg List.length h; simpa using this

theorem markEd_ok (vi : Bool) (mode : Int) (line : List Int × Int) (count op opc wait fr fh last : Int) (ring : List (List Int)) (undo : List (List Int × Int)) (nav : Int) (own : List Int × Int) (query : List Int) (hit : Int) (back : List Int × Int)
    (hs : Small 1048576 (vi, mode, line, count, op, opc, wait, fr, fh, last, ring, undo, nav, own, query, hit, back)) :
    ∃ n l r u o q b, M_l_markEd (vi, mode, line, count, op, opc, wait, fr, fh, last, ring, undo, nav, own, query, hit, back) 1 = some (n, l, r, u, o, q, b) ∧ (0 ≤ n ∧ n ≤ 4000000000000) ∧
      l.length = line.1.length ∧ r.length = ring.length ∧ u.length = undo.length ∧ o.length = own.1.length ∧ q.length = query.length ∧ b.length = back.1.length ∧
      M_l_heldEd (vi, mode, (l, line.2), count, op, opc, wait, fr, fh, last, r, u, nav, (o, own.2), q, hit, (b, back.2)) 1 = some n := by
  obtain ⟨h1, ⟨h2, h3⟩, ⟨h4, h5⟩, h6, h7, h8⟩ := hs
  have h3' : ∀ s ∈ ring, (s.length : Int) ≤ 1048576 := fun s h => by have := h3 s h; omega
  have h5' : ∀ s ∈ undo, (s.1.length : Int) ≤ 1048576 := fun s h => by have := h5 s h; omega
  have tr := totP_bound ring 1048576 (by omega) h3'
  have tr' := mul_small (a := 1048576) (b := ring.length) (by omega) (by omega) (by omega) (by omega)
  have tu := totL_bound undo 1048577 (by omega) (fun s h => by have := h5' s h; omega)
  have tu' := mul_small2 (b := undo.length) (by omega) (by omega)
  obtain ⟨l, a1, a2, a3⟩ := markLine_ok line (by omega) 1 (by omega)
  obtain ⟨r, b1, b2, b3⟩ := markRing_ok ring (by omega) h3' (1 + line.1.length) (by omega)
  obtain ⟨u, c1, c2, c3⟩ := markUndo_ok undo (by omega) h5' (1 + line.1.length + totP ring) (by omega)
  obtain ⟨o, d1, d2, d3⟩ := markLine_ok own (by omega) (1 + line.1.length + totP ring + totL undo) (by omega)
  obtain ⟨q, e1, e2, e3⟩ := markIntS_ok query (by omega) (1 + line.1.length + totP ring + totL undo + own.1.length) (by omega)
  obtain ⟨b, f1, f2, f3⟩ := markLine_ok back (by omega) (1 + line.1.length + totP ring + totL undo + own.1.length + query.length) (by omega)
  refine ⟨1 + line.1.length + totP ring + totL undo + own.1.length + query.length + back.1.length, l, r, u, o, q, b, ?_, ?_, a2, map_len b2, map_len1 c2, d2, e2, f2, ?_⟩
  · unfold M_l_markEd
    rw [bindO_of a1]
    simp only
    rw [bindO_of b1]
    simp only
    rw [bindO_of c1]
    simp only
    rw [bindO_of d1]
    simp only
    rw [bindO_of e1]
    simp only
    rw [bindO_of f1]
  · omega
  · have rl := map_len b2
    have ul := map_len1 c2
    have r3 : ∀ s ∈ r, (s.length : Int) ≤ 1048576 := fun s h => by
      have hm' : s.length ∈ ring.map List.length := by rw [← b2]; exact List.mem_map.2 ⟨s, h, rfl⟩
      obtain ⟨s', q1, q2⟩ := List.mem_map.1 hm'
      have := h3' s' q1
      omega
    have u3 : ∀ s ∈ u, (s.1.length : Int) ≤ 1048576 := fun s h => by
      have hm' : len1 s ∈ undo.map len1 := by rw [← c2]; exact List.mem_map.2 ⟨s, h, rfl⟩
      obtain ⟨s', q1, q2⟩ := List.mem_map.1 hm'
      have := h5' s' q1
      unfold len1 at q2
      omega
    have g1 := heldLine_ok (l, line.2) (by simp only; omega) 1 (by omega) a3
    have g2 := heldRing_ok r (by omega) r3 (1 + line.1.length) (by omega) b3
    have g3 := heldUndo_ok u (by omega) u3 (1 + line.1.length + totP ring) (by omega) c3
    have g4 := heldLine_ok (o, own.2) (by simp only; omega) (1 + line.1.length + totP ring + totL undo) (by omega) d3
    have g5 := heldIntS_ok q (by omega) (1 + line.1.length + totP ring + totL undo + own.1.length) (by omega) e3
    have g6 := heldLine_ok (b, back.2) (by simp only; omega) (1 + line.1.length + totP ring + totL undo + own.1.length + query.length) (by omega) f3
    simp only [a2, totP_len b2, totL_len c2, d2, e2, f2] at g1 g2 g3 g4 g5 g6
    unfold M_l_heldEd
    simp only [Bool.cond_decide]
    rw [bindO_of g1, if_neg (by omega), bindO_of g2, if_neg (by omega), bindO_of g3, if_neg (by omega), bindO_of g4, if_neg (by omega), bindO_of g5, if_neg (by omega), bindO_of g6, if_neg (by omega)]

theorem edEnd (z : EdT) (hS : Small 1048576 z) : M_l_eqEd z z = some true ∧ ∃ n l r u o q b, M_l_markEd z 1 = some (n, l, r, u, o, q, b) ∧ ¬ n < 0 ∧
    M_l_heldEd (z.1, z.2.1, (l, z.2.2.1.2), z.2.2.2.1, z.2.2.2.2.1, z.2.2.2.2.2.1, z.2.2.2.2.2.2.1, z.2.2.2.2.2.2.2.1, z.2.2.2.2.2.2.2.2.1, z.2.2.2.2.2.2.2.2.2.1, r, u, z.2.2.2.2.2.2.2.2.2.2.2.2.1, (o, z.2.2.2.2.2.2.2.2.2.2.2.2.2.1.2), q, z.2.2.2.2.2.2.2.2.2.2.2.2.2.2.2.1, (b, z.2.2.2.2.2.2.2.2.2.2.2.2.2.2.2.2.2)) 1 = some n ∧ n ≤ 4000000000000 := by
  obtain ⟨vi', mode', line', count', op', opc', wait', fr', fh', last', ring', undo', nav', own', query', hit', back'⟩ := z
  have ez := eqEd_self vi' mode' line' count' op' opc' wait' fr' fh' last' ring' undo' nav' own' query' hit' back' (small_le (by omega) hS)
  obtain ⟨n, x1, x2, x3, x4, x5, x6, g1, g2, g3, g4, g5, g6, g7, g8, g9⟩ := markEd_ok vi' mode' line' count' op' opc' wait' fr' fh' last' ring' undo' nav' own' query' hit' back' hS
  exact ⟨ez, n, x1, x2, x3, x4, x5, x6, g1, by omega, g9, by omega⟩
theorem edBegin (e : EdT) (hs : Small 1048576 e) : M_l_toEd e = some e ∧ M_l_eqEd e e = some true ∧ ∃ n l r u o q b, M_l_markEd e 1 = some (n, l, r, u, o, q, b) ∧ 0 ≤ n ∧ n ≤ 4000000000000 := by
  obtain ⟨vi, mode, line, count, op, opc, wait, fr, fh, last, ring, undo, nav, own, query, hit, back⟩ := e
  have te := toEd_eq vi mode line count op opc wait fr fh last ring undo nav own query hit back (small_le (by omega) hs)
  have ee := eqEd_self vi mode line count op opc wait fr fh last ring undo nav own query hit back (small_le (by omega) hs)
  obtain ⟨n0, l0, r0, u0, o0, q0, b0, m1, m2, m3⟩ := markEd_ok vi mode line count op opc wait fr fh last ring undo nav own query hit back hs
  exact ⟨te, ee, n0, l0, r0, u0, o0, q0, b0, m1, by omega, by omega⟩

theorem edOkV_i (e : EdT) (hs : Small 100000000 e) : M_i_EdOk e = some (edOkB e) := by
  obtain ⟨vi, mode, line, count, op, opc, wait, fr, fh, last, ring, undo, nav, own, query, hit, back⟩ := e
  exact edOk_i vi mode line count op opc wait fr fh last ring undo nav own query hit back hs
theorem edOkV_s (e : EdT) (hs : Small 100000000 e) : M_s_EdOk e = some (edOkB e) := by
  obtain ⟨vi, mode, line, count, op, opc, wait, fr, fh, last, ring, undo, nav, own, query, hit, back⟩ := e
  exact edOk_s vi mode line count op opc wait fr fh last ring undo nav own query hit back hs

section
variable (h : Int × List (List UInt8)) (hh : (h.2.length : Int) ≤ 1048576) (k : Int × Int) (e : EdT) (hs : Small 1048576 e)
include hh hs
theorem canKey_i : M_i_canKey e h k = some (edOkB e && hOk h && kOk k) := by
  unfold M_i_canKey
  rw [bindO_of (edOkV_i e (small_le (by omega) hs)), iHistOk_eq h hh, callO_of, keyOk_i, callO_of]
  cases edOkB e <;> cases hOk h <;> cases kOk k <;> rfl

end

theorem bi_app {p t : List UInt8} {i : Int} (h0 : 0 ≤ i) (h : i < (p.length : Int)) : bi (p ++ t) i = bi p i := by
  unfold bi at'
  have : i.toNat < p.length := by omega
  rw [List.getD_eq_getElem?_getD, List.getD_eq_getElem?_getD, List.getElem?_append_left this]

theorem rd_pre {p t : List UInt8} (h : (rd p).2 ≠ 0) : rd (p ++ t) = rd p := by
  unfold rd at h ⊢
  rw [List.length_append]
  by_cases h1 : p.length < 1
  · rw [if_pos h1] at h; exact absurd rfl h
  · rw [if_neg h1] at h ⊢
    rw [if_neg (by omega), bi_app (by omega) (by omega)]
    by_cases c1 : bi p 0 < 128
    · rw [if_pos c1, if_pos c1]
    · rw [if_neg c1] at h ⊢
      rw [if_neg c1]
      by_cases h2 : p.length < 2
      · rw [if_pos h2] at h; exact absurd rfl h
      · rw [if_neg h2] at h ⊢
        rw [if_neg (by omega), bi_app (i := 1) (by omega) (by omega)]
        by_cases c2 : E2 (bi p 0) (bi p 1)
        · rw [if_pos c2, if_pos c2]
        · rw [if_neg c2] at h ⊢
          rw [if_neg c2]
          by_cases h3 : p.length < 3
          · rw [if_pos h3] at h; exact absurd rfl h
          · rw [if_neg h3] at h ⊢
            rw [if_neg (by omega), bi_app (i := 2) (by omega) (by omega)]
            by_cases c3 : E3 (bi p 0) (bi p 1) (bi p 2)
            · rw [if_pos c3, if_pos c3]
            · rw [if_neg c3] at h ⊢
              rw [if_neg c3]
              by_cases h4 : p.length < 4
              · rw [if_pos h4] at h; exact absurd rfl h
              · rw [if_neg h4] at h ⊢
                rw [if_neg (by omega), bi_app (i := 3) (by omega) (by omega)]

theorem runes_pre : ∀ (m n : Nat) (p t : List UInt8) (l l' : List Int), m ≤ n → runes m p = some l → runes n (p ++ t) = some l' → l.length ≤ l'.length
  | 0, n, p, t, l, l', _, h, _ => by simp only [runes, Option.some.injEq] at h; subst h; simp
  | m + 1, 0, p, t, l, l', hmn, h, h' => by omega
  | m + 1, n + 1, p, t, l, l', hmn, h, h' => by
    simp only [runes] at h h'
    by_cases h0 : p.length = 0
    · rw [if_pos h0] at h; simp only [Option.some.injEq] at h; subst h; simp
    · rw [if_neg h0] at h
      by_cases h1 : (rd p).2 = 0
      · rw [if_pos h1] at h; cases h
      · rw [if_neg h1] at h
        have hb := rd_bound p
        rw [if_neg (by rw [List.length_append]; omega), rd_pre h1, if_neg h1, List.drop_append_of_le_length (by omega)] at h'
        obtain ⟨q, hq, rfl⟩ := Option.map_eq_some_iff.1 h
        obtain ⟨q', hq', rfl⟩ := Option.map_eq_some_iff.1 h'
        have := runes_pre m n _ t q q' (by omega) hq hq'
        simp only [List.length_cons]; omega

theorem runesR_take {s : List UInt8} (i : Nat) (h : (runesR s).2 = true) : (runesR (s.take i)).1.length ≤ (runesR s).1.length := by
  unfold runesR at h ⊢
  by_cases h1 : 65536 < (s.length : Int)
  · rw [if_pos h1] at h; cases h
  · rw [if_neg h1] at h ⊢
    have hl : (s.take i).length ≤ s.length := by rw [List.length_take]; omega
    rw [if_neg (by omega)]
    cases hr : runes s.length s with
    | none => rw [hr] at h; cases h
    | some l =>
      cases hq : runes (s.take i).length (s.take i) with
      | none => simp
      | some l' =>
        simp only
        exact runes_pre _ s.length (s.take i) (s.drop i) l' l hl hq (by rw [List.take_append_drop]; exact hr)

theorem histLast_i (h : Int × List (List UInt8)) (hl : (h.2.length : Int) ≤ 1048576) : M_i_HistLast h = some (hLast h) := by
  unfold M_i_HistLast
  rw [bindO_of (iHistOk_eq h hl)]
  unfold hLast
  cases hh : hOk h with
  | false => simp
  | true =>
    obtain ⟨h1, h2, h3, _⟩ := hOk_spec hh
    simp only [Bool.cond_decide, Bool.not_true, cond_false]
    rw [W_eq (x := h.1 + (h.2.length : Int)) (by omega) (by omega), W_eq (by omega) (by omega)]
    by_cases h0 : (h.2.length : Int) = 0
    · have : ¬ (0 < h.2.length) := by omega
      simp [h0, this]
    · have : 0 < h.2.length := by omega
      simp only [h0, this, if_false, and_self, if_true]

theorem histGet_i (h : Int × List (List UInt8)) (hl : (h.2.length : Int) ≤ 1048576) (n : Int) (hn : -9223372036854775808 ≤ n ∧ n ≤ 9223372036854775807) : M_i_HistGet h n = some (hGet h n) := by
  unfold M_i_HistGet
  rw [bindO_of (iHistOk_eq h hl)]
  unfold hGet
  cases hh : hOk h with
  | false => simp [callO, bindO]
  | true =>
    obtain ⟨h1, h2, h3, _⟩ := hOk_spec hh
    simp only [Bool.cond_decide, Bool.not_true, cond_false, callO, if_true, M_i_in, bindO, guardO, true_and]
    rw [W_eq (x := h.1 + (h.2.length : Int)) (by omega) (by omega), W_eq (x := h.1 + (h.2.length : Int) - 1) (by omega) (by omega)]
    by_cases c1 : h.1 ≤ n
    · rw [W_eq (x := n - h.1) (by omega) (by omega)]
      by_cases c2 : n < h.1 + h.2.length
      · have d3 : n ≤ h.1 + (h.2.length : Int) - 1 := by omega
        have d4 : 0 ≤ n - h.1 ∧ n - h.1 < (h.2.length : Int) := by omega
        simp [c1, c2, d3, d4]
      · have d3 : ¬ (n ≤ h.1 + (h.2.length : Int) - 1) := by omega
        simp [c1, c2, d3]
    · simp [c1]

def textB : List Int → List UInt8
  | [] => []
  | r :: t => enc r ++ textB t

theorem textB_len : ∀ q : List Int, (textB q).length ≤ 4 * q.length
  | [] => by simp [textB]
  | r :: t => by
    have h1 := enc_len r
    have h2 := textB_len t
    simp only [textB, List.length_append, List.length_cons]; omega

theorem textLoop_i (q : List Int) (hq : (q.length : Int) ≤ 1048576) (j : List UInt8 → Option (List UInt8)) : ∀ (m : Nat) (o : List UInt8) (k : Int), 0 ≤ k → k ≤ (q.length : Int) → (q.length : Int) - k < m → (o.length : Int) ≤ 4 * k →
    fixF (M_i_TextOf_L1 q j) m (o, k) = j (o ++ textB (q.drop k.toNat)) := by
  intro m
  induction m with
  | zero => intro o k _ _ h _; omega
  | succ m ih =>
    intro o k hk hk' hm ho
    simp only [fixF, M_i_TextOf_L1, guardO, Bool.cond_decide]
    by_cases h1 : k < (q.length : Int)
    · have he := enc_len (at' q k)
      rw [if_pos h1, if_pos ⟨hk, h1⟩, bindO_of (runeBytes_i (at' q k)), if_pos (by omega), W_eq (by omega) (by omega), ih _ (k + 1) (by omega) (by omega) (by omega) (by rw [List.length_append]; omega), drop_at hk h1]
      simp only [textB, List.append_assoc]
    · rw [if_neg h1, List.drop_eq_nil_of_le (by omega)]
      simp [textB]

theorem textLoop_s (q : List Int) (hq : (q.length : Int) ≤ 1048576) (j : List UInt8 → Option (List UInt8)) : ∀ (m : Nat) (o : List UInt8) (k : Int), 0 ≤ k → k ≤ (q.length : Int) → (q.length : Int) - k < m → (o.length : Int) ≤ 4 * k →
    fixF (M_s_TextOf_L1 q j) m (o, k) = j (o ++ textB (q.drop k.toNat)) := by
  intro m
  induction m with
  | zero => intro o k _ _ h _; omega
  | succ m ih =>
    intro o k hk hk' hm ho
    simp only [fixF, M_s_TextOf_L1, guardO, Bool.cond_decide]
    by_cases h1 : k < (q.length : Int)
    · have he := enc_len (at' q k)
      rw [if_pos h1, if_pos ⟨hk, h1⟩, bindO_of (runeBytes_s (at' q k)), if_pos (by omega), W_eq (by omega) (by omega), ih _ (k + 1) (by omega) (by omega) (by omega) (by rw [List.length_append]; omega), drop_at hk h1]
      simp only [textB, List.append_assoc]
    · rw [if_neg h1, List.drop_eq_nil_of_le (by omega)]
      simp [textB]

theorem textOf_i (q : List Int) (hq : (q.length : Int) ≤ 1048576) : M_i_TextOf q = some (textB q) := by
  unfold M_i_TextOf
  simp only [joinO]
  rw [textLoop_i q hq _ FUEL [] 0 (by omega) (by omega) (by rw [fuel_eq]; omega) (by simp)]
  simp

theorem textOf_s (q : List Int) (hq : (q.length : Int) ≤ 1048576) : M_s_TextOf q = some (textB q) := by
  unfold M_s_TextOf
  simp only [joinO]
  rw [textLoop_s q hq _ FUEL [] 0 (by omega) (by omega) (by rw [fuel_eq]; omega) (by simp)]
  simp

theorem occ_subL (s sub : List UInt8) (i : Nat) (h : i + sub.length ≤ s.length) : Lib.occAt s sub i = decide (sub' s (i : Int) ((i : Int) + (sub.length : Int)) = sub) := by
  have e : sub' s (i : Int) ((i : Int) + (sub.length : Int)) = (s.drop i).take sub.length := by
    unfold sub'
    have h1 : ((i : Int) + (sub.length : Int)).toNat - ((i : Int)).toNat = sub.length := by omega
    rw [h1]; rfl
  rw [e]
  unfold Lib.occAt
  cases hp : sub.isPrefixOf (s.drop i) with
  | true =>
    have := List.isPrefixOf_iff_prefix.1 hp
    rw [decide_eq_true (List.prefix_iff_eq_take.1 this).symm]
  | false =>
    rw [decide_eq_false]
    intro h
    have : sub <+: s.drop i := List.prefix_iff_eq_take.2 h.symm
    rw [List.isPrefixOf_iff_prefix.2 this] at hp; cases hp

/-- What lies behind the last place, or an empty needle. -/
theorem index_none' {s sub : List UInt8} {i : Nat} (h : Lib.NoOcc s sub i) (hi : s.length < i + sub.length) (hn : i ≤ s.length + 1) : Lib.index s sub = -1 := by
  by_cases hz : sub = []
  · subst hz
    have h0 := h 0 (by simp at hi; omega)
    simp [Lib.occAt] at h0
  · exact Lib.index_past hz h hi

theorem l16In_gen (s p : List UInt8) (hs : (s.length : Int) ≤ 1048576) (hp : (p.length : Int) ≤ 4194304) : M_s_l16In s p false = some (decide (0 ≤ Lib.index s p)) := by
  unfold M_s_l16In
  simp only [joinO]
  have go : ∀ (m i : Nat), i ≤ s.length + 1 → s.length + 1 - i < m → Lib.NoOcc s p i → fixF (M_s_l16In_L1 s p false fun _ => some false) m (i : Int) = some (decide (0 ≤ Lib.index s p)) := by
    intro m
    induction m with
    | zero => intro i _ h _; omega
    | succ m ih =>
      intro i hi hm hno
      simp only [fixF, M_s_l16In_L1, guardO, Bool.cond_decide]
      rw [W_eq (x := (i : Int) + (p.length : Int)) (by omega) (by omega)]
      by_cases h1 : (i : Int) + (p.length : Int) ≤ (s.length : Int)
      · rw [if_pos h1, if_pos (by omega)]
        have ho := occ_subL s p i (by omega)
        by_cases h2 : sub' s (i : Int) ((i : Int) + (p.length : Int)) = p
        · rw [if_pos h2, Lib.index_hit hno (by omega) (by rw [ho, decide_eq_true h2])]
          rw [decide_eq_true (by omega)]
        · rw [if_neg h2, cond_false, W_eq (by omega) (by omega)]
          have := ih (i + 1) (by omega) (by omega) (Lib.NoOcc.succ hno (by rw [ho, decide_eq_false h2]))
          rw [← this]; congr 1
      · rw [if_neg h1, index_none' hno (by omega) hi]
        rfl
  exact go FUEL 0 (by omega) (by rw [fuel_eq]; omega) (Lib.NoOcc.zero s p)

/-- Where a text stands in a line, in runes; -1 where it does not. -/
def atR (s p : List UInt8) : Int := if 0 ≤ Lib.index s p then ((runesR (s.take (Lib.index s p).toNat)).1.length : Int) else -1

def hitE (l : List Int × Int) (n : Int) (q : List Int) : EdT → EdT
  | (vi, mode, _, count, op, opc, wait, fr, fh, last, ring, _, nav, own, _, _, back) => (vi, mode, l, count, op, opc, wait, fr, fh, last, ring, [], n, (if nav = 0 then back else own), q, n, back)

def hitL (s : List UInt8) (q : List Int) : List Int × Int := ((lineOf s).1.1, atR s (textB q))

/-- Whether a line can be shown. -/
def canHit (h : Int × List (List UInt8)) (n : Int) (q : List Int) : Bool := (hGet h n).2 && (lineOf (hGet h n).1).2 && decide (0 ≤ Lib.index (hGet h n).1 (textB q))

def shR (h : Int × List (List UInt8)) (n : Int) (q : List Int) (e : EdT) : EdT × Bool :=
  if (edOkB e = true ∧ e.2.1 = 3) ∧ ((q.length : Int) ≤ 40 ∧ q.all pr = true) ∧ canHit h n q = true then (hitE (hitL (hGet h n).1 q) n q e, true) else (zEd, false)

theorem hGet_spec {h : Int × List (List UInt8)} {n : Int} (k : (hGet h n).2 = true) : 1 ≤ n ∧ n ≤ 1000000060 ∧ ((hGet h n).1.length : Int) ≤ 1000 := by
  unfold hGet at k ⊢
  by_cases c : hOk h = true ∧ h.1 ≤ n ∧ n < h.1 + h.2.length
  · rw [if_pos c]
    obtain ⟨h1, h2, h3, h4⟩ := hOk_spec c.1
    have := h4 (at' h.2 (n - h.1)) (List.mem_of_getElem? (at_some ⟨by omega, by omega⟩))
    exact ⟨by omega, by omega, by simp only; omega⟩
  · rw [if_neg c] at k; cases k

theorem hGet_len (h : Int × List (List UInt8)) (n : Int) : ((hGet h n).1.length : Int) ≤ 1000 := by
  cases k : (hGet h n).2
  · unfold hGet at k ⊢
    by_cases c : hOk h = true ∧ h.1 ≤ n ∧ n < h.1 + h.2.length
    · rw [if_pos c] at k; cases k
    · rw [if_neg c]; simp
  · exact (hGet_spec k).2.2

theorem hitL_ok {s : List UInt8} {q : List Int} (h1 : (lineOf s).2 = true) (h2 : 0 ≤ Lib.index s (textB q)) : lineOk (hitL s q) = true := by
  unfold hitL atR
  rw [if_pos h2]
  unfold lineOf at h1 ⊢
  by_cases c : ((runesR s).2 && lineOk ((runesR s).1, ((runesR s).1.length : Int))) = true
  · rw [if_pos c]
    simp only [Bool.and_eq_true] at c
    have ht := runesR_take (s := s) (Lib.index s (textB q)).toNat c.1
    have hk := c.2
    unfold lineOk at hk ⊢
    simp only [Bool.and_eq_true, decide_eq_true_eq] at hk ⊢
    refine ⟨hk.1, ?_⟩
    first
      | exact ⟨by omega, by omega⟩
      | omega
  · rw [if_neg c] at h1; cases h1

theorem hitE_ok (e : EdT) (hv : edOkB e = true) (hm : e.2.1 = 3) (l : List Int × Int) (hl : lineOk l = true) (n : Int) (hn : 1 ≤ n ∧ n ≤ 1000000060) (q : List Int) : edOkB (hitE l n q e) = (decide ((q.length : Int) ≤ 40) && q.all pr) := by
  obtain ⟨vi, mode, line, count, op, opc, wait, fr, fh, last, ring, undo, nav, own, query, hit, back⟩ := e
  simp only at hm
  subst hm
  obtain ⟨h1, h2, h3, h4, h5, h6, h7, h8, h9, h10, h11, h12, h13, h14, h15, h16⟩ := edOkB_all hv
  have hM : modeB vi 3 l op opc wait = true := by
    unfold modeB at h6 ⊢
    simp only [Bool.and_eq_true, decide_eq_true_eq] at h6 ⊢
    obtain ⟨⟨⟨a1, a2, a3, a4, a5, a6, a7, a8⟩, b⟩, c⟩ := h6
    exact ⟨⟨⟨a1, a2, a3, a4, a5, fun h => absurd h (by decide), a7, a8⟩, b⟩, c⟩
  have hO : lineOk (if nav = 0 then back else own) = true := by split <;> assumption
  have hU : undoOk [] = true := rfl
  have hS : searchB 3 q n back = true := rfl
  unfold hitE edOkB
  simp only
  rw [hl, hO, h3, hM, h7, h9, hU, hS, decide_eq_true h4, decide_eq_true h5, decide_eq_true h8, decide_eq_true (show 0 ≤ n ∧ n ≤ 1000000060 by omega), decide_eq_false (show ¬ n = 0 by omega)]
  cases decide ((q.length : Int) ≤ 40) <;> cases q.all pr <;> rfl

theorem contains_eq (s p : List UInt8) (hs : (s.length : Int) ≤ 1048576) : M_strings_Contains s p = some (decide (0 ≤ Lib.index s p)) := by
  have : M_strings_Index s p = some (Lib.index s p) := by
    unfold M_strings_Index
    unfold guardO
    exact if_pos (by omega)
  unfold M_strings_Contains
  rw [bindO_of this]

/-- The last of the first n lines that holds p. -/
def hSeek (h : Int × List (List UInt8)) (p : List UInt8) : Nat → Int
  | 0 => 0
  | n + 1 => if 0 ≤ Lib.index (at' h.2 (n : Int)) p then h.1 + n else hSeek h p n

def hFind (h : Int × List (List UInt8)) (p : List UInt8) (f : Int) : Int := if hOk h = true then hSeek h p (min (f - h.1 + 1) (h.2.length : Int)).toNat else 0

theorem hSeek_b (h : Int × List (List UInt8)) (hh : hOk h = true) (p : List UInt8) : ∀ n : Nat, n ≤ h.2.length → 0 ≤ hSeek h p n ∧ hSeek h p n ≤ 2000000000 := by
  obtain ⟨h1, h2, h3, _⟩ := hOk_spec hh
  intro n
  induction n with
  | zero => intro _; simp [hSeek]
  | succ n ih =>
    intro hn
    have := ih (by omega)
    simp only [hSeek]
    split <;> omega

theorem hFind_b (h : Int × List (List UInt8)) (p : List UInt8) (f : Int) : 0 ≤ hFind h p f ∧ hFind h p f ≤ 2000000000 := by
  unfold hFind
  split
  · rename_i hh
    exact hSeek_b h hh p _ (by omega)
  · omega

theorem iSeek_loop (h : Int × List (List UInt8)) (hh : hOk h = true) (p : List UInt8) : ∀ (m n : Nat), n ≤ h.2.length → n < m →
    fixF (M_i_HistFind_L1 h p (-1) false fun _ => some 0) m (h.1 + n - 1) = some (hSeek h p n) := by
  obtain ⟨h1, h2, h3, h4⟩ := hOk_spec hh
  intro m
  induction m with
  | zero => intro n _ h; omega
  | succ m ih =>
    intro n hn hm
    simp only [fixF, M_i_HistFind_L1, guardO, Bool.cond_decide, M_i_in, bindO]
    rw [W_eq (x := h.1 + (h.2.length : Int)) (by omega) (by omega), W_eq (x := h.1 + (h.2.length : Int) - 1) (by omega) (by omega)]
    cases n with
    | zero =>
      have : ¬ (h.1 ≤ h.1 + ((0 : Nat) : Int) - 1) := by omega
      simp only [this, decide_false, if_false, cond_false, hSeek]
    | succ n =>
      have c1 : h.1 ≤ h.1 + ((n + 1 : Nat) : Int) - 1 := by omega
      have c2 : h.1 + ((n + 1 : Nat) : Int) - 1 ≤ h.1 + (h.2.length : Int) - 1 := by omega
      have e1 : h.1 + ((n + 1 : Nat) : Int) - 1 - h.1 = (n : Int) := by omega
      have e2 : h.1 + ((n + 1 : Nat) : Int) - 1 + -1 = h.1 + (n : Int) - 1 := by omega
      rw [W_eq (x := h.1 + ((n + 1 : Nat) : Int) - 1 - h.1) (by omega) (by omega), W_eq (x := h.1 + ((n + 1 : Nat) : Int) - 1 + -1) (by omega) (by omega), e1, e2]
      have c3 : (0 : Int) ≤ n ∧ (n : Int) < (h.2.length : Int) := by omega
      have hlen := h4 (at' h.2 (n : Int)) (List.mem_of_getElem? (at_some c3))
      have hc := contains_eq (at' h.2 (n : Int)) p (by omega)
      simp only [c1, c2, c3, if_true, and_self, decide_true, cond_true, callO, bindO, Bool.not_false, Bool.false_eq_true, if_false, cond_false, hSeek, hc]
      by_cases hp : 0 ≤ Lib.index (at' h.2 (n : Int)) p
      · rw [decide_eq_true hp, if_pos hp]
        simp; omega
      · rw [decide_eq_false hp, if_neg hp]
        exact ih n (by omega) (by omega)

theorem sSeek_loop (h : Int × List (List UInt8)) (hh : hOk h = true) (p : List UInt8) (hp : (p.length : Int) ≤ 4194304) (f : Int) (C : Nat) (hC : C = (min (f - h.1 + 1) (h.2.length : Int)).toNat) : ∀ (m n : Nat) (got : Int), n ≤ h.2.length → h.2.length - n < m → got = hSeek h p (min n C) →
    fixF (M_s_HistFind_L1 h p f (-1) false fun x => some x) m (got, (n : Int)) = some (hSeek h p C) := by
  obtain ⟨h1, h2, h3, h4⟩ := hOk_spec hh
  intro m
  induction m with
  | zero => intro n got _ h; omega
  | succ m ih =>
    intro n got hn hm hg
    simp only [fixF, M_s_HistFind_L1, guardO, Bool.cond_decide, joinO]
    by_cases c : (n : Int) < (h.2.length : Int)
    · have hlen := h4 (at' h.2 (n : Int)) (List.mem_of_getElem? (at_some ⟨by omega, c⟩))
      rw [if_pos c, if_pos ⟨by omega, c⟩, bindO_of (l16In_gen _ p (by omega) hp)]
      rw [W_eq (x := h.1 + (n : Int)) (by omega) (by omega), W_eq (x := (n : Int) + 1) (by omega) (by omega)]
      have e1 : (n : Int) + 1 = ((n + 1 : Nat) : Int) := by omega
      rw [e1]
      simp only [decide_true, show ¬ ((-1 : Int) = 1) by decide, decide_false, if_true, if_false, cond_true, cond_false, Bool.false_eq_true, ite_self]
      by_cases d1 : f < h.1 + (n : Int)
      · have e2 : min (n + 1) C = min n C := by omega
        simp only [decide_eq_true d1, ite_self, cond_true, Bool.cond_true_right, Bool.or_true]
        exact ih (n + 1) _ (by omega) (by omega) (by rw [e2]; exact hg)
      · have e2 : min (n + 1) C = n + 1 := by omega
        have e3 : min n C = n := by omega
        by_cases hpf : 0 ≤ Lib.index (at' h.2 (n : Int)) p
        · simp only [decide_eq_true hpf, decide_eq_false d1, Bool.not_true, cond_false, Bool.false_eq_true, if_false, ite_self]
          exact ih (n + 1) _ (by omega) (by omega) (by rw [e2]; simp only [hSeek]; rw [if_pos hpf])
        · simp only [decide_eq_false hpf, decide_eq_false d1, Bool.not_false, cond_true, if_true]
          exact ih (n + 1) _ (by omega) (by omega) (by rw [e2]; simp only [hSeek]; rw [if_neg hpf, hg, e3])
    · rw [if_neg c]
      have : min n C = C := by omega
      rw [hg, this]

theorem histFind_s (h : Int × List (List UInt8)) (hl : (h.2.length : Int) ≤ 1048576) (p : List UInt8) (hp : (p.length : Int) ≤ 4194304) (f : Int) : M_s_HistFind h p f (-1) false = some (hFind h p f) := by
  unfold M_s_HistFind hFind
  rw [bindO_of (sHistOk_eq h hl)]
  cases hh : hOk h with
  | false => simp
  | true =>
    simp only [Bool.not_true, cond_false, decide_true, show ¬ ((-1 : Int) = 1) by decide, decide_false, Bool.not_false, cond_true, joinO, if_true]
    exact sSeek_loop h hh p hp f _ rfl FUEL 0 0 (by omega) (by obtain ⟨h1, h2, h3, _⟩ := hOk_spec hh; rw [fuel_eq]; omega) (by simp [hSeek])

theorem histFind_i (h : Int × List (List UInt8)) (hl : (h.2.length : Int) ≤ 1048576) (p : List UInt8) (f : Int) (hf : -10 ≤ f) : M_i_HistFind h p f (-1) false = some (hFind h p f) := by
  unfold M_i_HistFind hFind
  rw [bindO_of (iHistOk_eq h hl)]
  cases hh : hOk h with
  | false => simp
  | true =>
    obtain ⟨h1, h2, h3, _⟩ := hOk_spec hh
    simp only [Bool.not_true, cond_false, decide_true, show ¬ ((-1 : Int) = 1) by decide, decide_false, Bool.not_false, cond_true, joinO, if_true]
    rw [W_eq (x := h.1 + (h.2.length : Int)) (by omega) (by omega), W_eq (x := h.1 + (h.2.length : Int) - 1) (by omega) (by omega)]
    by_cases c : 0 ≤ min (f - h.1 + 1) (h.2.length : Int)
    · have e : min f (h.1 + (h.2.length : Int) - 1) = h.1 + ((min (f - h.1 + 1) (h.2.length : Int)).toNat : Int) - 1 := by omega
      rw [e]
      exact iSeek_loop h hh p FUEL _ (by omega) (by rw [fuel_eq]; omega)
    · have e : (min (f - h.1 + 1) (h.2.length : Int)).toNat = 0 := by omega
      rw [e]
      obtain ⟨n, hn⟩ : ∃ n, FUEL = n + 1 := ⟨FUEL - 1, by have := fuel_eq; omega⟩
      rw [hn]
      have c1 : ¬ (h.1 ≤ min f (h.1 + (h.2.length : Int) - 1)) := by omega
      simp only [fixF, M_i_HistFind_L1, M_i_in, bindO, c1, hSeek, decide_false, cond_false]

def leaveB (ok : Bool) (vi : Bool) (line : List Int × Int) (count op opc wait fr fh last : Int) (ring : List (List Int)) (undo : List (List Int × Int)) (nav : Int) (own : List Int × Int) : EdT :=
  if ok then (vi, (if vi then 2 else 0), (line.1, clipAt (if vi then 2 else 0) line), count, op, opc, wait, fr, fh, last, ring, undo, nav, own, [], 0, ([], 0)) else zEd

section
variable (vi : Bool) (mode : Int) (line : List Int × Int) (count op opc wait fr fh last : Int) (ring : List (List Int)) (undo : List (List Int × Int)) (nav : Int) (own : List Int × Int) (query : List Int) (hit : Int) (back : List Int × Int)
  (hs : Small 1048576 (vi, mode, line, count, op, opc, wait, fr, fh, last, ring, undo, nav, own, query, hit, back))
include hs

theorem leave_s : M_s_Leave (vi, mode, line, count, op, opc, wait, fr, fh, last, ring, undo, nav, own, query, hit, back) = some (leaveB (edOkB (vi, mode, line, count, op, opc, wait, fr, fh, last, ring, undo, nav, own, query, hit, back) && decide (mode = 3)) vi line count op opc wait fr fh last ring undo nav own) := by
  unfold M_s_Leave
  have hparts : edOkB (vi, mode, line, count, op, opc, wait, fr, fh, last, ring, undo, nav, own, query, hit, back) = true → lineOk line = true ∧ undoOk undo = true := fun h => edOkB_parts h
  rw [bindO_of (edOk_s vi mode line count op opc wait fr fh last ring undo nav own query hit back (small_le (by omega) hs))]
  obtain ⟨h1, ⟨h2, h3⟩, ⟨h4, h5⟩, h6, h7, h8⟩ := hs
  generalize edOkB (vi, mode, line, count, op, opc, wait, fr, fh, last, ring, undo, nav, own, query, hit, back) = K at *
  cases K
  · simp [leaveB, zEd]
  · by_cases hm : mode = 3
    · have hl := (hparts rfl).1
      unfold lineOk at hl
      simp only [Bool.and_eq_true, decide_eq_true_eq] at hl
      have c := fun md => clip_s vi md (line.1, line.2) count op opc wait fr fh last ring undo nav (own.1, own.2) [] 0 ([], 0) (by simp only; omega)
      simp only [hm, decide_true, Bool.not_true, cond_false, Bool.and_self]
      subst hm
      rw [bindO_of (copyEd_s vi 3 line count op opc wait fr fh last ring undo nav own query hit back h1 h2 h3 h4 h5 h6 h7 h8)]
      simp only [joinO, c, bindO]
      cases vi <;> rfl
    · simp [hm, leaveB, zEd]

end

def huntE (h : Int × List (List UInt8)) (q : List Int) (f : Int) (e : EdT) : EdT × Int :=
  if (shR h (hFind h (textB q) f) q e).2 = true then ((shR h (hFind h (textB q) f) q e).1, 0) else (e, 1)

def hitOf (e : EdT) : Int := e.2.2.2.2.2.2.2.2.2.2.2.2.2.2.2.1
def queryOf (e : EdT) : List Int := e.2.2.2.2.2.2.2.2.2.2.2.2.2.2.1
def leaveE : EdT → EdT
  | (vi, _, line, count, op, opc, wait, fr, fh, last, ring, undo, nav, own, _, _, _) => leaveB true vi line count op opc wait fr fh last ring undo nav own
def backE : EdT → EdT
  | (vi, mode, _, count, op, opc, wait, fr, fh, last, ring, undo, _, _, query, hit, back) => (vi, mode, back, count, op, opc, wait, fr, fh, last, ring, undo, 0, ([], 0), query, hit, back)
def dropE : EdT → EdT
  | (vi, mode, line, count, op, opc, wait, fr, fh, last, ring, undo, nav, own, query, hit, back) => (vi, mode, line, count, op, opc, wait, fr, fh, last, ring, undo, nav, own, query.take (query.length - 1), hit, back)

theorem backE_ok (e : EdT) (hv : edOkB e = true) (hm : e.2.1 = 3) : edOkB (backE e) = true := by
  obtain ⟨vi, mode, line, count, op, opc, wait, fr, fh, last, ring, undo, nav, own, query, hit, back⟩ := e
  simp only at hm
  subst hm
  obtain ⟨h1, h2, h3, h4, h5, h6, h7, h8, h9, h10, h11, h12, h13, h14, h15, h16⟩ := edOkB_all hv
  have hM : modeB vi 3 back op opc wait = true := by
    unfold modeB at h6 ⊢
    simp only [Bool.and_eq_true, decide_eq_true_eq] at h6 ⊢
    obtain ⟨⟨⟨a1, a2, a3, a4, a5, a6, a7, a8⟩, b⟩, c⟩ := h6
    exact ⟨⟨⟨a1, a2, a3, a4, a5, fun h => absurd h (by decide), a7, a8⟩, b⟩, c⟩
  exact edOkB_mk ⟨h3, rfl, h3, h4, h5, hM, h7, h8, h9, h10, by omega, h12, rfl, h14, h15, rfl⟩

theorem hit_b (e : EdT) (hv : edOkB e = true) : 0 ≤ hitOf e ∧ hitOf e ≤ 1000000060 := by
  obtain ⟨vi, mode, line, count, op, opc, wait, fr, fh, last, ring, undo, nav, own, query, hit, back⟩ := e
  exact (edOkB_all hv).2.2.2.2.2.2.2.2.2.2.2.1
theorem query_b (e : EdT) (hv : edOkB e = true) : ((queryOf e).length : Int) ≤ 40 := by
  obtain ⟨vi, mode, line, count, op, opc, wait, fr, fh, last, ring, undo, nav, own, query, hit, back⟩ := e
  exact (edOkB_all hv).2.2.2.2.2.2.2.2.2.2.2.2.2.1

def searchE (h : Int × List (List UInt8)) (k : Int × Int) (e : EdT) : EdT × Int :=
  if k.1 = 1 then huntE h (queryOf e ++ [k.2]) (if hitOf e = 0 then hLast h else hitOf e) e
  else if k.1 = 2 ∧ k.2 = 114 then (if (queryOf e).length = 0 then (e, 1) else huntE h (queryOf e) (if hitOf e = 0 then hLast h else hitOf e - 1) e)
  else if k.1 = 5 then (if (queryOf e).length = 0 then (e, 1) else (dropE e, 0))
  else if k.1 = 4 then (leaveE e, 2)
  else if k.1 = 2 ∧ (k.2 = 103 ∨ k.2 = 99) then (leaveE (backE e), 1)
  else (leaveE e, 0)

def skR (h : Int × List (List UInt8)) (k : Int × Int) (e : EdT) : EdT × Int :=
  if (edOkB e && hOk h && kOk k) = true ∧ e.2.1 = 3 then searchE h k e else (zEd, 0)

theorem sub0 {α : Type} (s : List α) (i : Int) : sub' s 0 i = s.take i.toNat := by
  unfold sub'
  simp

theorem l25_s (s p : List UInt8) (hs : (s.length : Int) ≤ 1048576) (hp : (p.length : Int) ≤ 4194304) : M_s_l25Runes s p = some (atR s p) := by
  unfold M_s_l25Runes
  simp only [joinO]
  have go : ∀ (m i : Nat), i ≤ s.length + 1 → s.length + 1 - i < m → Lib.NoOcc s p i → fixF (M_s_l25Runes_L1 s p fun _ => some (-1)) m (i : Int) = some (atR s p) := by
    intro m
    induction m with
    | zero => intro i _ h _; omega
    | succ m ih =>
      intro i hi hm hno
      simp only [fixF, M_s_l25Runes_L1, guardO, Bool.cond_decide]
      rw [W_eq (x := (i : Int) + (p.length : Int)) (by omega) (by omega)]
      by_cases h1 : (i : Int) + (p.length : Int) ≤ (s.length : Int)
      · rw [if_pos h1, if_pos (by omega)]
        have ho := occ_subL s p i (by omega)
        by_cases h2 : sub' s (i : Int) ((i : Int) + (p.length : Int)) = p
        · have e := Lib.index_hit hno (by omega) (by rw [ho, decide_eq_true h2])
          rw [if_pos h2, if_pos (by omega), bindO_of (runesOf_s _), sub0]
          unfold atR
          rw [e, if_pos (by omega)]
        · rw [if_neg h2, W_eq (by omega) (by omega)]
          have := ih (i + 1) (by omega) (by omega) (Lib.NoOcc.succ hno (by rw [ho, decide_eq_false h2]))
          rw [← this]; congr 1
      · have e := index_none' hno (by omega) hi
        rw [if_neg h1]
        unfold atR
        rw [e, if_neg (by omega)]
  exact go FUEL 0 (by omega) (by rw [fuel_eq]; omega) (Lib.NoOcc.zero s p)

theorem atR_b (s p : List UInt8) (hs : (s.length : Int) ≤ 1048576) : atR s p = -1 ∧ Lib.index s p < 0 ∨ 0 ≤ atR s p ∧ atR s p ≤ 65536 ∧ 0 ≤ Lib.index s p := by
  unfold atR
  by_cases h : 0 ≤ Lib.index s p
  · rw [if_pos h]
    have := runesR_len (s.take (Lib.index s p).toNat)
    exact Or.inr ⟨by omega, by omega, h⟩
  · rw [if_neg h]; exact Or.inl ⟨rfl, by omega⟩

theorem hitLoop_i (q : List Int) (hq : (q.length : Int) ≤ 1048576) (j : Unit → Option (EdT × Bool)) : ∀ (m : Nat) (k : Int), 0 ≤ k → k ≤ (q.length : Int) → (q.length : Int) - k < m →
    fixF (M_i_ShowHit_L1 q j) m k = if (q.drop k.toNat).all pr = true then j () else some (zEd, false) := by
  intro m
  induction m with
  | zero => intro k _ _ h; omega
  | succ m ih =>
    intro k hk hk' hm
    simp only [fixF, M_i_ShowHit_L1, guardO, Bool.cond_decide]
    by_cases h1 : k < (q.length : Int)
    · rw [if_pos h1, if_pos ⟨hk, h1⟩, bindO_of (printable_i (at' q k)), drop_at hk h1, W_eq (by omega) (by omega), ih (k + 1) (by omega) (by omega) (by omega), List.all_cons]
      cases pr (at' q k) with
      | true => simp
      | false => simp [zEd]
    · rw [if_neg h1, List.drop_eq_nil_of_le (by omega)]
      simp

section
variable (h : Int × List (List UInt8)) (hh : (h.2.length : Int) ≤ 1048576) (n : Int) (hn : -9223372036854775808 ≤ n ∧ n ≤ 9223372036854775807) (q : List Int) (hq : (q.length : Int) ≤ 1048576) (e : EdT) (hs : Small 1048576 e)
include hh hn hq hs

theorem showHit_i : M_i_ShowHit e h n q = some (shR h n q e) := by
  unfold M_i_ShowHit
  rw [bindO_of (edOkV_i e (small_le (by omega) hs))]
  cases hv : edOkB e with
  | false =>
    unfold shR
    rw [hv]
    simp [zEd]
  | true =>
    by_cases hm : e.2.1 = 3
    · by_cases hl : (q.length : Int) ≤ 40
      · have hl' : ¬ (40 : Int) < (q.length : Int) := by omega
        simp only [hm, decide_true, Bool.not_true, cond_false, decide_eq_false hl', joinO]
        rw [hitLoop_i q hq _ FUEL 0 (by omega) (by omega) (by rw [fuel_eq]; omega)]
        simp only [Int.toNat_zero, List.drop_zero]
        cases hp : q.all pr with
        | false =>
          unfold shR
          simp [hp]
        | true =>
          simp only [if_true]
          have hgl := hGet_len h n
          rw [bindO_of (histGet_i h hh n hn)]
          have hsp : (hGet h n).2 = true → _ := fun k => hGet_spec k
          unfold shR
          rw [hv, hm, hp]
          simp only [canHit]
          generalize hGet h n = g at hgl hsp ⊢
          obtain ⟨s, there⟩ := g
          simp only at hgl hsp ⊢
          have hL : ∀ (a : (lineOf s).2 = true) (b : 0 ≤ Lib.index s (textB q)), lineOk (hitL s q) = true := fun a b => hitL_ok a b
          rw [bindO_of (lineOf_i s)]
          have hI : M_strings_Index s (textB q) = some (Lib.index s (textB q)) := by
            unfold M_strings_Index guardO
            exact if_pos (by omega)
          have hab := atR_b s (textB q) (by omega)
          have hle := Lib.index_le s (textB q)
          unfold hitL
          generalize lineOf s = L at hL ⊢
          obtain ⟨l, ok⟩ := L
          simp only
          rw [bindO_of (textOf_i q hq), bindO_of hI]
          cases there with
          | false => simp [zEd]
          | true =>
            cases ok with
            | false => simp [zEd]
            | true =>
              rcases hab with ⟨a1, a2⟩ | ⟨a1, a2, a3⟩
              · have a4 : ¬ (0 ≤ Lib.index s (textB q)) := by omega
                simp [a2, a4, zEd]
              · have a4 : ¬ (Lib.index s (textB q) < 0) := by omega
                simp only [Bool.not_true, cond_false, decide_eq_false a4, guardO]
                rw [if_pos ⟨by omega, by omega, by omega⟩, bindO_of (runesOf_i _), sub0]
                have eat : ((runesR (s.take (Lib.index s (textB q)).toNat)).1.length : Int) = atR s (textB q) := by
                  unfold atR; rw [if_pos a3]
                have ec := copyEV_i e hv
                have cb : M_i_copyInts q = some q := copyInts_i q (by omega)
                obtain ⟨vi, mode, line, count, op, opc, wait, fr, fh, last, ring, undo, nav, own, query, hit, back⟩ := e
                have sb : (back.1.length : Int) ≤ 1048576 := by
                  obtain ⟨x1, x2, x3, x4, x5, x6⟩ := hs
                  omega
                rw [bindO_of ec]
                generalize runesR (s.take (Lib.index s (textB q)).toNat) = R at eat ⊢
                obtain ⟨R1, R2⟩ := R
                simp only at eat ⊢
                simp only [Bool.cond_decide, cb, bindO_ret, bindO_of (copyLine_i back sb)]
                simp only [hl, a3, and_self, decide_true, Bool.and_self, if_true, hitE, eat]
                by_cases hnav : nav = 0
                · rw [if_pos hnav, if_pos hnav]
                · rw [if_neg hnav, if_neg hnav]
      · have hl' : (40 : Int) < (q.length : Int) := by omega
        unfold shR
        rw [if_neg (fun c => hl c.2.1.1)]
        simp [hm, hl', zEd]
    · unfold shR
      rw [if_neg (fun c => hm c.1.2)]
      simp [hm, zEd]

theorem showHit_s : M_s_ShowHit e h n q = some (shR h n q e) := by
  unfold M_s_ShowHit
  rw [bindO_of (edOkV_s e (small_le (by omega) hs))]
  cases hv : edOkB e with
  | false =>
    unfold shR
    rw [hv]
    simp [zEd]
  | true =>
    by_cases hm : e.2.1 = 3
    · simp only [hm, decide_true, Bool.not_true, cond_false]
      have hgl := hGet_len h n
      rw [bindO_of (histGet_eq h hh n hn).1]
      have hsp : (hGet h n).2 = true → _ := fun k => hGet_spec k
      have hE := hitE_ok e hv hm
      have htl := textB_len q
      unfold shR
      rw [hv, hm]
      simp only [canHit]
      generalize hGet h n = g at hgl hsp ⊢
      obtain ⟨s, there⟩ := g
      simp only at hgl hsp ⊢
      have hL : ∀ (a : (lineOf s).2 = true) (b : 0 ≤ Lib.index s (textB q)), lineOk (hitL s q) = true := fun a b => hitL_ok a b
      rw [bindO_of (lineOf_s s)]
      have hab := atR_b s (textB q) (by omega)
      have hsm := lineOf_small s
      have eL : ∀ x, lineOf s = x → hitL s q = (x.1.1, atR s (textB q)) := fun x hx => by unfold hitL; rw [hx]
      generalize hx : lineOf s = L at hL hsm ⊢
      have eL := eL L hx
      rw [eL] at hL ⊢
      obtain ⟨l, ok⟩ := L
      simp only at hL hsm ⊢
      rw [bindO_of (textOf_s q hq), bindO_of (l25_s s (textB q) (by omega) (by omega))]
      cases there with
      | false => simp [zEd]
      | true =>
        cases ok with
        | false => simp [zEd]
        | true =>
          rcases hab with ⟨a1, a2⟩ | ⟨a1, a2, a3⟩
          · have a4 : ¬ (0 ≤ Lib.index s (textB q)) := by omega
            have a5 : atR s (textB q) < 0 := by omega
            simp [a5, a4, zEd]
          · have a4 : ¬ (atR s (textB q) < 0) := by omega
            simp only [Bool.not_true, cond_false, decide_eq_false a4, guardO]
            have hk := hE (l.1, atR s (textB q)) (hL rfl a3) n ⟨(hsp rfl).1, (hsp rfl).2.1⟩ q
            have ec := copyEV_s e hv
            have hS : Small 100000000 (hitE (l.1, atR s (textB q)) n q e) := by
              obtain ⟨vi, mode, line, count, op, opc, wait, fr, fh, last, ring, undo, nav, own, query, hit, back⟩ := e
              obtain ⟨x1, ⟨x2, x3⟩, x4, x5, x6, x7⟩ := hs
              refine ⟨by simp only; omega, ⟨by omega, fun y hy => by have := x3 y hy; omega⟩, ⟨by simp, by simp⟩, ?_, by omega, by omega⟩
              split <;> omega
            have hK := edOkV_s _ hS
            rw [hk] at hK
            obtain ⟨vi, mode, line, count, op, opc, wait, fr, fh, last, ring, undo, nav, own, query, hit, back⟩ := e
            have sb : (back.1.length : Int) ≤ 1048576 := by
              obtain ⟨x1, x2, x3, x4, x5, x6⟩ := hs
              omega
            rw [bindO_of ec, if_pos (by simp; omega)]
            simp only [joinO, Bool.cond_decide, List.nil_append, bindO_of (copyLine_s back sb)]
            simp only [hitE] at hK ⊢
            by_cases hnav : nav = 0
            · rw [if_pos hnav] at hK ⊢
              simp only [bindO_of hK, if_pos hnav]
              by_cases hl : (q.length : Int) ≤ 40
              · cases hp : q.all pr
                · simp [hl, hp, zEd]
                · simp [hl, hp, a3]
              · simp [hl, zEd]
            · rw [if_neg hnav] at hK ⊢
              simp only [bindO_of hK, if_neg hnav]
              by_cases hl : (q.length : Int) ≤ 40
              · cases hp : q.all pr
                · simp [hl, hp, zEd]
                · simp [hl, hp, a3]
              · simp [hl, zEd]
    · unfold shR
      rw [if_neg (fun c => hm c.1.2)]
      simp [hm, zEd]
end

theorem shR_fine (h : Int × List (List UInt8)) (n : Int) (q : List Int) (e : EdT) : Small 1048576 (shR h n q e).1 ∧ (shR h n q e).1.2.2.2.2.2.2.2.2.2.2.2.1 = [] := by
  unfold shR
  split
  · rename_i c
    obtain ⟨⟨hv, hm⟩, ⟨hl, hp⟩, hc⟩ := c
    unfold canHit at hc
    simp only [Bool.and_eq_true, decide_eq_true_eq] at hc
    have hg := hGet_spec hc.1.1
    have hE := hitE_ok e hv hm (hitL (hGet h n).1 q) (hitL_ok hc.1.2 hc.2) n ⟨hg.1, hg.2.1⟩ q
    rw [hp, decide_eq_true hl] at hE
    refine ⟨small_le (by omega) (smallV _ hE), ?_⟩
    obtain ⟨vi, mode, line, count, op, opc, wait, fr, fh, last, ring, undo, nav, own, query, hit, back⟩ := e
    rfl
  · exact ⟨small_le (by omega) small_zEd, rfl⟩

theorem hLast_b (h : Int × List (List UInt8)) : 0 ≤ hLast h ∧ hLast h ≤ 2000000000 := by
  unfold hLast
  split
  · rename_i c
    obtain ⟨h1, h2, h3, _⟩ := hOk_spec c.1
    omega
  · omega

section
variable (h : Int × List (List UInt8)) (hh : (h.2.length : Int) ≤ 1048576) (e : EdT) (hv : edOkB e = true)
include hh hv

theorem find25_s (q : List Int) (hq : (q.length : Int) ≤ 1048576) (f : Int) : M_s_l25Find e h q f = some (huntE h q f e) := by
  unfold M_s_l25Find
  simp only [joinO]
  have htl := textB_len q
  have hb := hFind_b h (textB q) f
  have ts := showHit_s h hh (hFind h (textB q) f) (by omega) q hq e (small_le (by omega) (smallV e hv))
  have hu := (shR_fine h (hFind h (textB q) f) q e).2
  have ec := copyEV_s e hv
  unfold huntE
  rw [bindO_of (textOf_s q hq), bindO_of (histFind_s h hh (textB q) (by omega) f), bindO_of ts]
  generalize shR h (hFind h (textB q) f) q e = z at hu ⊢
  obtain ⟨⟨vi', mode', line', count', op', opc', wait', fr', fh', last', ring', undo', nav', own', query', hit', back'⟩, zb⟩ := z
  simp only at hu
  subst hu
  cases zb
  · exact bindO_tr ec rfl
  · rfl

theorem hunt_i (q : List Int) (hq : (q.length : Int) ≤ 1048576) (f : Int) (hf : -10 ≤ f) : M_i_hunt e h q f = some (huntE h q (if hitOf e = 0 then hLast h else f) e) := by
  unfold M_i_hunt
  simp only [joinO]
  have hL := hLast_b h
  have key : ∀ x : Int, -10 ≤ x → (bindO (M_i_TextOf q) fun (y43 : List UInt8) => (bindO (M_i_HistFind h y43 x (-1) false) fun (y45 : Int) => (bindO (M_i_ShowHit e h y45 q) fun (y47, y48) => (bif (!y48) then (bindO (M_i_copyEd e) fun (y60 : EdT) => some (y60, (1 : Int))) else
      some ((y47.1, y47.2.1, y47.2.2.1, y47.2.2.2.1, y47.2.2.2.2.1, y47.2.2.2.2.2.1, y47.2.2.2.2.2.2.1, y47.2.2.2.2.2.2.2.1, y47.2.2.2.2.2.2.2.2.1, y47.2.2.2.2.2.2.2.2.2.1, y47.2.2.2.2.2.2.2.2.2.2.1, ([] : List (List Int × Int)), y47.2.2.2.2.2.2.2.2.2.2.2.2.1, y47.2.2.2.2.2.2.2.2.2.2.2.2.2.1, y47.2.2.2.2.2.2.2.2.2.2.2.2.2.2.1, y47.2.2.2.2.2.2.2.2.2.2.2.2.2.2.2.1, y47.2.2.2.2.2.2.2.2.2.2.2.2.2.2.2.2), (0 : Int)))))) = some (huntE h q x e) := by
    intro x hx
    have hb := hFind_b h (textB q) x
    have ts := showHit_i h hh (hFind h (textB q) x) (by omega) q hq e (small_le (by omega) (smallV e hv))
    have hu := (shR_fine h (hFind h (textB q) x) q e).2
    have ec := copyEV_i e hv
    unfold huntE
    rw [bindO_of (textOf_i q hq), bindO_of (histFind_i h hh (textB q) x hx), bindO_of ts]
    generalize shR h (hFind h (textB q) x) q e = z at hu ⊢
    obtain ⟨⟨vi', mode', line', count', op', opc', wait', fr', fh', last', ring', undo', nav', own', query', hit', back'⟩, zb⟩ := z
    simp only at hu
    subst hu
    cases zb
    · exact bindO_tr ec rfl
    · rfl
  have he : ∀ (t : Bool), (bif t then (bindO (M_i_HistLast h) fun (y37 : Int) => (bindO (M_i_TextOf q) fun (y43 : List UInt8) => (bindO (M_i_HistFind h y43 y37 (-1) false) fun (y45 : Int) => (bindO (M_i_ShowHit e h y45 q) fun (y47, y48) => (bif (!y48) then (bindO (M_i_copyEd e) fun (y60 : EdT) => some (y60, (1 : Int))) else
      some ((y47.1, y47.2.1, y47.2.2.1, y47.2.2.2.1, y47.2.2.2.2.1, y47.2.2.2.2.2.1, y47.2.2.2.2.2.2.1, y47.2.2.2.2.2.2.2.1, y47.2.2.2.2.2.2.2.2.1, y47.2.2.2.2.2.2.2.2.2.1, y47.2.2.2.2.2.2.2.2.2.2.1, ([] : List (List Int × Int)), y47.2.2.2.2.2.2.2.2.2.2.2.2.1, y47.2.2.2.2.2.2.2.2.2.2.2.2.2.1, y47.2.2.2.2.2.2.2.2.2.2.2.2.2.2.1, y47.2.2.2.2.2.2.2.2.2.2.2.2.2.2.2.1, y47.2.2.2.2.2.2.2.2.2.2.2.2.2.2.2.2), (0 : Int))))))) else (bindO (M_i_TextOf q) fun (y43 : List UInt8) => (bindO (M_i_HistFind h y43 f (-1) false) fun (y45 : Int) => (bindO (M_i_ShowHit e h y45 q) fun (y47, y48) => (bif (!y48) then (bindO (M_i_copyEd e) fun (y60 : EdT) => some (y60, (1 : Int))) else
      some ((y47.1, y47.2.1, y47.2.2.1, y47.2.2.2.1, y47.2.2.2.2.1, y47.2.2.2.2.2.1, y47.2.2.2.2.2.2.1, y47.2.2.2.2.2.2.2.1, y47.2.2.2.2.2.2.2.2.1, y47.2.2.2.2.2.2.2.2.2.1, y47.2.2.2.2.2.2.2.2.2.2.1, ([] : List (List Int × Int)), y47.2.2.2.2.2.2.2.2.2.2.2.2.1, y47.2.2.2.2.2.2.2.2.2.2.2.2.2.1, y47.2.2.2.2.2.2.2.2.2.2.2.2.2.2.1, y47.2.2.2.2.2.2.2.2.2.2.2.2.2.2.2.1, y47.2.2.2.2.2.2.2.2.2.2.2.2.2.2.2.2), (0 : Int))))))) = some (huntE h q (if t = true then hLast h else f) e) := by
    intro t
    cases t
    · exact key f hf
    · exact bindO_tr (histLast_i h hh) (key (hLast h) (by omega))
  have := he (decide (hitOf e = 0))
  rw [show (if hitOf e = 0 then hLast h else f) = (if decide (hitOf e = 0) = true then hLast h else f) by by_cases c : hitOf e = 0 <;> simp [c]]
  exact this
end

theorem left_i (e : EdT) (hv : edOkB e = true) : M_i_left e = some (leaveE e) := by
  unfold M_i_left
  refine bindO_tr (copyEV_i e hv) ?_
  obtain ⟨vi, mode, line, count, op, opc, wait, fr, fh, last, ring, undo, nav, own, query, hit, back⟩ := e
  obtain ⟨h1, _⟩ := edOkB_all hv
  have hl := lineOk_at h1
  have c := fun md => inCommand_i (line.1, line.2) md (by simp only; omega)
  simp only [joinO, bindO_of (c _)]
  cases vi <;> rfl

theorem leaveV_s (e : EdT) (hv : edOkB e = true) (hm : e.2.1 = 3) : M_s_Leave e = some (leaveE e) := by
  obtain ⟨vi, mode, line, count, op, opc, wait, fr, fh, last, ring, undo, nav, own, query, hit, back⟩ := e
  simp only at hm
  subst hm
  rw [leave_s vi 3 line count op opc wait fr fh last ring undo nav own query hit back (small_le (by omega) (small_of hv)), hv]
  rfl

theorem copyBack (e : EdT) (hv : edOkB e = true) : M_i_copyLine e.2.2.2.2.2.2.2.2.2.2.2.2.2.2.2.2 = some e.2.2.2.2.2.2.2.2.2.2.2.2.2.2.2.2 ∧ M_s_l15Line e.2.2.2.2.2.2.2.2.2.2.2.2.2.2.2.2 = some e.2.2.2.2.2.2.2.2.2.2.2.2.2.2.2.2 := by
  obtain ⟨vi, mode, line, count, op, opc, wait, fr, fh, last, ring, undo, nav, own, query, hit, back⟩ := e
  obtain ⟨h1, h2, h3, _⟩ := edOkB_all hv
  have := (lineOk_at h3).2.2
  exact ⟨copyLine_i _ (by simp only; omega), copyLine_s _ (by simp only; omega)⟩

theorem search_i (h : Int × List (List UInt8)) (hh : (h.2.length : Int) ≤ 1048576) (k : Int × Int) (e : EdT) (hs : Small 1048576 e) : M_i_SearchKey e h k = some (skR h k e) := by
  unfold M_i_SearchKey skR
  rw [bindO_of (canKey_i h hh k e hs)]
  cases hv : edOkB e
  · rfl
  cases hOk h
  · rfl
  cases kOk k
  · rfl
  by_cases hm : e.2.1 = 3
  · rw [decide_eq_true hm, if_pos ⟨rfl, hm⟩]
    have hql := query_b e hv
    have hhb := hit_b e hv
    have cq : M_i_copyInts (queryOf e) = some (queryOf e) := copyInts_i _ (by omega)
    have hu := fun q hq f hf => hunt_i h hh e hv q hq f hf
    have ec := copyEV_i e hv
    have el := left_i e hv
    have eb := left_i _ (backE_ok e hv hm)
    have cb := (copyBack e hv).1
    unfold searchE
    obtain ⟨k1, k2⟩ := k
    by_cases c1 : k1 = 1
    · rw [decide_eq_true c1, if_pos c1]
      refine bindO_tr cq ?_
      have hlen : (queryOf e ++ [k2]).length = (queryOf e).length + 1 := by simp
      unfold guardO
      rw [if_pos (by simp; omega)]
      exact bindO_tr (hu (queryOf e ++ [k2]) (by omega) (hitOf e) (by omega)) rfl
    · rw [decide_eq_false c1, if_neg c1]
      have ek : ∀ a b : Int, eqK (k1, k2) (a, b) = (decide (k1 = a) && decide (k2 = b)) := fun a b => rfl
      by_cases c2 : k1 = 2 ∧ k2 = 114
      · rw [if_pos c2, ek, ek, decide_eq_true c2.1, decide_eq_true c2.2]
        by_cases c3 : (queryOf e).length = 0
        · rw [if_pos c3]
          have c4 : ¬ (0 < ((queryOf e).length : Int)) := by omega
          have c4' : decide (0 < ((queryOf e).length : Int)) = false := decide_eq_false c4
          unfold queryOf at c4'
          rw [c4']
          exact bindO_tr ec rfl
        · rw [if_neg c3]
          have c4 : (0 < ((queryOf e).length : Int)) := by omega
          have c4' : decide (0 < ((queryOf e).length : Int)) = true := decide_eq_true c4
          unfold queryOf at c4'
          rw [c4']
          have hw : W (hitOf e - 1) = hitOf e - 1 := W_eq (by omega) (by omega)
          unfold hitOf at hw
          refine bindO_tr (hu (queryOf e) (by omega) _ (by rw [hw]; unfold hitOf at hhb; omega)) ?_
          rw [hw]
          rfl
      · rw [if_neg c2, ek, ek]
        have c2' : (decide (k1 = 2) && decide (k2 = 114)) = false := by
          by_cases x1 : k1 = 2
          · have x2 : ¬ k2 = 114 := fun x => c2 ⟨x1, x⟩
            rw [decide_eq_false x2]; simp
          · rw [decide_eq_false x1]; rfl
        rw [c2']
        by_cases c5 : k1 = 5
        · rw [decide_eq_true c5, if_pos c5]
          by_cases c3 : (queryOf e).length = 0
          · rw [if_pos c3]
            have c4' : decide (((queryOf e).length : Int) = 0) = true := decide_eq_true (by omega)
            unfold queryOf at c4'
            rw [c4']
            exact bindO_tr ec rfl
          · rw [if_neg c3]
            have c4' : decide (((queryOf e).length : Int) = 0) = false := decide_eq_false (by omega)
            unfold queryOf at c4'
            rw [c4']
            have hw : W (((queryOf e).length : Int) - 1) = ((queryOf e).length : Int) - 1 := W_eq (by omega) (by omega)
            refine bindO_tr ec ?_
            obtain ⟨vi, mode, line, count, op, opc, wait, fr, fh, last, ring, undo, nav, own, query, hit, back⟩ := e
            unfold queryOf at hw c3
            simp only at hw c3 ⊢
            rw [hw]
            unfold guardO
            rw [if_pos (by omega)]
            unfold dropE
            have : sub' query 0 ((query.length : Int) - 1) = query.take (query.length - 1) := by
              rw [sub0]; congr 1; omega
            rw [this]
        · rw [decide_eq_false c5, if_neg c5]
          by_cases c4 : k1 = 4
          · rw [decide_eq_true c4, if_pos c4]
            refine bindO_tr el ?_
            obtain ⟨vi, mode, line, count, op, opc, wait, fr, fh, last, ring, undo, nav, own, query, hit, back⟩ := e
            rfl
          · rw [decide_eq_false c4, if_neg c4, ek]
            by_cases c6 : k1 = 2 ∧ (k2 = 103 ∨ k2 = 99)
            · rw [if_pos c6, decide_eq_true c6.1]
              have c7 : (bif (false ^^ (true && decide (k2 = 103))) then true else (false ^^ (true && decide (k2 = 99)))) = true := by
                rcases c6.2 with x | x <;> subst x <;> rfl
              rw [c7]
              refine bindO_tr ec (bindO_tr cb ?_)
              obtain ⟨vi, mode, line, count, op, opc, wait, fr, fh, last, ring, undo, nav, own, query, hit, back⟩ := e
              exact bindO_tr eb rfl
            · rw [if_neg c6]
              have c7 : (bif (false ^^ (decide (k1 = 2) && decide (k2 = 103))) then true else (false ^^ (decide (k1 = 2) && decide (k2 = 99)))) = false := by
                by_cases x1 : k1 = 2
                · have x2 : ¬ k2 = 103 := fun x => c6 ⟨x1, .inl x⟩
                  have x3 : ¬ k2 = 99 := fun x => c6 ⟨x1, .inr x⟩
                  rw [decide_eq_false x2, decide_eq_false x3]; simp
                · rw [decide_eq_false x1]; rfl
              rw [c7]
              refine bindO_tr el ?_
              obtain ⟨vi, mode, line, count, op, opc, wait, fr, fh, last, ring, undo, nav, own, query, hit, back⟩ := e
              rfl
  · rw [decide_eq_false hm, if_neg (fun h => hm h.2)]
    rfl

theorem joinO_pair {α β : Type} {J : α → Option β} {m : (α → Option β) → Option β} {r : Option β} (P : α → Prop) (hJ : ∀ z, P z → J z = r) (hm : ∀ j : α → Option β, (∀ z, P z → j z = r) → m j = r) : joinO J m = r := hm J hJ

theorem search_s (h : Int × List (List UInt8)) (hh : (h.2.length : Int) ≤ 1048576) (k : Int × Int) (e : EdT) (hs : Small 1048576 e) : M_s_SearchKey e h k = some (skR h k e) := by
  unfold M_s_SearchKey skR
  rw [bindO_of (edOkV_s e (small_le (by omega) hs)), sHistOk_eq h hh, callO_of, keyOk_s, callO_of]
  cases hv : edOkB e
  · rfl
  cases hOk h
  · rfl
  cases kOk k
  · rfl
  by_cases hm : e.2.1 = 3
  · rw [decide_eq_true hm, show (if (true && true && true) = true ∧ e.2.1 = 3 then searchE h k e else (zEd, 0)) = searchE h k e from if_pos ⟨rfl, hm⟩]
    have hql := query_b e hv
    have hhb := hit_b e hv
    have hu := fun q hq f => find25_s h hh e hv q hq f
    have ec := copyEV_s e hv
    have el := leaveV_s e hv hm
    have eb := leaveV_s _ (backE_ok e hv hm) (by obtain ⟨vi, mode, line, count, op, opc, wait, fr, fh, last, ring, undo, nav, own, query, hit, back⟩ := e; exact hm)
    have cb := (copyBack e hv).2
    obtain ⟨k1, k2⟩ := k
    simp only [Bool.not_true, cond_false, if_true]
    refine joinO_pair (fun z => z = ((if hitOf e = 0 then hLast h else hitOf e), (if hitOf e = 0 then hLast h else hitOf e - 1))) ?_ ?_
    · intro z hz
      subst hz
      dsimp only
      unfold searchE
      by_cases c1 : k1 = 1
      · rw [decide_eq_true c1, if_pos c1]
        have hlen : (queryOf e ++ [k2]).length = (queryOf e).length + 1 := by simp
        have hj := join_s (queryOf e) [k2] [] (by simp; omega)
        rw [List.append_nil] at hj
        exact bindO_tr hj (bindO_tr (hu (queryOf e ++ [k2]) (by omega) _) rfl)
      · rw [decide_eq_false c1, if_neg c1]
        by_cases c2 : k1 = 2 ∧ k2 = 114
        · rw [if_pos c2, decide_eq_true c2.1, decide_eq_true c2.2]
          by_cases c3 : (queryOf e).length = 0
          · rw [if_pos c3]
            have c4' : decide (((queryOf e).length : Int) = 0) = true := decide_eq_true (by omega)
            unfold queryOf at c4'
            rw [c4']
            exact bindO_tr ec rfl
          · rw [if_neg c3]
            have c4' : decide (((queryOf e).length : Int) = 0) = false := decide_eq_false (by omega)
            unfold queryOf at c4'
            rw [c4']
            exact bindO_tr (hu (queryOf e) (by omega) _) rfl
        · rw [if_neg c2]
          have c2' : (bif decide (k1 = 2) then decide (k2 = 114) else false) = false := by
            by_cases x1 : k1 = 2
            · have x2 : ¬ k2 = 114 := fun x => c2 ⟨x1, x⟩
              rw [decide_eq_false x2]; simp
            · rw [decide_eq_false x1]; rfl
          rw [c2']
          by_cases c5 : k1 = 5
          · rw [decide_eq_true c5, if_pos c5]
            refine bindO_tr ec ?_
            by_cases c3 : (queryOf e).length = 0
            · rw [if_pos c3]
              have c4' : decide (((queryOf e).length : Int) = 0) = true := decide_eq_true (by omega)
              unfold queryOf at c4'
              rw [c4']
              rfl
            · rw [if_neg c3]
              have c4' : decide (((queryOf e).length : Int) = 0) = false := decide_eq_false (by omega)
              unfold queryOf at c4'
              rw [c4']
              have hw : W (((queryOf e).length : Int) - 1) = ((queryOf e).length : Int) - 1 := W_eq (by omega) (by omega)
              obtain ⟨vi, mode, line, count, op, opc, wait, fr, fh, last, ring, undo, nav, own, query, hit, back⟩ := e
              unfold queryOf at hw c3
              simp only at hw c3 ⊢
              rw [hw]
              unfold guardO
              rw [if_pos (by omega)]
              unfold dropE
              have : sub' query 0 ((query.length : Int) - 1) = query.take (query.length - 1) := by
                rw [sub0]; congr 1; omega
              rw [this]
              rfl
          · rw [decide_eq_false c5, if_neg c5]
            by_cases c4 : k1 = 4
            · rw [decide_eq_true c4, if_pos c4]
              refine bindO_tr el ?_
              obtain ⟨vi, mode, line, count, op, opc, wait, fr, fh, last, ring, undo, nav, own, query, hit, back⟩ := e
              rfl
            · rw [decide_eq_false c4, if_neg c4]
              by_cases c6 : k1 = 2 ∧ (k2 = 103 ∨ k2 = 99)
              · rw [if_pos c6, decide_eq_true c6.1]
                have c7 : (bif decide (k2 = 103) then true else decide (k2 = 99)) = true := by
                  rcases c6.2 with x | x <;> subst x <;> rfl
                rw [c7]
                refine bindO_tr ec (bindO_tr cb ?_)
                obtain ⟨vi, mode, line, count, op, opc, wait, fr, fh, last, ring, undo, nav, own, query, hit, back⟩ := e
                exact bindO_tr eb rfl
              · rw [if_neg c6]
                have c7 : (bif decide (k1 = 2) then (bif decide (k2 = 103) then true else decide (k2 = 99)) else false) = false := by
                  by_cases x1 : k1 = 2
                  · have x2 : ¬ k2 = 103 := fun x => c6 ⟨x1, .inl x⟩
                    have x3 : ¬ k2 = 99 := fun x => c6 ⟨x1, .inr x⟩
                    rw [decide_eq_false x2, decide_eq_false x3]; simp
                  · rw [decide_eq_false x1]; rfl
                rw [c7]
                refine bindO_tr el ?_
                obtain ⟨vi, mode, line, count, op, opc, wait, fr, fh, last, ring, undo, nav, own, query, hit, back⟩ := e
                rfl
    · intro j hj
      have hw : W (hitOf e - 1) = hitOf e - 1 := W_eq (by omega) (by omega)
      by_cases c0 : hitOf e = 0
      · have c0' : decide (hitOf e = 0) = true := decide_eq_true c0
        rw [if_pos c0, if_pos c0] at hj
        unfold hitOf at c0'
        rw [c0']
        exact bindO_tr (histLast_eq h hh).1 (hj _ rfl)
      · have c0' : decide (hitOf e = 0) = false := decide_eq_false c0
        rw [if_neg c0, if_neg c0] at hj
        unfold hitOf at c0' hw
        rw [c0', hw]
        exact hj _ rfl
  · rw [decide_eq_false hm, show (if (true && true && true) = true ∧ e.2.1 = 3 then searchE h k e else (zEd, 0)) = (zEd, 0) from if_neg (fun h => hm h.2)]
    rfl

theorem leaveE_small {N : Nat} (e : EdT) (hs : Small N e) : Small N (leaveE e) := by
  obtain ⟨vi, mode, line, count, op, opc, wait, fr, fh, last, ring, undo, nav, own, query, hit, back⟩ := e
  obtain ⟨h1, h2, h3, h4, h5, h6⟩ := hs
  exact ⟨h1, h2, h3, h4, by simp, by simp⟩

theorem skR_fine (h : Int × List (List UInt8)) (k : Int × Int) (e : EdT) : Small 1048576 (skR h k e).1 := by
  unfold skR
  split
  · rename_i hc
    have hv : edOkB e = true := by have := hc.1; simp only [Bool.and_eq_true] at this; exact this.1.1
    have hs : Small 1048576 e := small_le (by omega) (smallV e hv)
    have hH : ∀ q f, Small 1048576 (huntE h q f e).1 := by
      intro q f
      unfold huntE
      split
      · exact (shR_fine h _ q e).1
      · exact hs
    unfold searchE
    repeat' split
    all_goals first
      | exact hH _ _
      | exact hs
      | exact leaveE_small e hs
      | exact leaveE_small _ (small_le (by omega) (smallV _ (backE_ok e hv hc.2)))
      | skip
    obtain ⟨vi, mode, line, count, op, opc, wait, fr, fh, last, ring, undo, nav, own, query, hit, back⟩ := e
    obtain ⟨h1, h2, h3, h4, h5, h6⟩ := hs
    exact ⟨h1, h2, h3, h4, by rw [List.length_take]; omega, h6⟩
  · exact small_le (by omega) small_zEd

theorem law_SearchKey (e : EdT) (h : Int × List (List UInt8)) (k : Int × Int) (w : WfT (.pair .bool (.pair (.int .i64) (.pair (.pair (.sl (.int .i64)) (.int .i64)) (.pair (.int .i64) (.pair (.int .i64) (.pair (.int .i64) (.pair (.int .i64) (.pair (.int .i64) (.pair (.int .i64) (.pair (.int .i64) (.pair (.sl (.sl (.int .i64))) (.pair (.sl (.pair (.sl (.int .i64)) (.int .i64))) (.pair (.int .i64) (.pair (.pair (.sl (.int .i64)) (.int .i64)) (.pair (.sl (.int .i64)) (.pair (.int .i64) (.pair (.sl (.int .i64)) (.int .i64)))))))))))))))))) e) (wh : WfT (.pair (.int .i64) (.sl .str)) h) (wk : WfT (.pair (.int .i64) (.int .i64)) k) : M_l_FnExactSearchKey e h k = some true := by
  have e1 : ∃ v, M_l_szEd e 1048576 = some v ∧ (v = -1 ∨ 0 ≤ v ∧ v ≤ 1048576 ∧ Small 1048576 e) := by
    obtain ⟨vi, mode, line, count, op, opc, wait, fr, fh, last, ring, undo, nav, own, query, hit, back⟩ := e
    exact szEd_ok vi mode line count op opc wait fr fh last ring undo nav own query hit back w 1048576 (by omega) (by omega)
  obtain ⟨v, e1, hv⟩ := e1
  unfold M_l_FnExactSearchKey
  rw [bindO_of e1]
  rcases hv with rfl | ⟨v0, v1, hs⟩
  · rfl
  have nv : ¬ (v < 0) := by omega
  rw [decide_eq_false nv, cond_false]
  obtain ⟨v', e2, hv'⟩ := szHist_ok h wh v (by omega) (by omega)
  rw [bindO_of e2]
  rcases hv' with rfl | ⟨v2, v3, hl, _⟩
  · rfl
  have nv' : ¬ (v' < 0) := by omega
  rw [decide_eq_false nv', cond_false]
  have th := toHist_eq h (by omega)
  have eh := eqHist_self h (by omega)
  have ts := search_s h hl k e hs
  have ti := search_i h hl k e hs
  have hS := skR_fine h k e
  generalize skR h k e = z at ts ti hS
  obtain ⟨te, ee, n0, l0, r0, u0, o0, q0, b0, m1, m2, m3⟩ := edBegin e hs
  obtain ⟨hz, mh⟩ := markHist_ok h hl n0 (by omega)
  obtain ⟨ez, n, x1, x2, x3, x4, x5, x6, g1, nn, g9, _⟩ := edEnd z.1 hS
  have nk : ¬ (n0 + (h.2.length : Int) < 0) := by omega
  simp only [joinO]
  refine bindO_tr te (bindO_tr th (bindO_tr rfl (bindO_tr ts (bindO_tr te (bindO_tr th (bindO_tr rfl (bindO_tr ti (bindO_tr ez ?_))))))))
  rw [decide_eq_true rfl]
  refine bindO_tr te (bindO_tr ee (bindO_tr th (bindO_tr eh (bindO_tr m1 (bindO_tr mh ?_)))))
  rw [decide_eq_false nk, callO_pos_of ez rfl]
  refine bindO_tr g1 (bindO_tr g9 ?_)
  rw [decide_eq_false nn, decide_eq_true rfl]
  refine bindO_tr te (bindO_tr th (bindO_tr rfl (bindO_tr ti (bindO_tr ez ?_))))
  rw [decide_eq_true rfl]
  refine bindO_tr g9 ?_
  rw [decide_eq_false nn, decide_eq_true rfl]
  rfl

end Go.Eng

namespace Go.Proofs.YtlpgcohnjhomgaaGreat.fnExactSearchKey
open Go.ChangeShapes Go.WideShapes Go.ChangeAt Go.RowKit Go.Eng
open Go.ChangeMaps (open_string shut_string)

theorem own : ownKnob Tryz.prog.godebug = none := by kernel_rfl
theorem laidOut : laidOutB Tryz.prog = true := by kernel_rfl

set_option maxRecDepth 100000 in
theorem lifted (os : Os) (started : os.Started) (H : Type) (enc : TypeId × Value → H) :
    ReturnsInHanded {} Tryz.checked os 4 .any (Rows.fnExactSearchKeySpec.pre6 enc Tryz.prog Tryz.f4 Rows.fnExactSearchKeyRow.domain false) (Rows.fnExactSearchKeySpec.post enc Tryz.prog Tryz.f4 false true false false) := by
  refine returnsInHanded_of_change_shaped (C := Tryz.checked) own started (by kernel_rfl) Tryz.func4
    (ChangeSpec.witness6 (enc := enc) (C := Tryz.checked) false ⟨#[], #[.agg #[.bool false, .int .i64 0, .slice none 0 0, .int .i64 0, .int .i64 0, .int .i64 0, .int .i64 0, .int .i64 0, .int .i64 0, .int .i64 0, .int .i64 0, .slice none 0 0, .slice none 0 0, .int .i64 0, .slice none 0 0, .int .i64 0, .slice none 0 0, .int .i64 0, .slice none 0 0, .int .i64 0], .agg #[.int .i64 0, .slice none 0 0], .agg #[.int .i64 0, .int .i64 0]], []⟩ 8 (by kernel_rfl) (by kernel_rfl) (by kernel_rfl) (by kernel_rfl)) ?_
  intro W base args ds gs before hval0 hW hcnd _ hsh _
  have hval : ∀ (j : Nat) t v, Tryz.f4.params[j]? = some t → args[j]? = some v → Value.okWide Tryz.prog W .any base t v := hval0
  have hW' := hW
  obtain ⟨p, q, hA0, hV, rfl, hfz, hnd⟩ := hW
  have hA : DataW.TrodAll enc Tryz.prog W 0 (fun _ => true) true Tryz.f4.params.toList args.toList ds p := hA0
  rw [Tryz.params4] at hA hval
  obtain ⟨v0, vs0, d0, ds0, p0, q0, hargs, rfl, rfl, h0, r0⟩ := trodAll_cons hA
  obtain ⟨v1, vs1, d1, ds1, p1, q1, rfl, rfl, rfl, h1, r1⟩ := trodAll_cons r0
  obtain ⟨v2, vs2, d2, ds2, p2, q2, rfl, rfl, rfl, h2, r2⟩ := trodAll_cons r1
  obtain ⟨rfl, rfl, rfl⟩ := trodAll_nil r2
  obtain rfl : args = #[v0, v1, v2] := by cases args; simp_all
  obtain ⟨rfl, rfl⟩ := trodVars_none hV
  have k0 := h0
  have lt0 : ∀ x ∈ p0, x.block < W.heap.size := by obtain ⟨m, hm⟩ := k0; exact DataW.trod_lt m _ _ _ hm
  obtain ⟨cs0, rfl, -⟩ := okWide_struct Tryz.underlying32 (hval 0 32 v0 rfl rfl)
  obtain ⟨m0, hm0⟩ := h0
  obtain ⟨x0, L0, rep0, wf0⟩ := trod_rep 16 m0 32 (.pair .bool (.pair (.int .i64) (.pair (.pair (.sl (.int .i64)) (.int .i64)) (.pair (.int .i64) (.pair (.int .i64) (.pair (.int .i64) (.pair (.int .i64) (.pair (.int .i64) (.pair (.int .i64) (.pair (.int .i64) (.pair (.sl (.sl (.int .i64))) (.pair (.sl (.pair (.sl (.int .i64)) (.int .i64))) (.pair (.int .i64) (.pair (.pair (.sl (.int .i64)) (.int .i64)) (.pair (.sl (.int .i64)) (.pair (.int .i64) (.pair (.sl (.int .i64)) (.int .i64)))))))))))))))))) _ _ (by kernel_rfl) hm0
  refine rep_open rep0 ?_
  intro b0_0 c0_0 b0_1 c0_1 b0_2 c0_2 b0_3 c0_3 b0_4 c0_4 b0_5 c0_5 e0 f0
  have e0' : some [.bool x0.1, .int .i64 x0.2.1, .slice b0_0 x0.2.2.1.1.length c0_0, .int .i64 x0.2.2.1.2, .int .i64 x0.2.2.2.1, .int .i64 x0.2.2.2.2.1, .int .i64 x0.2.2.2.2.2.1, .int .i64 x0.2.2.2.2.2.2.1, .int .i64 x0.2.2.2.2.2.2.2.1, .int .i64 x0.2.2.2.2.2.2.2.2.1, .int .i64 x0.2.2.2.2.2.2.2.2.2.1, .slice b0_1 x0.2.2.2.2.2.2.2.2.2.2.1.length c0_1, .slice b0_2 x0.2.2.2.2.2.2.2.2.2.2.2.1.length c0_2, .int .i64 x0.2.2.2.2.2.2.2.2.2.2.2.2.1, .slice b0_3 x0.2.2.2.2.2.2.2.2.2.2.2.2.2.1.1.length c0_3, .int .i64 x0.2.2.2.2.2.2.2.2.2.2.2.2.2.1.2, .slice b0_4 x0.2.2.2.2.2.2.2.2.2.2.2.2.2.2.1.length c0_4, .int .i64 x0.2.2.2.2.2.2.2.2.2.2.2.2.2.2.2.1, .slice b0_5 x0.2.2.2.2.2.2.2.2.2.2.2.2.2.2.2.2.1.length c0_5, .int .i64 x0.2.2.2.2.2.2.2.2.2.2.2.2.2.2.2.2.2] = some cs0.toList := e0
  obtain rfl : cs0 = #[.bool x0.1, .int .i64 x0.2.1, .slice b0_0 x0.2.2.1.1.length c0_0, .int .i64 x0.2.2.1.2, .int .i64 x0.2.2.2.1, .int .i64 x0.2.2.2.2.1, .int .i64 x0.2.2.2.2.2.1, .int .i64 x0.2.2.2.2.2.2.1, .int .i64 x0.2.2.2.2.2.2.2.1, .int .i64 x0.2.2.2.2.2.2.2.2.1, .int .i64 x0.2.2.2.2.2.2.2.2.2.1, .slice b0_1 x0.2.2.2.2.2.2.2.2.2.2.1.length c0_1, .slice b0_2 x0.2.2.2.2.2.2.2.2.2.2.2.1.length c0_2, .int .i64 x0.2.2.2.2.2.2.2.2.2.2.2.2.1, .slice b0_3 x0.2.2.2.2.2.2.2.2.2.2.2.2.2.1.1.length c0_3, .int .i64 x0.2.2.2.2.2.2.2.2.2.2.2.2.2.1.2, .slice b0_4 x0.2.2.2.2.2.2.2.2.2.2.2.2.2.2.1.length c0_4, .int .i64 x0.2.2.2.2.2.2.2.2.2.2.2.2.2.2.2.1, .slice b0_5 x0.2.2.2.2.2.2.2.2.2.2.2.2.2.2.2.2.1.length c0_5, .int .i64 x0.2.2.2.2.2.2.2.2.2.2.2.2.2.2.2.2.2] := Array.ext' (Option.some.inj e0').symm
  have f0' : ∀ f ∈ ([⟨(.int .i64), ⟨b0_0, x0.2.2.1.1.length, c0_0⟩, x0.2.2.1.1⟩, ⟨(.sl (.int .i64)), ⟨b0_1, x0.2.2.2.2.2.2.2.2.2.2.1.length, c0_1⟩, x0.2.2.2.2.2.2.2.2.2.2.1⟩, ⟨(.pair (.sl (.int .i64)) (.int .i64)), ⟨b0_2, x0.2.2.2.2.2.2.2.2.2.2.2.1.length, c0_2⟩, x0.2.2.2.2.2.2.2.2.2.2.2.1⟩, ⟨(.int .i64), ⟨b0_3, x0.2.2.2.2.2.2.2.2.2.2.2.2.2.1.1.length, c0_3⟩, x0.2.2.2.2.2.2.2.2.2.2.2.2.2.1.1⟩, ⟨(.int .i64), ⟨b0_4, x0.2.2.2.2.2.2.2.2.2.2.2.2.2.2.1.length, c0_4⟩, x0.2.2.2.2.2.2.2.2.2.2.2.2.2.2.1⟩, ⟨(.int .i64), ⟨b0_5, x0.2.2.2.2.2.2.2.2.2.2.2.2.2.2.2.2.1.length, c0_5⟩, x0.2.2.2.2.2.2.2.2.2.2.2.2.2.2.2.2.1⟩] : List Fact), ∃ L, f.rep false W L := f0
  have k1 := h1
  have lt1 : ∀ x ∈ p1, x.block < W.heap.size := by obtain ⟨m, hm⟩ := k1; exact DataW.trod_lt m _ _ _ hm
  obtain ⟨cs1, rfl, -⟩ := okWide_struct Tryz.underlying35 (hval 1 35 v1 rfl rfl)
  obtain ⟨m1, hm1⟩ := h1
  obtain ⟨x1, L1, rep1, wf1⟩ := trod_rep 16 m1 35 (.pair (.int .i64) (.sl .str)) _ _ (by kernel_rfl) hm1
  refine rep_open rep1 ?_
  intro b1_0 c1_0 e1 f1
  have e1' : some [.int .i64 x1.1, .slice b1_0 x1.2.length c1_0] = some cs1.toList := e1
  obtain rfl : cs1 = #[.int .i64 x1.1, .slice b1_0 x1.2.length c1_0] := Array.ext' (Option.some.inj e1').symm
  have f1' : ∀ f ∈ ([⟨.str, ⟨b1_0, x1.2.length, c1_0⟩, x1.2⟩] : List Fact), ∃ L, f.rep false W L := f1
  have k2 := h2
  have lt2 : ∀ x ∈ p2, x.block < W.heap.size := by obtain ⟨m, hm⟩ := k2; exact DataW.trod_lt m _ _ _ hm
  obtain ⟨cs2, rfl, -⟩ := okWide_struct Tryz.underlying61 (hval 2 61 v2 rfl rfl)
  obtain ⟨m2, hm2⟩ := h2
  obtain ⟨x2, L2, rep2, wf2⟩ := trod_rep 16 m2 61 (.pair (.int .i64) (.int .i64)) _ _ (by kernel_rfl) hm2
  refine rep_open rep2 ?_
  intro  e2 f2
  have e2' : some [.int .i64 x2.1, .int .i64 x2.2] = some cs2.toList := e2
  obtain rfl : cs2 = #[.int .i64 x2.1, .int .i64 x2.2] := Array.ext' (Option.some.inj e2').symm
  have f2' : ∀ f ∈ ([] : List Fact), ∃ L, f.rep false W L := f2
  obtain ⟨gm0, Lg0, fg0⟩ := var_of_shape (P := Tryz.prog) (g := 0) (t := 3) (zero := #[.int .i64 0]) hsh (of_decide_eq_true (by kernel_rfl)) (by kernel_rfl) rfl (by kernel_rfl) (by kernel_rfl) Tryz.underlying3
  clear hA0 hval0
  simp only [List.append_nil] at hW'
  have walk : Calls Tryz.prog 4 #[.agg #[.bool x0.1, .int .i64 x0.2.1, .slice b0_0 x0.2.2.1.1.length c0_0, .int .i64 x0.2.2.1.2, .int .i64 x0.2.2.2.1, .int .i64 x0.2.2.2.2.1, .int .i64 x0.2.2.2.2.2.1, .int .i64 x0.2.2.2.2.2.2.1, .int .i64 x0.2.2.2.2.2.2.2.1, .int .i64 x0.2.2.2.2.2.2.2.2.1, .int .i64 x0.2.2.2.2.2.2.2.2.2.1, .slice b0_1 x0.2.2.2.2.2.2.2.2.2.2.1.length c0_1, .slice b0_2 x0.2.2.2.2.2.2.2.2.2.2.2.1.length c0_2, .int .i64 x0.2.2.2.2.2.2.2.2.2.2.2.2.1, .slice b0_3 x0.2.2.2.2.2.2.2.2.2.2.2.2.2.1.1.length c0_3, .int .i64 x0.2.2.2.2.2.2.2.2.2.2.2.2.2.1.2, .slice b0_4 x0.2.2.2.2.2.2.2.2.2.2.2.2.2.2.1.length c0_4, .int .i64 x0.2.2.2.2.2.2.2.2.2.2.2.2.2.2.2.1, .slice b0_5 x0.2.2.2.2.2.2.2.2.2.2.2.2.2.2.2.2.1.length c0_5, .int .i64 x0.2.2.2.2.2.2.2.2.2.2.2.2.2.2.2.2.2], .agg #[.int .i64 x1.1, .slice b1_0 x1.2.length c1_0], .agg #[.int .i64 x2.1, .int .i64 x2.2]] W fun e w' => e = .returned (.bool true) ∧ Below W.heap.size W w' := by
    have h := ok_l_FnExactSearchKey x0 x1 x2 b0_0 c0_0 _ rfl b0_1 c0_1 _ rfl b0_2 c0_2 _ rfl b0_3 c0_3 _ rfl b0_4 c0_4 _ rfl b0_5 c0_5 _ rfl b1_0 c1_0 _ rfl gm0 true (law_SearchKey x0 x1 x2 wf0 wf1 wf2)
    refine Calls.mono (h.calls W ?_) ?_
    · intro x hx
      rcases List.mem_cons.1 hx with rfl | hx
      · exact f0' _ List.mem_cons_self
      rcases List.mem_cons.1 hx with rfl | hx
      · exact f0' _ (List.mem_cons_of_mem _ List.mem_cons_self)
      rcases List.mem_cons.1 hx with rfl | hx
      · exact f0' _ (List.mem_cons_of_mem _ (List.mem_cons_of_mem _ List.mem_cons_self))
      rcases List.mem_cons.1 hx with rfl | hx
      · exact f0' _ (List.mem_cons_of_mem _ (List.mem_cons_of_mem _ (List.mem_cons_of_mem _ List.mem_cons_self)))
      rcases List.mem_cons.1 hx with rfl | hx
      · exact f0' _ (List.mem_cons_of_mem _ (List.mem_cons_of_mem _ (List.mem_cons_of_mem _ (List.mem_cons_of_mem _ List.mem_cons_self))))
      rcases List.mem_cons.1 hx with rfl | hx
      · exact f0' _ (List.mem_cons_of_mem _ (List.mem_cons_of_mem _ (List.mem_cons_of_mem _ (List.mem_cons_of_mem _ (List.mem_cons_of_mem _ List.mem_cons_self)))))
      rcases List.mem_cons.1 hx with rfl | hx
      · exact f1' _ List.mem_cons_self
      rcases List.mem_cons.1 hx with rfl | hx
      · exact ⟨_, fg0⟩
      cases hx
    · rintro e w' ⟨r, -, he, hk, -⟩
      exact ⟨he, hk.below⟩
  refine walk.mono fun e W' ⟨he, bel⟩ => ?_
  subst he
  exact ⟨_, rfl, _, _, _, [], _, [], hW', trodAll_mk1 (shut_bool Tryz.underlying4 _), (trodAll_cons_mk (Below.trod laidOut (by kernel_rfl) (of_decide_eq_true (by kernel_rfl)) k0 bel lt0) (trodAll_cons_mk (Below.trod laidOut (by kernel_rfl) (of_decide_eq_true (by kernel_rfl)) k1 bel lt1) (trodAll_cons_mk (Below.trod laidOut (by kernel_rfl) (of_decide_eq_true (by kernel_rfl)) k2 bel lt2) trodAll_mk0))), rfl, bel.frame _, fun h => by cases h⟩

theorem andI {a b : Bool} (ha : a = true) (hb : b = true) : (a && b) = true := by rw [ha, hb]; rfl
set_option maxHeartbeats 8000000 in
theorem closed : joinedFacts Tryz.checked.prog 4 Tryz.f4 Rows.fnExactSearchKeySpec Rows.fnExactSearchKeyRow = true := by
  unfold joinedFacts
  (repeat' with_reducible refine andI ?_ ?_) <;> as_aux_lemma => kernel_rfl

theorem over : Rows.fnExactSearchKeyRow.holds Tryz.pinned (OpenSpec.ofChange Rows.fnExactSearchKeySpec) :=
  OpenClaim.holds_of_wide 4 Tryz.f4 rfl rfl rfl rfl rfl rfl rfl ⟨rfl, rfl, rfl, rfl, rfl⟩ rfl rfl rfl rfl rfl (by kernel_rfl) Tryz.func4 closed
    (of_decide_eq_true (by kernel_rfl)) (by unfold Func.isWrapper; first | (rw [if_pos (by decide +kernel)]; kernel_rfl) | (rw [if_neg (by decide +kernel)]; exact ⟨rfl, rfl⟩))
    (fun os started H enc _ => lifted os started H enc)

theorem proved : Rows.FnExactSearchKeySaid := over
#print axioms proved
end Go.Proofs.YtlpgcohnjhomgaaGreat.fnExactSearchKey
