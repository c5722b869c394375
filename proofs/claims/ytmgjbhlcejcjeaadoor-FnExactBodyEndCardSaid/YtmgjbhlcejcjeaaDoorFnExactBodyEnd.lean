/- FnExactBodyEnd: for every input the given law returns true and leaves its arguments as they were. No condition. -/
import Derived.Test.YtmgjbhlcejcjeaaDoorFnExactBodyEndWalkA
import Derived.Test.YtmgjbhlcejcjeaaDoorRows
import Derived.WalkKit
import Derived.ProofKit
import Derived.OpenShut
import Derived.ShutString
import Derived.Test.YtmgjbhlcejcjeaaDoorTie
import Derived.Test.YtmgjbhlcejcjeaaDoorCards
import Derived.Handy
import Derived.Lay
import Derived.SevenTiedAt
set_option linter.unusedVariables false
set_option linter.unusedSimpArgs false
namespace Go.Eng
open Go Go.Proofs


theorem bindO_of {α β : Type} {m : Option α} {k : α → Option β} {y : α} (h : m = some y) : bindO m k = k y := by rw [h]; rfl

theorem wf64 {a : Int} (h : (Lit.int .i64 a).wf = true) : -9223372036854775808 ≤ a ∧ a ≤ 9223372036854775807 := by
  simpa [Lit.wf, IntKind.min, IntKind.max, IntKind.signed, IntKind.bits] using h


theorem clamp_eq (a n : Int) (hn : 0 ≤ n) : M_s_l08Clamp a n = some (max 0 (min a n)) := by
  simp only [M_s_l08Clamp, Bool.cond_decide]
  split
  · congr 1; omega
  · split <;> (congr 1; omega)


theorem drop_at {α : Type} [Inhabited α] {l : List α} {k : Int} (h0 : 0 ≤ k) (h : k < (l.length : Int)) : l.drop k.toNat = at' l k :: l.drop (k + 1).toNat := by
  have hlt : k.toNat < l.length := by omega
  rw [List.drop_eq_getElem_cons hlt]
  have : (k + 1).toNat = k.toNat + 1 := by omega
  rw [this]
  congr 1
  simp [at', List.getD_eq_getElem?_getD, hlt]

theorem sub_all {α : Type} {l : List α} {k : Int} (h0 : 0 ≤ k) : sub' l k (l.length : Int) = l.drop k.toNat := by
  unfold sub'
  rw [List.take_of_length_le]
  simp

theorem byte_eq {b : UInt8} {n : Nat} (hn : n < 256) : ((b.toNat : Int) = n) ↔ b = UInt8.ofNat n := by
  constructor
  · intro h; apply UInt8.toNat_inj.1; simp; omega
  · intro h; rw [h]; simp; omega


theorem bt (b c : UInt8) (z : Int) (h : z = (c.toNat : Int)) : ((b.toNat : Int) = z) = (b = c) := by
  subst h
  apply propext
  constructor
  · intro h; apply UInt8.toNat_inj.1; omega
  · intro h; rw [h]

theorem optMatch {α β : Type} (m : Option α) (f : α → α) (s : α → β) (n : β) : (match m.map f with | some x => s x | none => n) = (match m with | some x => s (f x) | none => n) := by
  cases m <;> rfl

theorem indexByte_lt (l : List UInt8) (c : UInt8) : Lib.indexByte l c ≤ l.length := by
  induction l with
  | nil => simp [Lib.indexByte]
  | cons b l ih =>
    unfold Lib.indexByte
    simp only [List.length_cons]
    split
    · omega
    · split <;> omega


theorem ib_lt (c : UInt8) : ∀ (l : List UInt8), 0 ≤ Lib.indexByte l c → Lib.indexByte l c < l.length := by
  intro l
  induction l with
  | nil => intro h; simp [Lib.indexByte] at h
  | cons b l ih =>
    unfold Lib.indexByte
    intro h
    simp only [List.length_cons]
    split
    · omega
    · rename_i hb
      rw [if_neg hb] at h
      split
      · rename_i he; rw [if_pos he] at h; omega
      · rename_i he
        rw [if_neg he] at h
        have hge := Lib.indexByte_ge l c
        have : Lib.indexByte l c ≠ -1 := by simpa using he
        have := ih (by omega)
        omega

theorem end_loop (l : List UInt8) (hl : (l.length : Int) ≤ 1048576) (j : Int → Option Int) : ∀ (m : Nat) (k : Int), 0 ≤ k → k ≤ (l.length : Int) → (l.length : Int) - k < m → 0 < m →
    fixF (M_s_BodyEnd_L1 l j) m k = j (if Lib.indexByte (l.drop k.toNat) 10 < 0 then (l.length : Int) else k + Lib.indexByte (l.drop k.toNat) 10) := by
  intro m
  induction m with
  | zero => intro k _ _ h h'; omega
  | succ m ih =>
    intro k hk hk' hm _
    simp only [fixF, M_s_BodyEnd_L1, guardO, Bool.cond_decide]
    by_cases h1 : k < (l.length : Int)
    · simp only [h1, hk, if_true, and_self, imp_true_iff, bt _ 10 10 rfl, decide_true]
      rw [W_eq (by omega) (by omega), drop_at hk h1, Lib.indexByte]
      by_cases h2 : at' l k = 10
      · simp [h2]
      · have h4 : (at' l k == 10) = false := by simpa using h2
        have hge := Lib.indexByte_ge (l.drop (k + 1).toNat) 10
        simp only [h2, h4, if_false, Bool.false_eq_true, decide_false, Bool.not_false, cond_true]
        rw [ih _ (by omega) (by omega) (by omega) (by omega)]
        generalize Lib.indexByte (l.drop (k + 1).toNat) 10 = p at *
        by_cases h5 : p = -1
        · subst h5; simp
        · have : (p == -1) = false := by simpa using h5
          simp only [this, Bool.false_eq_true, if_false]
          rw [if_neg (by omega), if_neg (by omega)]
          congr 1; omega
    · simp only [h1, if_false, decide_false, cond_false, Bool.false_eq_true, false_imp_iff, if_true]
      rw [List.drop_eq_nil_of_le (by omega)]
      have e : (if Lib.indexByte ([] : List UInt8) 10 < 0 then (l.length : Int) else k + Lib.indexByte ([] : List UInt8) 10) = k := by
        rw [if_pos (by decide)]; omega
      rw [e]

theorem sub_cons {l : List UInt8} {k e : Int} (h0 : 0 ≤ k) (h : k < e) (he : e ≤ (l.length : Int)) : sub' l k e = at' l k :: sub' l (k + 1) e := by
  unfold sub'
  rw [drop_at h0 (by omega)]
  have : e.toNat - k.toNat = (e.toNat - (k + 1).toNat) + 1 := by omega
  rw [this, List.take_succ_cons]

theorem sub_nil {l : List UInt8} {e : Int} : sub' l e e = [] := by unfold sub'; simp

theorem tab_loop (l : List UInt8) (hl : (l.length : Int) ≤ 1048576) (e : Int) (he : e ≤ (l.length : Int)) (j : Int → Option Int) : ∀ (m : Nat) (k : Int), 0 ≤ k → k ≤ e → e - k < m → 0 < m →
    ∃ k', k ≤ k' ∧ k' ≤ e ∧ fixF (M_s_BodyEnd_L2 l true e j) m k = j k' ∧ sub' l k' e = (sub' l k e).dropWhile (· == 9) := by
  intro m
  induction m with
  | zero => intro k _ _ h h'; omega
  | succ m ih =>
    intro k hk hk' hm _
    simp only [fixF, M_s_BodyEnd_L2, guardO, Bool.cond_decide, cond_true]
    by_cases h1 : k < e
    · have h3 : k < (l.length : Int) := by omega
      simp only [h1, h3, hk, if_true, and_self, imp_true_iff, bt _ 9 9 rfl, decide_true, cond_true]
      rw [W_eq (by omega) (by omega), sub_cons hk h1 he]
      by_cases h2 : at' l k = 9
      · obtain ⟨k', r1, r2, r3, r4⟩ := ih (k + 1) (by omega) (by omega) (by omega) (by omega)
        refine ⟨k', by omega, r2, ?_, ?_⟩
        · simp [h2, r3]
        · rw [r4]; simp [h2]
      · refine ⟨k, by omega, by omega, ?_, ?_⟩
        · simp [h2]
        · rw [sub_cons hk h1 he]; simp [h2]
    · have : k = e := by omega
      subst this
      refine ⟨k, by omega, by omega, ?_, ?_⟩
      · simp
      · rw [sub_nil]; rfl

theorem tab_none (l : List UInt8) (e k : Int) (j : Int → Option Int) : fixF (M_s_BodyEnd_L2 l false e j) FUEL k = j k := by
  obtain ⟨n, hn⟩ : ∃ n, FUEL = n + 1 := ⟨FUEL - 1, by have := fuel_eq; omega⟩
  rw [hn]
  simp [fixF, M_s_BodyEnd_L2, guardO]

theorem trim_loop (j : List UInt8 → Option (List UInt8)) : ∀ (m : Nat) (x : List UInt8), (x.length : Int) ≤ 1048576 → x.length < m → fixF (M_strings_trimLeftByte_L1 9 j) m x = j (x.dropWhile (· == 9)) := by
  intro m
  induction m with
  | zero => intro x _ h; omega
  | succ m ih =>
    intro x hx hm
    simp only [fixF, M_strings_trimLeftByte_L1, guardO, Bool.cond_decide]
    cases x with
    | nil => simp
    | cons b x =>
      have h0 : at' (b :: x) (0 : Int) = b := rfl
      have hs : sub' (b :: x) 1 ((b :: x).length : Int) = x := by unfold sub'; simp
      have hlen : (0 : Int) < ((b :: x).length : Int) := by rw [List.length_cons]; omega
      have hlen1 : (1 : Int) ≤ ((b :: x).length : Int) := by omega
      have hm' : x.length < m := by simpa using hm
      have hb := bt b 9 ((9 : UInt8).toNat : Int) rfl
      rw [h0, hs]
      simp only [hb, hlen, hlen1, decide_true, cond_true, Int.le_refl, and_self, imp_true_iff, if_true]
      by_cases h2 : b = 9
      · subst h2
        simp only [decide_true, if_true, true_and, show (0 : Int) ≤ 1 from by decide]
        rw [ih x (by simp at hx; omega) hm']
        simp
      · simp [h2]

theorem trim_eq (x : List UInt8) (hx : (x.length : Int) ≤ 1048576) : M_strings_TrimLeft x [9] = some (x.dropWhile (· == 9)) := by
  unfold M_strings_TrimLeft
  by_cases h : x = []
  · subst h; simp
  · have e1 : M_strings_trimLeftByte x (at' [9] 0) = some (x.dropWhile (· == 9)) := by
      unfold M_strings_trimLeftByte
      have h9 : at' ([9] : List UInt8) (0 : Int) = 9 := rfl
      rw [h9]
      simp only [joinO]
      exact trim_loop _ FUEL x hx (by rw [fuel_eq]; omega)
    have h9 : ((at' ([9] : List UInt8) (0 : Int)).toNat : Int) < 128 := by decide
    have hx' : (decide (x = [])) = false := by simpa using h
    simp only [hx', cond_false, guardO, h9]
    rw [bindO_of e1]
    rfl

theorem body_loop (l d : List UInt8) (t : Bool) (hl : (l.length : Int) ≤ 1048576) : ∀ (m : Nat) (k : Int), 0 ≤ k → k ≤ (l.length : Int) → (l.length : Int) - k < m → 0 < m →
    ∃ r, fixF (M_s_BodyEnd_L3 l d t fun _ => some (-1)) m k = some r ∧ fixF (M_i_BodyEnd_L1 l d t fun _ => some (-1)) m k = some r := by
  intro m
  induction m with
  | zero => intro k _ _ h h'; omega
  | succ m ih =>
    intro k hk hk' hm _
    by_cases h1 : k < (l.length : Int)
    · -- what both look at
      have hx := indexByte_lt (l.drop k.toNat) 10
      have hy := Lib.indexByte_ge (l.drop k.toNat) 10
      have hz := ib_lt 10 (l.drop k.toNat)
      simp only [List.length_drop] at hx hz
      have hs : sub' l k (l.length : Int) = l.drop k.toNat := sub_all hk
      -- the end of the line, and what is behind it
      have key : ∀ (e nx : Int), k ≤ e → e ≤ (l.length : Int) → k < nx → nx ≤ (l.length : Int) →
          (∀ j, fixF (M_s_BodyEnd_L1 l j) FUEL k = j e) → (if e < (l.length : Int) then W (e + 1) else e) = nx →
          (∃ r, fixF (M_s_BodyEnd_L3 l d t fun _ => some (-1)) (m + 1) k = some r ∧
            (bif decide ((if t then (sub' l k e).dropWhile (· == 9) else sub' l k e) = d) then some nx else fixF (M_i_BodyEnd_L1 l d t fun _ => some (-1)) m nx) = some r) := by
        intro e nx he1 he2 hn1 hn2 hend hnx
        simp only [fixF, M_s_BodyEnd_L3, joinO, Bool.cond_decide, h1, if_true]
        rw [hend]
        have fin : ∀ k', k ≤ k' → k' ≤ e → sub' l k' e = (if t then (sub' l k e).dropWhile (· == 9) else sub' l k e) →
            ∃ r, (if e < (l.length : Int) then guardO (0 ≤ k' ∧ k' ≤ e ∧ e ≤ (l.length : Int)) (if sub' l k' e = d then some (W (e + 1)) else fixF (M_s_BodyEnd_L3 l d t fun _ => some (-1)) m (W (e + 1)))
              else guardO (0 ≤ k' ∧ k' ≤ e ∧ e ≤ (l.length : Int)) (if sub' l k' e = d then some e else fixF (M_s_BodyEnd_L3 l d t fun _ => some (-1)) m e)) = some r ∧
            (if ((if t then (sub' l k e).dropWhile (· == 9) else sub' l k e) = d) then some nx else fixF (M_i_BodyEnd_L1 l d t fun _ => some (-1)) m nx) = some r := by
          intro k' g1 g2 g3
          have hg : 0 ≤ k' ∧ k' ≤ e ∧ e ≤ (l.length : Int) := ⟨by omega, g2, he2⟩
          simp only [guardO, hg, if_true, and_self]
          rw [g3]
          obtain ⟨r, r1, r2⟩ := ih nx (by omega) hn2 (by omega) (by omega)
          generalize (if t = true then List.dropWhile (fun x => x == 9) (sub' l k e) else sub' l k e) = line at *
          by_cases hd : line = d
          · simp only [hd, if_true]
            by_cases he : e < (l.length : Int)
            · rw [if_pos he] at hnx ⊢
              rw [hnx]; exact ⟨nx, rfl, rfl⟩
            · rw [if_neg he] at hnx ⊢
              rw [hnx]; exact ⟨nx, rfl, rfl⟩
          · simp only [hd, if_false]
            by_cases he : e < (l.length : Int)
            · rw [if_pos he] at hnx ⊢
              rw [hnx]; exact ⟨r, r1, r2⟩
            · rw [if_neg he] at hnx ⊢
              rw [hnx]; exact ⟨r, r1, r2⟩
        cases t with
        | true =>
          obtain ⟨k', g1, g2, g3, g4⟩ := tab_loop l hl e he2 (fun x28 => if e < (l.length : Int) then guardO (0 ≤ x28 ∧ x28 ≤ e ∧ e ≤ (l.length : Int)) (if sub' l x28 e = d then some (W (e + 1)) else fixF (M_s_BodyEnd_L3 l d true fun _ => some (-1)) m (W (e + 1)))
              else guardO (0 ≤ x28 ∧ x28 ≤ e ∧ e ≤ (l.length : Int)) (if sub' l x28 e = d then some e else fixF (M_s_BodyEnd_L3 l d true fun _ => some (-1)) m e)) FUEL k hk he1 (by rw [fuel_eq]; omega) (by rw [fuel_eq]; omega)
          rw [g3]
          exact fin k' g1 g2 (by simpa using g4)
        | false =>
          rw [tab_none]
          exact fin k (Int.le_refl _) he1 (by simp)
      have hi : ∀ (line : List UInt8) (nx : Int), (line.length : Int) ≤ 1048576 →
          (bif t then bindO (M_strings_TrimLeft line [9]) fun (y17 : List UInt8) => (if y17 = d then some nx else fixF (M_i_BodyEnd_L1 l d t fun _ => some (-1)) m nx) else (if line = d then some nx else fixF (M_i_BodyEnd_L1 l d t fun _ => some (-1)) m nx)) =
          (bif decide ((if t then line.dropWhile (· == 9) else line) = d) then some nx else fixF (M_i_BodyEnd_L1 l d t fun _ => some (-1)) m nx) := by
        intro line nx hline
        cases t with
        | true => simp only [cond_true]; rw [bindO_of (trim_eq line hline)]; simp
        | false => simp
      have hee := fun j => end_loop l hl j FUEL k hk hk' (by rw [fuel_eq]; omega) (by rw [fuel_eq]; omega)
      generalize hp : Lib.indexByte (l.drop k.toNat) 10 = p at *
      by_cases h2 : p < 0
      · obtain ⟨r, r1, r2⟩ := key (l.length : Int) (l.length : Int) hk' (Int.le_refl _) h1 (Int.le_refl _) (fun j => by rw [hee]; simp [h2]) (by simp)
        refine ⟨r, r1, ?_⟩
        simp only [fixF, M_i_BodyEnd_L1, joinO, Bool.cond_decide, h1, if_true, guardO, M_strings_IndexByte, bindO, hs, hp, hk, hk', Int.le_refl, and_self]
        rw [if_neg (by omega)]
        rw [hs] at r2
        have := hi (l.drop k.toNat) (l.length : Int) (by simp; omega)
        simp only [bindO] at this
        rw [this]
        exact r2
      · have hpl := hz (by omega)
        have w1 : W (k + p + 1) = k + p + 1 := W_eq (by omega) (by omega)
        have w2 : W (k + p) = k + p := W_eq (by omega) (by omega)
        obtain ⟨r, r1, r2⟩ := key (k + p) (k + p + 1) (by omega) (by omega) (by omega) (by omega) (fun j => by rw [hee]; simp [h2]) (by rw [if_pos (by omega), w1])
        refine ⟨r, r1, ?_⟩
        simp only [fixF, M_i_BodyEnd_L1, joinO, Bool.cond_decide, h1, if_true, guardO, M_strings_IndexByte, bindO, hs, hp, hk, hk', Int.le_refl, and_self]
        have c1 : 0 ≤ p := by omega
        have c2 : (0 : Int) ≤ 0 ∧ 0 ≤ p ∧ p ≤ ((l.drop k.toNat).length : Int) := ⟨by omega, by omega, by simp; omega⟩
        rw [w2, w1]
        simp only [c1, if_true, true_and, show p ≤ ((l.drop k.toNat).length : Int) from c2.2.2]
        have hsub : sub' (l.drop k.toNat) 0 p = sub' l k (k + p) := by
          unfold sub'
          simp only [Int.toNat_zero, List.drop_zero, Nat.sub_zero]
          congr 1; omega
        rw [hsub]
        have hlen : ((sub' l k (k + p)).length : Int) ≤ 1048576 := by unfold sub'; simp; omega
        have := hi (sub' l k (k + p)) (k + p + 1) hlen
        simp only [bindO] at this
        rw [this]
        exact r2
    · simp only [fixF, M_s_BodyEnd_L3, M_i_BodyEnd_L1, Bool.cond_decide, h1, if_false]
      exact ⟨-1, rfl, rfl⟩

theorem law_BodyEnd (l : List UInt8) (a : Int) (d : List UInt8) (t : Bool) (hw : (Lit.int .i64 a).wf = true) : M_l_FnExactBodyEnd l a d t = some true := by
  simp only [M_l_FnExactBodyEnd, Bool.cond_decide]
  split
  · rfl
  · split
    · rfl
    · rename_i h _
      obtain ⟨r, r1, r2⟩ := body_loop l d t (by omega) FUEL (max 0 (min a l.length)) (by omega) (by omega) (by rw [fuel_eq]; omega) (by rw [fuel_eq]; omega)
      have e1 : M_s_BodyEnd l a d t = some r := by
        unfold M_s_BodyEnd
        rw [clamp_eq _ _ (by omega)]
        simp only [bindO, joinO]
        exact r1
      have e2 : M_i_BodyEnd l a d t = some r := by
        unfold M_i_BodyEnd M_i_within
        simp only [bindO, joinO]
        exact r2
      rw [bindO_of e1, bindO_of e2]
      simp

end Go.Eng

namespace Go.Proofs.YtmgjbhlcejcjeaaDoor.fnExactBodyEnd
open Go.ChangeShapes Go.WideShapes Go.ChangeAt Go.RowKit Go.Eng
open Go.ChangeMaps (open_string shut_string)

theorem own : ownKnob Tryd.prog.godebug = none := by kernel_rfl
theorem laidOut : laidOutB Tryd.prog = true := by kernel_rfl

theorem walk (a0 : ByteArray) (a1 : Int) (a2 : ByteArray) (a3 : Bool) (w : World) (w0 : a0.size ≤ maxLen) (w1 : (Lit.int .i64 a1).wf = true) (w2 : a2.size ≤ maxLen) :
    Calls Tryd.prog 6 #[.string a0, .int .i64 a1, .string a2, .bool a3] w fun e w' => e = .returned (.bool true) ∧ Below w.heap.size w w' := by
  have h := ok_l_FnExactBodyEnd a0.data.toList a1 a2.data.toList a3  true (law_BodyEnd a0.data.toList a1 a2.data.toList a3 w1)
  refine Calls.mono (h.calls w ?_) ?_
  · intro x hx
    cases hx
  · rintro e w' ⟨r, -, he, hk, -⟩
    exact ⟨he, hk.below⟩

def laid : List (String × DataW Unit) := [("unicode/utf8.acceptRanges", Rows.laid_unicode_utf8_acceptRanges), ("unicode/utf8.first", Rows.laid_unicode_utf8_first)]

set_option maxRecDepth 100000 in
theorem lifted (os : Os) (started : os.Started) (H : Type) (enc : TypeId × Value → H) :
    ReturnsInHanded {} Tryd.checked os 6 .any (fun w args => (Rows.fnExactBodyEndSpec.pre enc Tryd.prog Tryd.f6 [] false w args ∧ laidMetH Tryd.prog laid w) ∧ sizedMet enc Tryd.prog Tryd.f6 (OpenSpec.ofChange Rows.fnExactBodyEndSpec) false w args) (Rows.fnExactBodyEndSpec.post enc Tryd.prog Tryd.f6 false true false false) := by
  refine returnsInHanded_of_change_and (C := Tryd.checked) (X := fun w _ => laidMetH Tryd.prog laid w) (fun _ _ _ hh h => h.of_heap hh) own started (by kernel_rfl) Tryd.func6
    (ChangeSpec.witness_shaped (enc := enc) (C := Tryd.checked) (os := os) (X := fun w _ => laidMetH Tryd.prog laid w) false (World.laidAll Tryd.prog os laid) #[.string ByteArray.empty, .int .i64 0, .string ByteArray.empty, .bool false] 8 (World.laidAll_os _ _ _)
      (World.shaped_of_ZipB (by kernel_rfl) (by kernel_rfl)) (by kernel_rfl) (by kernel_rfl) (by kernel_rfl)
      (by rw [MakeChecks.laidMetH_plain _ _ _ (by kernel_rfl)]; exact laidMet_laidAll _ (by kernel_rfl) (by kernel_rfl))) ?_
  intro W base args ds gs before hval0 hW _ _ _ _
  have hval : ∀ (j : Nat) t v, Tryd.f6.params[j]? = some t → args[j]? = some v → Value.okWide Tryd.prog W .any base t v := hval0
  have hW' := hW
  obtain ⟨p, q, hA0, hV, rfl, hfz, hnd⟩ := hW
  have hA : DataW.TrodAll enc Tryd.prog W 0 (fun _ => true) true Tryd.f6.params.toList args.toList ds p := hA0
  rw [Tryd.params6] at hA hval
  obtain ⟨v0, vs0, d0, ds0, p0, q0, hargs, rfl, rfl, h0, r0⟩ := trodAll_cons hA
  obtain ⟨v1, vs1, d1, ds1, p1, q1, rfl, rfl, rfl, h1, r1⟩ := trodAll_cons r0
  obtain ⟨v2, vs2, d2, ds2, p2, q2, rfl, rfl, rfl, h2, r2⟩ := trodAll_cons r1
  obtain ⟨v3, vs3, d3, ds3, p3, q3, rfl, rfl, rfl, h3, r3⟩ := trodAll_cons r2
  obtain ⟨rfl, rfl, rfl⟩ := trodAll_nil r3
  obtain rfl : args = #[v0, v1, v2, v3] := by cases args; simp_all
  obtain ⟨rfl, rfl⟩ := trodVars_none hV
  obtain ⟨a0, rfl, rfl, rfl, w0⟩ := open_string Tryd.underlying9 (hval 0 9 v0 rfl rfl) h0
  obtain ⟨a1, rfl, rfl, rfl, w1⟩ := open_int Tryd.underlying3 (hval 1 3 v1 rfl rfl) h1
  obtain ⟨a2, rfl, rfl, rfl, w2⟩ := open_string Tryd.underlying9 (hval 2 9 v2 rfl rfl) h2
  obtain ⟨a3, rfl, rfl, rfl⟩ := open_bool Tryd.underlying4 (hval 3 4 v3 rfl rfl) h3
  clear hA0 hval0
  simp only [List.append_nil] at hW'
  refine (walk a0 a1 a2 a3 W w0 w1 w2).mono fun e W' ⟨he, bel⟩ => ?_
  subst he
  exact ⟨_, rfl, _, _, _, [], _, [], hW', trodAll_mk1 (shut_bool Tryd.underlying4 _), (trodAll_cons_mk (shut_string Tryd.underlying9 w0) (trodAll_cons_mk (shut_int Tryd.underlying3 w1) (trodAll_cons_mk (shut_string Tryd.underlying9 w2) (trodAll_cons_mk (shut_bool Tryd.underlying4 _) trodAll_mk0)))), rfl, bel.frame _, fun h => by cases h⟩

theorem over : Rows.fnExactBodyEndRow.holds Tryd.pinned (OpenSpec.ofChange Rows.fnExactBodyEndSpec) :=
  OpenClaim.holds_of_wide 6 Tryd.f6 rfl rfl rfl rfl rfl rfl rfl ⟨rfl, rfl, rfl, rfl, rfl⟩ rfl rfl rfl rfl rfl (by kernel_rfl) Tryd.func6 (by kernel_rfl)
    (of_decide_eq_true (by kernel_rfl)) (by unfold Func.isWrapper; first | (rw [if_pos (by decide +kernel)]; kernel_rfl) | (rw [if_neg (by decide +kernel)]; exact ⟨rfl, rfl⟩))
    (fun os started H enc _ => lifted os started H enc)

theorem proved : Rows.FnExactBodyEndCardSaid :=
  Claim7.holds_tied_plain_at .later [] [.data, .pinned] true (true, "bdae59d36338ea300ae32452c4361782ce383cb194f4937c5c36d49d4b63354f") false
    over (fun _ h => by cases h) (by kernel_rfl) (fun _ h => by cases h) fnExactBodyEnd_row_tie rfl ⟨rfl, rfl⟩ (by kernel_rfl) rfl
    (fun f fn hf hfn => by
      obtain rfl : f = 6 := Option.some.inj ((show Tryd.prog.funcNamed "loop.example/g00600/laws.FnExactBodyEnd" = some 6 by kernel_rfl).symm.trans hf) |>.symm
      obtain rfl : fn = Tryd.f6 := (Option.some.inj (Tryd.func6.symm.trans hfn)).symm
      exact ⟨by kernel_rfl, fun j t ht => by
        rw [Tryd.params6] at ht
        have hm : t ∈ [9, 3, 9, 4] := by simpa using Array.mem_of_getElem? ht
        have hall : ([9, 3, 9, 4].all fun u => !Tryd.prog.wantsStandIn u) = true := by kernel_rfl
        exact (show Tryd.prog.wantsStandIn t = false by simpa using List.all_eq_true.1 hall t hm)⟩)
    (by kernel_rfl)
#print axioms proved
end Go.Proofs.YtmgjbhlcejcjeaaDoor.fnExactBodyEnd
