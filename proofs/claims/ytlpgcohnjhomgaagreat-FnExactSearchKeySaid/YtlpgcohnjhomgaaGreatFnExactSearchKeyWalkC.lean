/- The walks of the functions that FnExactSearchKey reaches: what each computes, as a plain function (M_..), and that the model computes it (ok_..). Condition of each: that the plain function answers. -/
import Derived.Test.YtlpgcohnjhomgaaGreatFnExactSearchKeyWalkB
set_option linter.unusedVariables false
set_option linter.unusedSimpArgs false
namespace Go.Eng
open Go Go.Proofs
noncomputable section

theorem bindO_eq {α β : Type} {m : Option α} {k : α → Option β} {y : α} (h : m = some y) : bindO m k = k y := by rw [h]; rfl
theorem u32W (x : Int) : IntKind.u32.wrap x = x % 4294967296 := by
  simp [IntKind.wrap, IntKind.bits, IntKind.signed]
theorem atN (l : List UInt8) (k : Nat) (h : k < l.length) : at' l (k : Int) = l[k] := by
  simp [at', List.getD, List.getElem?_eq_getElem h]
theorem takeS (l : List UInt8) (k : Nat) (h : k < l.length) : l.take (k + 1) = l.take k ++ [at' l (k : Int)] := by
  rw [atN l k h, List.take_add_one, List.getElem?_eq_getElem h]; rfl
theorem Wn {x : Int} (h1 : -9000000000000000000 ≤ x) (h2 : x ≤ 9000000000000000000) : W x = x := W_eq (by omega) (by omega)

theorem hash_loop (x0 : List UInt8) (hl : x0.length < 4294967281) (j : Int → Option (Int × Int)) : ∀ (m k : Nat), k ≤ x0.length → x0.length - k < m →
    fixF (M_internal_bytealg_hashStrstring_L1 x0 j) m (Lib.RK.H (x0.take k) % 4294967296, (k : Int)) = j (Lib.RK.H x0 % 4294967296) := by
  intro m
  induction m with
  | zero => intro k _ h; omega
  | succ m ih =>
    intro k h1 hm
    simp only [fixF, M_internal_bytealg_hashStrstring_L1, guardO, Bool.cond_decide]
    by_cases hk : k < x0.length
    · rw [if_pos (by omega), if_pos (by omega), Wn (by omega) (by omega)]
      simp only [u32W]
      rw [Lib.RK.step_mod (at' x0 (k : Int)) rfl, ← Lib.RK.H_snoc, ← takeS x0 k hk]
      exact ih (k + 1) (by omega) (by omega)
    · rw [if_neg (by omega)]
      obtain rfl : k = x0.length := by omega
      rw [List.take_length]

theorem and1 (i : Nat) (h : i < 4294967296) : W (((BitVec.ofInt (IntKind.bits .i64) (i : Int) &&& BitVec.ofInt (IntKind.bits .i64) 1).toNat : Nat) : Int) = ((i % 2 : Nat) : Int) := by
  have e : (BitVec.ofInt (IntKind.bits .i64) (i : Int) &&& BitVec.ofInt (IntKind.bits .i64) 1).toNat = i % 2 := by
    rw [BitVec.toNat_and]
    have e1 : (BitVec.ofInt (IntKind.bits .i64) (i : Int)).toNat = i := by
      rw [BitVec.toNat_ofInt]
      simp only [IntKind.bits]
      omega
    have e2 : (BitVec.ofInt (IntKind.bits .i64) 1).toNat = 1 := by decide
    rw [e1, e2, Nat.and_one_is_mod]
  rw [e, Wn (by omega) (by omega)]

theorem pow_loop (n : Nat) (hn : n < 4294967281) (j : Int → Option (Int × Int)) : ∀ (m i : Nat) (pw sq : Int), i ≤ n → i < m → Lib.RK.PowInv n i pw sq → 0 ≤ pw → pw < 4294967296 →
    fixF (M_internal_bytealg_hashStrstring_L2 j) m (pw, sq, (i : Int)) = j (16777619 ^ n % 4294967296) := by
  intro m
  induction m with
  | zero => intro i _ _ _ h; omega
  | succ m ih =>
    intro i pw sq hi hm hp p0 p1
    simp only [fixF, M_internal_bytealg_hashStrstring_L2, joinO, Bool.cond_decide]
    by_cases hk : 0 < i
    · have ed : Int.fdiv (i : Int) (2 ^ (min (Int.toNat 1) (IntKind.bits .i64))) = ((i / 2 : Nat) : Int) := by
        rw [show (2 : Int) ^ (min (Int.toNat 1) (IntKind.bits .i64)) = 2 from by decide, Int.fdiv_eq_ediv_of_nonneg _ (by omega)]
        omega
      rw [if_pos (by omega), and1 i (by omega), ed]
      simp only [u32W]
      rcases Nat.mod_two_eq_zero_or_one i with h2 | h2
      · rw [h2, decide_eq_true (show ((0 : Nat) : Int) = 0 from rfl)]
        exact ih (i / 2) pw _ (by omega) (by omega) (Lib.RK.pow_even hp h2) p0 p1
      · rw [h2, decide_eq_false (show ¬ ((1 : Nat) : Int) = 0 by decide)]
        exact ih (i / 2) _ _ (by omega) (by omega) (Lib.RK.pow_odd hp h2) (Int.emod_nonneg _ (by decide)) (Int.emod_lt_of_pos _ (by decide))
    · rw [if_neg (by omega)]
      obtain rfl : i = 0 := by omega
      rw [Lib.RK.pow_end hp p0 p1]

theorem hashStr_eq (x0 : List UInt8) (hl : x0.length < 4294967281) : M_internal_bytealg_hashStrstring x0 = some (Lib.RK.H x0 % 4294967296, 16777619 ^ x0.length % 4294967296) := by
  unfold M_internal_bytealg_hashStrstring
  simp only [joinO]
  refine (hash_loop x0 hl _ FUEL 0 (by omega) (by have := fuel_eq; omega)).trans ?_
  exact pow_loop x0.length hl _ FUEL x0.length 1 16777619 (by omega) (by have := fuel_eq; omega) (Lib.RK.pow_start _) (by decide) (by decide)

theorem occ_sub (s sub : List UInt8) (i : Nat) (h : i + sub.length ≤ s.length) : Lib.occAt s sub i = decide (sub' s (i : Int) ((i : Int) + (sub.length : Int)) = sub) := by
  rw [Lib.RK.occAt_win s sub i h]
  have : sub' s (i : Int) ((i : Int) + (sub.length : Int)) = Lib.RK.win s i sub.length := by
    unfold sub' Lib.RK.win
    rw [show ((i : Int) + (sub.length : Int)).toNat - (i : Int).toNat = sub.length by omega, Int.toNat_natCast]
  rw [this]
  by_cases h : Lib.RK.win s i sub.length = sub <;> simp [h]

theorem rk_loop1 (x0 x1 : List UInt8) (hl : x0.length < 4294967281) (h2 : x1.length ≤ x0.length) (j : Int → Option Int) : ∀ (m k : Nat), k ≤ x1.length → x1.length - k < m →
    fixF (M_internal_bytealg_IndexRabinKarpstring_L1 x0 x1 j) m (Lib.RK.H (x0.take k) % 4294967296, (k : Int)) = j (Lib.RK.H (x0.take x1.length) % 4294967296) := by
  intro m
  induction m with
  | zero => intro k _ h; omega
  | succ m ih =>
    intro k h1 hm
    simp only [fixF, M_internal_bytealg_IndexRabinKarpstring_L1, guardO, Bool.cond_decide]
    by_cases hk : k < x1.length
    · rw [if_pos (by omega), if_pos (by omega), Wn (by omega) (by omega)]
      simp only [u32W]
      rw [Lib.RK.step_mod (at' x0 (k : Int)) rfl, ← Lib.RK.H_snoc, ← takeS x0 k (by omega)]
      exact ih (k + 1) (by omega) (by omega)
    · rw [if_neg (by omega)]
      obtain rfl : k = x1.length := by omega
      rfl

theorem rk_loop2 (x0 x1 : List UInt8) (hl : x0.length < 4294967281) (h1 : 1 ≤ x1.length) : ∀ (m q : Nat), q + x1.length ≤ x0.length → Lib.NoOcc x0 x1 (q + 1) → x0.length - q < m →
    fixF (M_internal_bytealg_IndexRabinKarpstring_L2 x0 x1 (Lib.RK.H x1 % 4294967296) (16777619 ^ x1.length % 4294967296) fun _ => some (-1)) m (Lib.RK.H (Lib.RK.win x0 q x1.length) % 4294967296, ((q + x1.length : Nat) : Int)) = some (Lib.index x0 x1) := by
  intro m
  induction m with
  | zero => intro q _ _ h; omega
  | succ m ih =>
    intro q hq hno hm
    simp only [fixF, M_internal_bytealg_IndexRabinKarpstring_L2, guardO, Bool.cond_decide]
    by_cases hk : q + x1.length < x0.length
    · rw [if_pos (by omega), if_pos (by omega), Wn (x := ((q + x1.length : Nat) : Int) - (x1.length : Int)) (by omega) (by omega), Wn (x := ((q + x1.length : Nat) : Int) + 1) (by omega) (by omega), Wn (by omega) (by omega)]
      rw [if_pos (by omega)]
      have ei : ((q + x1.length : Nat) : Int) - (x1.length : Int) = (q : Int) := by omega
      have ej : ((q + x1.length : Nat) : Int) + 1 - (x1.length : Int) = ((q + 1 : Nat) : Int) := by omega
      rw [ei, ej]
      simp only [u32W]
      obtain ⟨n, hn⟩ : ∃ n, x1.length = n + 1 := ⟨x1.length - 1, by omega⟩
      have hw := Lib.RK.win_cons x0 q n (by omega)
      have hs := Lib.RK.win_snoc x0 (q + 1) n (by omega)
      have hr := Lib.RK.roll_mod (h := Lib.RK.H (Lib.RK.win x0 q x1.length) % 4294967296) (pw := 16777619 ^ x1.length % 4294967296) (x0[q]'(by omega)) (x0[q + 1 + n]'(by omega)) (Lib.RK.win x0 (q + 1) n) (by rw [hn, hw]) (by rw [hn, Lib.RK.win_length _ _ _ (by omega)])
      rw [← hs, ← hn] at hr
      have ea : at' x0 ((q + x1.length : Nat) : Int) = x0[q + 1 + n]'(by omega) := by rw [atN x0 _ (by omega)]; congr 1; omega
      have eb : at' x0 (q : Int) = x0[q]'(by omega) := atN x0 _ (by omega)
      rw [ea, eb]
      have eh : ((Lib.RK.H (Lib.RK.win x0 q x1.length) % 4294967296 * 16777619 % 4294967296 + ((x0[q + 1 + n]'(by omega)).toNat : Int) % 4294967296) % 4294967296 - 16777619 ^ x1.length % 4294967296 * (((x0[q]'(by omega)).toNat : Int) % 4294967296) % 4294967296) % 4294967296 = Lib.RK.H (Lib.RK.win x0 (q + 1) x1.length) % 4294967296 := by
        rw [← hr]
        generalize 16777619 ^ x1.length % 4294967296 * (((x0[q]'(by omega)).toNat : Int) % 4294967296) = T
        generalize Lib.RK.H (Lib.RK.win x0 q x1.length) % 4294967296 = A
        omega
      rw [eh]
      have hocc := occ_sub x0 x1 (q + 1) (by omega)
      have ew : sub' x0 ((q + 1 : Nat) : Int) (((q + x1.length : Nat) : Int) + 1) = sub' x0 ((q + 1 : Nat) : Int) (((q + 1 : Nat) : Int) + (x1.length : Int)) := by congr 1; omega
      rw [ew]
      have hnext : Lib.occAt x0 x1 (q + 1) = false → fixF (M_internal_bytealg_IndexRabinKarpstring_L2 x0 x1 (Lib.RK.H x1 % 4294967296) (16777619 ^ x1.length % 4294967296) fun _ => some (-1)) m (Lib.RK.H (Lib.RK.win x0 (q + 1) x1.length) % 4294967296, ((q + x1.length : Nat) : Int) + 1) = some (Lib.index x0 x1) := by
        intro ho
        have := ih (q + 1) (by omega) (hno.succ ho) (by omega)
        rw [show ((q + x1.length : Nat) : Int) + 1 = ((q + 1 + x1.length : Nat) : Int) by omega]
        exact this
      rw [if_pos (fun _ => by omega)]
      by_cases hh : Lib.RK.H (Lib.RK.win x0 (q + 1) x1.length) % 4294967296 = Lib.RK.H x1 % 4294967296
      · rw [if_pos hh]
        by_cases hx : sub' x0 ((q + 1 : Nat) : Int) (((q + 1 : Nat) : Int) + (x1.length : Int)) = x1
        · rw [decide_eq_true hx, cond_true]
          rw [decide_eq_true hx] at hocc
          rw [Lib.index_hit hno (by omega) hocc]
        · rw [decide_eq_false hx, cond_false]
          rw [decide_eq_false hx] at hocc
          exact hnext hocc
      · rw [if_neg hh, cond_false]
        refine hnext ?_
        rw [Lib.RK.occAt_win x0 x1 (q + 1) (by omega)]
        exact beq_eq_false_iff_ne.2 (Lib.RK.hash_ne rfl rfl hh)
    · rw [if_neg (by omega)]
      rw [Lib.index_past (by intro h; rw [h] at h1; simp at h1) hno (by omega)]

theorem rk_eq (x0 x1 : List UInt8) (hl : x0.length < 4294967281) (h1 : 1 ≤ x1.length) (h2 : x1.length ≤ x0.length) : M_internal_bytealg_IndexRabinKarpstring x0 x1 = some (Lib.index x0 x1) := by
  unfold M_internal_bytealg_IndexRabinKarpstring
  rw [bindO_eq (hashStr_eq x1 (by omega))]
  simp only [joinO]
  refine (rk_loop1 x0 x1 hl h2 _ FUEL 0 (by omega) (by have := fuel_eq; omega)).trans ?_
  simp only [guardO]
  rw [if_pos (fun _ => by omega)]
  have hocc := occ_sub x0 x1 0 (by omega)
  have ew : sub' x0 0 (x1.length : Int) = sub' x0 ((0 : Nat) : Int) (((0 : Nat) : Int) + (x1.length : Int)) := by congr 1; omega
  rw [ew]
  have hnext : Lib.occAt x0 x1 0 = false → fixF (M_internal_bytealg_IndexRabinKarpstring_L2 x0 x1 (Lib.RK.H x1 % 4294967296) (16777619 ^ x1.length % 4294967296) fun _ => some (-1)) FUEL (Lib.RK.H (x0.take x1.length) % 4294967296, (x1.length : Int)) = some (Lib.index x0 x1) := by
    intro ho
    have := rk_loop2 x0 x1 hl h1 FUEL 0 (by omega) ((Lib.NoOcc.zero x0 x1).succ ho) (by have := fuel_eq; omega)
    rw [show ((0 + x1.length : Nat) : Int) = (x1.length : Int) by omega] at this
    exact this
  by_cases hh : Lib.RK.H (x0.take x1.length) % 4294967296 = Lib.RK.H x1 % 4294967296
  · rw [decide_eq_true hh, cond_true]
    by_cases hx : sub' x0 ((0 : Nat) : Int) (((0 : Nat) : Int) + (x1.length : Int)) = x1
    · rw [decide_eq_true hx, cond_true]
      rw [decide_eq_true hx] at hocc
      rw [Lib.index_hit (Lib.NoOcc.zero _ _) (by omega) hocc]
      rfl
    · rw [decide_eq_false hx, cond_false]
      rw [decide_eq_false hx] at hocc
      exact hnext hocc
  · rw [decide_eq_false hh, cond_false, cond_false]
    refine hnext ?_
    rw [Lib.RK.occAt_win x0 x1 0 (by omega)]
    exact beq_eq_false_iff_ne.2 (Lib.RK.hash_ne rfl rfl hh)

theorem index1 : ∀ (s : List UInt8) (c : UInt8), Lib.index s [c] = Lib.indexByte s c
  | [], c => by simp [Lib.index, Lib.indexByte]
  | b :: l, c => by
    rw [Lib.index, Lib.indexByte, index1 l c]
    by_cases h : b = c
    · subst h; simp [List.isPrefixOf]
    · have h1 : (b == c) = false := beq_eq_false_iff_ne.2 h
      have h2 : (c == b) = false := beq_eq_false_iff_ne.2 fun e => h e.symm
      simp [List.isPrefixOf, h1, h2]

theorem ixSubDrop (s : List UInt8) (i : Nat) (h : i ≤ s.length) : sub' s (i : Int) (s.length : Int) = s.drop i := by
  unfold sub'
  rw [List.take_of_length_le (by rw [List.length_drop]; omega), Int.toNat_natCast]

theorem ixByteEq (a b : UInt8) : ((a.toNat : Int) = (b.toNat : Int)) ↔ a = b := by
  constructor
  · intro h
    exact UInt8.toNat_inj.1 (by omega)
  · intro h; rw [h]

theorem index_loop (x0 x1 : List UInt8) (gm : Int) (hl : x0.length < 4294967281) (h2 : 2 ≤ x1.length) (hn : x1.length < x0.length) : ∀ (m i : Nat) (f : Int), i + x1.length ≤ x0.length + 1 → 0 ≤ f → f ≤ (i : Int) → Lib.NoOcc x0 x1 i → x0.length + 1 - i < m →
    fixF (M_internal_stringslite_Index_L1 x0 x1 gm fun _ => some (-1)) m ((i : Int), f) = some (Lib.index x0 x1) := by
  obtain ⟨c0, c1, tl, hx⟩ : ∃ c0 c1 tl, x1 = c0 :: c1 :: tl := by
    match x1, h2 with
    | a :: b :: t, _ => exact ⟨a, b, t, rfl⟩
  have e0 : at' x1 0 = c0 := by rw [hx]; rfl
  have e1 : at' x1 1 = c1 := by rw [hx]; rfl
  intro m
  induction m with
  | zero => intro i _ _ _ _ _ h; omega
  | succ m ih =>
    intro i f hi f0 f1 hno hm
    simp only [fixF, M_internal_stringslite_Index_L1, joinO, guardO]
    rw [Wn (x := (x0.length : Int) - (x1.length : Int)) (by omega) (by omega), Wn (x := (x0.length : Int) - (x1.length : Int) + 1) (by omega) (by omega), Wn (x := (i : Int) + 1) (by omega) (by omega), Wn (x := f + 1) (by omega) (by omega), e0, e1]
    have J : ∀ q : Nat, i ≤ q → q + x1.length ≤ x0.length → Lib.NoOcc x0 x1 q →
        (if 0 ≤ W ((q : Int) + 1) ∧ W ((q : Int) + 1) < (x0.length : Int) then
          if decide (((at' x0 (W ((q : Int) + 1))).toNat : Int) = (c1.toNat : Int)) = true → 0 ≤ (q : Int) ∧ (q : Int) ≤ W ((q : Int) + (x1.length : Int)) ∧ W ((q : Int) + (x1.length : Int)) ≤ (x0.length : Int) then
            bif bif decide (((at' x0 (W ((q : Int) + 1))).toNat : Int) = (c1.toNat : Int)) then decide (sub' x0 (q : Int) (W ((q : Int) + (x1.length : Int))) = x1) else false then some (q : Int)
            else
              callO (decide ((x1.length : Int) ≤ gm) = true) (M_internal_bytealg_Cutover (W ((q : Int) + 1))) (0 : Int) fun (y26 : Int) =>
                bif bif decide ((x1.length : Int) ≤ gm) then decide (y26 < f + 1) else false then
                  if 0 ≤ W ((q : Int) + 1) ∧ W ((q : Int) + 1) ≤ (x0.length : Int) ∧ (x0.length : Int) ≤ (x0.length : Int) then
                    bindO (M_internal_bytealg_IndexString gm (sub' x0 (W ((q : Int) + 1)) (x0.length : Int)) x1) fun (y30 : Int) =>
                      bif decide (0 ≤ y30) then some (W (y30 + W ((q : Int) + 1))) else some (-1)
                  else none
                else
                  bif bif bif decide (gm < (x1.length : Int)) then decide (W (4 + Int.fdiv (W ((q : Int) + 1)) (2 ^ (min (Int.toNat 4) (IntKind.bits .i64)))) ≤ f + 1) else false then decide (W ((q : Int) + 1) < (x0.length : Int) - (x1.length : Int) + 1) else false then
                    if 0 ≤ W ((q : Int) + 1) ∧ W ((q : Int) + 1) ≤ (x0.length : Int) ∧ (x0.length : Int) ≤ (x0.length : Int) then
                      bindO (M_internal_bytealg_IndexRabinKarpstring (sub' x0 (W ((q : Int) + 1)) (x0.length : Int)) x1) fun (y37 : Int) =>
                        bif decide (y37 < 0) then some (-1) else some (W (W ((q : Int) + 1) + y37))
                    else none
                  else fixF (M_internal_stringslite_Index_L1 x0 x1 gm fun _ => some (-1)) m (W ((q : Int) + 1), f + 1)
          else none
        else none) = some (Lib.index x0 x1) := by
      intro q hq1 hq2 hnq
      rw [Wn (x := (q : Int) + 1) (by omega) (by omega), Wn (x := (q : Int) + (x1.length : Int)) (by omega) (by omega), if_pos (by omega), if_pos (fun _ => by omega)]
      have hocc := occ_sub x0 x1 q hq2
      have ec : ((q : Int) + 1) = ((q + 1 : Nat) : Int) := by omega
      have next : Lib.occAt x0 x1 q = false →
          (callO (decide ((x1.length : Int) ≤ gm) = true) (M_internal_bytealg_Cutover ((q : Int) + 1)) (0 : Int) fun (y26 : Int) =>
                bif bif decide ((x1.length : Int) ≤ gm) then decide (y26 < f + 1) else false then
                  if 0 ≤ (q : Int) + 1 ∧ (q : Int) + 1 ≤ (x0.length : Int) ∧ (x0.length : Int) ≤ (x0.length : Int) then
                    bindO (M_internal_bytealg_IndexString gm (sub' x0 ((q : Int) + 1) (x0.length : Int)) x1) fun (y30 : Int) =>
                      bif decide (0 ≤ y30) then some (W (y30 + ((q : Int) + 1))) else some (-1)
                  else none
                else
                  bif bif bif decide (gm < (x1.length : Int)) then decide (W (4 + Int.fdiv ((q : Int) + 1) (2 ^ (min (Int.toNat 4) (IntKind.bits .i64)))) ≤ f + 1) else false then decide ((q : Int) + 1 < (x0.length : Int) - (x1.length : Int) + 1) else false then
                    if 0 ≤ (q : Int) + 1 ∧ (q : Int) + 1 ≤ (x0.length : Int) ∧ (x0.length : Int) ≤ (x0.length : Int) then
                      bindO (M_internal_bytealg_IndexRabinKarpstring (sub' x0 ((q : Int) + 1) (x0.length : Int)) x1) fun (y37 : Int) =>
                        bif decide (y37 < 0) then some (-1) else some (W ((q : Int) + 1 + y37))
                    else none
                  else fixF (M_internal_stringslite_Index_L1 x0 x1 gm fun _ => some (-1)) m ((q : Int) + 1, f + 1)) = some (Lib.index x0 x1) := by
        intro ho
        have hn1 := hnq.succ ho
        have hdr := Lib.index_drop hn1 (by omega)
        have hge := Lib.index_ge (x0.drop (q + 1)) x1
        have hroom := Lib.index_room (x0.drop (q + 1)) x1
        rw [List.length_drop] at hroom
        have hcont := ih (q + 1) (f + 1) (by omega) (by omega) (by omega) hn1 (by omega)
        have hs1 : sub' x0 ((q : Int) + 1) (x0.length : Int) = x0.drop (q + 1) := by rw [ec]; exact ixSubDrop x0 (q + 1) (by omega)
        have hfin : ∀ r : Int, r = Lib.index (x0.drop (q + 1)) x1 → (if 0 ≤ r then r + ((q : Int) + 1) else -1) = Lib.index x0 x1 := by
          intro r hr
          rw [hdr, ← hr]
          rw [← hr] at hge
          by_cases h : r = -1
          · subst h; rfl
          · rw [show (r == -1) = false from beq_eq_false_iff_ne.2 h, if_pos (by omega), ec]; rfl
        rw [← ec] at hcont
        rw [show M_internal_bytealg_Cutover ((q : Int) + 1) = some (W (Int.tdiv (W ((q : Int) + 1 + 16)) 8)) from rfl]
        rw [hs1]
        have key : ∀ y26 : Int, (bif bif decide ((x1.length : Int) ≤ gm) then decide (y26 < f + 1) else false then
                  if 0 ≤ (q : Int) + 1 ∧ (q : Int) + 1 ≤ (x0.length : Int) ∧ (x0.length : Int) ≤ (x0.length : Int) then
                    bindO (M_internal_bytealg_IndexString gm (x0.drop (q + 1)) x1) fun (y30 : Int) =>
                      bif decide (0 ≤ y30) then some (W (y30 + ((q : Int) + 1))) else some (-1)
                  else none
                else
                  bif bif bif decide (gm < (x1.length : Int)) then decide (W (4 + Int.fdiv ((q : Int) + 1) (2 ^ (min (Int.toNat 4) (IntKind.bits .i64)))) ≤ f + 1) else false then decide ((q : Int) + 1 < (x0.length : Int) - (x1.length : Int) + 1) else false then
                    if 0 ≤ (q : Int) + 1 ∧ (q : Int) + 1 ≤ (x0.length : Int) ∧ (x0.length : Int) ≤ (x0.length : Int) then
                      bindO (M_internal_bytealg_IndexRabinKarpstring (x0.drop (q + 1)) x1) fun (y37 : Int) =>
                        bif decide (y37 < 0) then some (-1) else some (W ((q : Int) + 1 + y37))
                    else none
                  else fixF (M_internal_stringslite_Index_L1 x0 x1 gm fun _ => some (-1)) m ((q : Int) + 1, f + 1)) = some (Lib.index x0 x1) := by
          intro y26
          have hp : 0 ≤ (q : Int) + 1 ∧ (q : Int) + 1 ≤ (x0.length : Int) ∧ (x0.length : Int) ≤ (x0.length : Int) := by omega
          cases hb : (bif decide ((x1.length : Int) ≤ gm) then decide (y26 < f + 1) else false) with
          | true =>
            have hgm : (x1.length : Int) ≤ gm := by
              by_cases h : (x1.length : Int) ≤ gm
              · exact h
              · rw [decide_eq_false h] at hb; cases hb
            rw [cond_true, if_pos hp]
            have hi : M_internal_bytealg_IndexString gm (x0.drop (q + 1)) x1 = some (Lib.index (x0.drop (q + 1)) x1) := by
              unfold M_internal_bytealg_IndexString guardO
              rw [if_pos ⟨h2, hgm, by rw [List.length_drop]; omega⟩]
            rw [bindO_eq hi]
            have := hfin _ rfl
            generalize Lib.index (x0.drop (q + 1)) x1 = r at *
            by_cases h : 0 ≤ r
            · rw [decide_eq_true h, cond_true, Wn (by omega) (by omega)]
              rw [if_pos h] at this
              rw [this]
            · rw [decide_eq_false h, cond_false]
              rw [if_neg h] at this
              rw [this]
          | false =>
            rw [cond_false]
            cases hb2 : (bif bif decide (gm < (x1.length : Int)) then decide (W (4 + Int.fdiv ((q : Int) + 1) (2 ^ (min (Int.toNat 4) (IntKind.bits .i64)))) ≤ f + 1) else false then decide ((q : Int) + 1 < (x0.length : Int) - (x1.length : Int) + 1) else false) with
            | true =>
              have ht : (q : Int) + 1 < (x0.length : Int) - (x1.length : Int) + 1 := by
                by_cases h : (q : Int) + 1 < (x0.length : Int) - (x1.length : Int) + 1
                · exact h
                · rw [decide_eq_false h] at hb2
                  revert hb2
                  cases (bif decide (gm < (x1.length : Int)) then decide (W (4 + Int.fdiv ((q : Int) + 1) (2 ^ (min (Int.toNat 4) (IntKind.bits .i64)))) ≤ f + 1) else false) <;> intro h' <;> cases h'
              rw [cond_true, if_pos hp, bindO_eq (rk_eq (x0.drop (q + 1)) x1 (by rw [List.length_drop]; omega) (by omega) (by rw [List.length_drop]; omega))]
              have := hfin _ rfl
              generalize Lib.index (x0.drop (q + 1)) x1 = r at *
              by_cases h : r < 0
              · rw [decide_eq_true h, cond_true]
                rw [if_neg (by omega)] at this
                rw [this]
              · rw [decide_eq_false h, cond_false, Wn (by omega) (by omega)]
                rw [if_pos (by omega)] at this
                rw [← this]
                congr 1; omega
            | false =>
              rw [cond_false]
              exact hcont
        unfold callO
        split
        · exact key _
        · exact key _
      by_cases h1 : ((at' x0 ((q : Int) + 1)).toNat : Int) = (c1.toNat : Int)
      · rw [decide_eq_true h1, cond_true]
        by_cases hs : sub' x0 (q : Int) ((q : Int) + (x1.length : Int)) = x1
        · rw [decide_eq_true hs, cond_true]
          rw [decide_eq_true hs] at hocc
          rw [Lib.index_hit hnq (by omega) hocc]
        · rw [decide_eq_false hs, cond_false]
          rw [decide_eq_false hs] at hocc
          exact next hocc
      · rw [decide_eq_false h1, cond_false, cond_false]
        refine next ?_
        cases ho : Lib.occAt x0 x1 q with
        | false => rfl
        | true =>
          have := Lib.occAt_second hx ho
          rw [ec, atN x0 (q + 1) (by omega)] at h1
          rw [List.getElem?_eq_getElem (by omega)] at this
          exact absurd ((ixByteEq _ _).2 (Option.some.inj this)) h1
    by_cases hk : (i : Int) < (x0.length : Int) - (x1.length : Int) + 1
    · rw [decide_eq_true hk, cond_true, if_pos (by omega)]
      have hat := atN x0 i (by omega)
      by_cases hc : ((at' x0 (i : Int)).toNat : Int) = (c0.toNat : Int)
      · rw [decide_eq_true hc, Bool.not_true, cond_false]
        have := J i (Nat.le_refl _) (by omega) hno
        rw [Wn (x := (i : Int) + 1) (by omega) (by omega)] at this
        exact this
      · rw [decide_eq_false hc, Bool.not_false, cond_true, if_pos (by omega)]
        have h0 : x0[i]? ≠ some c0 := by
          rw [List.getElem?_eq_getElem (by omega), ← hat]
          intro h
          exact hc ((ixByteEq _ _).2 (Option.some.inj h))
        have hib : M_internal_stringslite_IndexByte (sub' x0 ((i : Int) + 1) ((x0.length : Int) - (x1.length : Int) + 1)) c0 = some (Lib.indexByte ((x0.drop (i + 1)).take ((x0.length - x1.length + 1) - (i + 1))) c0) := by
          have : sub' x0 ((i : Int) + 1) ((x0.length : Int) - (x1.length : Int) + 1) = (x0.drop (i + 1)).take ((x0.length - x1.length + 1) - (i + 1)) := by
            unfold sub'
            congr 1
            omega
          rw [this]; rfl
        rw [bindO_eq hib]
        have hge := Lib.indexByte_ge ((x0.drop (i + 1)).take ((x0.length - x1.length + 1) - (i + 1))) c0
        generalize ho : Lib.indexByte ((x0.drop (i + 1)).take ((x0.length - x1.length + 1) - (i + 1))) c0 = o at hge
        by_cases hneg : o < 0
        · rw [decide_eq_true hneg, cond_true]
          rw [Lib.index_skip_none (t := x0.length - x1.length + 1) hx hno h0 (by omega) (by rw [ho]; omega)]
        · rw [decide_eq_false hneg, cond_false]
          obtain ⟨on, rfl⟩ : ∃ on : Nat, o = (on : Int) := ⟨o.toNat, by omega⟩
          obtain ⟨s1, s2, s3⟩ := Lib.noOcc_skip (t := x0.length - x1.length + 1) hx hno h0 ho
          have hw : W ((i : Int) + W ((on : Int) + 1)) = ((i + on + 1 : Nat) : Int) := by
            rw [Wn (x := (on : Int) + 1) (by omega) (by omega), Wn (by omega) (by omega)]; omega
          have := J (i + on + 1) (by omega) (by omega) s1
          rw [hw]
          exact this
    · rw [decide_eq_false hk, cond_false]
      rw [Lib.index_past (by rw [hx]; simp) hno (by omega)]

theorem index_eq (gm : Int) (x0 x1 : List UInt8) (hl : x0.length < 4294967281) : M_strings_IndexG gm x0 x1 = some (Lib.index x0 x1) := by
  have main : M_internal_stringslite_Index gm x0 x1 = some (Lib.index x0 x1) := by
    unfold M_internal_stringslite_Index
    by_cases h0 : (x1.length : Int) = 0
    · obtain rfl : x1 = [] := List.length_eq_zero_iff.1 (by omega)
      rw [Lib.index_empty]; rfl
    rw [decide_eq_false h0, cond_false]
    by_cases hx : x1 = x0
    · subst hx
      rw [Lib.index_self, decide_eq_true rfl]; rfl
    rw [decide_eq_false hx, cond_false]
    by_cases h1 : (x1.length : Int) = 1
    · rw [decide_eq_true h1, cond_true]
      obtain ⟨c, rfl⟩ : ∃ c, x1 = [c] := List.length_eq_one_iff.1 (by omega)
      simp only [guardO]
      rw [if_pos (by simp), index1]
      rfl
    rw [decide_eq_false h1, cond_false]
    by_cases h2 : (x0.length : Int) ≤ (x1.length : Int)
    · rw [decide_eq_true h2, cond_true, Lib.index_long (by omega) hx]
    rw [decide_eq_false h2, cond_false]
    simp only [guardO, joinO]
    rw [if_pos (by omega), if_pos (by omega)]
    have hlp := index_loop x0 x1 gm hl (by omega) (by omega) FUEL 0 0 (by omega) (by omega) (by omega) (Lib.NoOcc.zero _ _) (by have := fuel_eq; omega)
    cases hb : (bif decide ((x1.length : Int) ≤ gm) then decide ((x0.length : Int) ≤ 64) else false) with
    | false => rw [cond_false]; exact hlp
    | true =>
      have hgm : (x1.length : Int) ≤ gm := by
        by_cases h : (x1.length : Int) ≤ gm
        · exact h
        · rw [decide_eq_false h] at hb; cases hb
      rw [cond_true]
      have hi : M_internal_bytealg_IndexString gm x0 x1 = some (Lib.index x0 x1) := by
        unfold M_internal_bytealg_IndexString guardO
        rw [if_pos ⟨by omega, hgm, hl⟩]
      rw [bindO_eq hi]
  unfold M_strings_IndexG
  rw [bindO_eq main]

def M_strings_Index (x0 : List UInt8) (x1 : List UInt8) : Option Int := guardO (x0.length < 4294967281) <| some (Lib.index x0 x1)

theorem ok_strings_Index (x0 : List UInt8) (x1 : List UInt8) (gm0 : Int) (r : Int) (h : M_strings_Index x0 x1 = some r) :
    FC Tryz.prog 60 [.string (bs x0), .string (bs x1)] [⟨(.int .i64), ⟨(some ⟨0, 0, none⟩), 1, 1⟩, [gm0]⟩] (fun _ : Unit => True) (fun _ => .int .i64 r) (fun _ => []) := by
  obtain ⟨h1, h⟩ := guardO_some h
  cases h
  exact ok_strings_IndexG x0 x1 gm0 _ (index_eq gm0 x0 x1 h1)

def M_strings_Contains (x0 : List UInt8) (x1 : List UInt8) : Option Bool :=
  (bindO (M_strings_Index x0 x1) fun (y3 : Int) =>
  some (decide (0 ≤ y3)))

theorem ok_strings_Contains (x0 : List UInt8) (x1 : List UInt8) (gm0 : Int) (r : Bool) (h : M_strings_Contains x0 x1 = some r) :
    FC Tryz.prog 240 [.string (bs x0), .string (bs x1)] [⟨(.int .i64), ⟨(some ⟨0, 0, none⟩), 1, 1⟩, [gm0]⟩] (fun _ : Unit => True) (fun _ => .bool r) (fun _ => []) :=
  by
    refine FC.of (T := TTx) Tryz.call240 Tryz.func240 rfl rfl fun w0 => ?_
    unfold M_strings_Contains at h
    refine JS.rg0 ttOk 1 [] ⟨trivial, rfl⟩ rfl rfl (JS.seq (JS.region (JO.reg ttOk 2 [] [] [(5, .v (.string (bs x0))), (6, .v (.string (bs x1)))] _ rfl ⟨(Es rfl), rfl⟩ ?_)))
    obtain ⟨y3, hy4, h⟩ := bindO_some h
    refine JO.call rfl rfl rfl rfl (ok_strings_Index x0 x1 gm0 _ hy4) rfl [0] rfl rfl fun _ _ => JO.reg ttOk 2 [] [] [(4, .v (.bool (decide (0 ≤ y3))))] _ rfl ⟨⟨rfl, trivial⟩, rfl⟩ (JO.done rfl ?_)
    cases h
    exact JS.ret ttOk () trivial rfl rfl [] rfl

def M_i_HistFind_L1 (x0 : Int × List (List UInt8)) (x1 : List UInt8) (x3 : Int) (x4 : Bool) (j48 : Unit → Option Int) (k40 : Int → Option Int) : Int → Option Int := fun x16 =>
  (bindO (M_i_in x16 x0.1 (W ((W (x0.1 + (x0.2.length : Int))) - 1))) fun (y21 : Bool) =>
  (bif y21 then
  (guardO (0 ≤ (W (x16 - x0.1)) ∧ (W (x16 - x0.1)) < (x0.2.length : Int)) <|
  (callO (x4 = true) (M_strings_HasPrefix (at' x0.2 (W (x16 - x0.1))) x1) false fun (y25 : Bool) =>
  (callO ((!x4) = true ∧ (bif x4 then y25 else false) = false) (M_strings_Contains (at' x0.2 (W (x16 - x0.1))) x1) false fun (y28 : Bool) =>
  (bif (bif (bif x4 then y25 else false) then true else (bif (!x4) then y28 else false)) then
  some x16
  else
  k40 (W (x16 + x3))))))
  else
  j48 ()))

def M_i_HistFind (x0 : Int × List (List UInt8)) (x1 : List UInt8) (x2 : Int) (x3 : Int) (x4 : Bool) : Option Int :=
  (bindO (M_i_HistOk x0) fun (y10 : Bool) =>
  (bif (bif (!y10) then true else (bif (!(decide (x3 = 1))) then (!(decide (x3 = (-1)))) else false)) then
  some 0
  else
  (joinO (fun (x13 : Int) =>
  (joinO (fun (_ : Unit) =>
  some 0) fun j48 =>
  (fixF (M_i_HistFind_L1 x0 x1 x3 x4 j48) FUEL x13))) fun j14 =>
  (bif (decide (x3 = 1)) then
  j14 (max x2 x0.1)
  else
  j14 (min x2 (W ((W (x0.1 + (x0.2.length : Int))) - 1)))))))

theorem ok_i_HistFind (x0 : Int × List (List UInt8)) (x1 : List UInt8) (x2 : Int) (x3 : Int) (x4 : Bool) (a6 : Option Addr) (c7 : Nat) (l8 : Nat) (hl9 : x0.2.length = l8) (gm0 : Int) (r : Int) (h : M_i_HistFind x0 x1 x2 x3 x4 = some r) :
    FC Tryz.prog 157 [.agg #[.int .i64 x0.1, .slice a6 l8 c7], .string (bs x1), .int .i64 x2, .int .i64 x3, .bool x4] [⟨.str, ⟨a6, l8, c7⟩, x0.2⟩, ⟨(.int .i64), ⟨(some ⟨0, 0, none⟩), 1, 1⟩, [gm0]⟩] (fun _ : Unit => True) (fun _ => .int .i64 r) (fun _ => []) :=
  by
    subst hl9
    refine FC.of (T := TTx) Tryz.call157 Tryz.func157 rfl rfl fun w0 => ?_
    unfold M_i_HistFind at h
    refine JS.rgB ttOk 2 [] [3] [(5, .bp 3 0)] (.new 3 50 [.int .i64 x0.1, .slice a6 x0.2.length c7] .nil) ⟨⟨rfl, trivial⟩, (Bs rfl rfl)⟩ rfl rfl (JS.seq (JS.seq (JS.region (JO.reg ttOk 1 [] [] [(14, .v (.agg #[.int .i64 x0.1, .slice a6 x0.2.length c7]))] _ rfl ⟨⟨rfl, trivial⟩, rfl⟩ ?_))))
    obtain ⟨y10, hy11, h⟩ := bindO_some h
    refine JO.call rfl rfl rfl rfl (ok_i_HistOk x0 a6 c7 x0.2.length rfl _ hy11) rfl [0] rfl rfl fun _ _ => JO.reg ttOk 9 [] [] [(24, .v (.bool (bif (!y10) then true else (bif (!(decide (x3 = 1))) then (!(decide (x3 = (-1)))) else false))))] _ rfl ⟨⟨rfl, trivial⟩, rfl⟩ (JO.done rfl ?_)
    refine JS.cond rfl (fun ht67 => ?_) (fun ht67 => ?_)
    · have h := condT h ht67
      refine JS.rg0 ttOk 1 [(10, .v (.int .i64 0))] ⟨⟨rfl, trivial⟩, rfl⟩ rfl rfl ?_
      cases h
      exact JS.ret ttOk () trivial rfl rfl [] rfl
    have h := condF h ht67
    refine JS.skip (JS.rg ttOk 8 [(W (x0.1 + (x0.2.length : Int))), (W ((W (x0.1 + (x0.2.length : Int))) - 1))] [] [(11, .v (.int .i64 (W ((W (x0.1 + (x0.2.length : Int))) - 1))))] _ ⟨⟨trivial, rfl⟩, ⟨trivial, rfl⟩, ⟨rfl, trivial⟩, rfl⟩ rfl rfl ?_)
    obtain ⟨j14, hj66, h⟩ := joinO_some h
    refine JS.seqJ (ι := Int) ⟨fun z => j14 z = some r, fun z => [(1, .v (.string (bs x1))), (2, .v (.int .i64 z)), (3, .v (.int .i64 x3)), (4, .v (.bool x4)), (5, .bp 3 0), (11, .v (.int .i64 (W ((W (x0.1 + (x0.2.length : Int))) - 1))))], fun z => (.new 3 50 [.int .i64 x0.1, .slice a6 x0.2.length c7] .nil), fun z => [⟨.str, ⟨a6, x0.2.length, c7⟩, x0.2⟩, ⟨(.int .i64), ⟨(some ⟨0, 0, none⟩), 1, 1⟩, [gm0]⟩], fun z => [], fun z => 0⟩ ?_ ?_
    · refine JS.rg0 ttOk 2 [(33, .v (.bool (decide (x3 = 1))))] ⟨⟨rfl, trivial⟩, rfl⟩ rfl rfl ?_
      refine JS.cond rfl (fun ht58 => ?_) (fun ht58 => ?_)
      · have h := condT h ht58
        refine JS.re0 ttOk 5 [(2, .v (.int .i64 (max x2 x0.1)))] ⟨⟨rfl, trivial⟩, rfl⟩ rfl rfl (JS.endJ (max x2 x0.1) h (Es rfl) (Bs rfl rfl) [0, 1] rfl [] rfl)
      have h := condF h ht58
      refine JS.re0 ttOk 4 [(2, .v (.int .i64 (min x2 (W ((W (x0.1 + (x0.2.length : Int))) - 1)))))] ⟨⟨rfl, trivial⟩, rfl⟩ rfl rfl (JS.endJ (min x2 (W ((W (x0.1 + (x0.2.length : Int))) - 1))) h (Es rfl) (Bs rfl rfl) [0, 1] rfl [] rfl)
    rintro x13 h
    subst hj66
    refine JS.seq (JS.rg0 ttOk 2 [(12, .v (.int .i64 x13))] ⟨⟨rfl, trivial⟩, rfl⟩ rfl rfl ?_)
    obtain ⟨j48, hj65, h⟩ := joinO_some h
    refine JS.blockJ (ι := Unit) ⟨fun _ => j48 () = some r, fun _ => [], fun _ => .nil, fun _ => [⟨(.int .i64), ⟨(some ⟨0, 0, none⟩), 1, 1⟩, [gm0]⟩], fun _ => [], fun _ => 0⟩ ?_ ?_
    · refine JS.loop (ι := Nat × Int) ⟨fun z => fixF (M_i_HistFind_L1 x0 x1 x3 x4 j48) z.1 z.2 = some r, fun z => [(1, .v (.string (bs x1))), (3, .v (.int .i64 x3)), (4, .v (.bool x4)), (5, .bp 3 0), (11, .v (.int .i64 (W ((W (x0.1 + (x0.2.length : Int))) - 1)))), (12, .v (.int .i64 z.2))], fun z => (.new 3 50 [.int .i64 x0.1, .slice a6 x0.2.length c7] .nil), fun z => [⟨.str, ⟨a6, x0.2.length, c7⟩, x0.2⟩, ⟨(.int .i64), ⟨(some ⟨0, 0, none⟩), 1, 1⟩, [gm0]⟩], fun z => [], fun z => z.1⟩ (FUEL, x13) h (Es rfl) (Bs rfl rfl) [0, 1] rfl [] rfl ?_
      rintro ⟨n41, x16⟩ h
      obtain ⟨n41, rfl, h⟩ := fixF_some h
      rw [M_i_HistFind_L1] at h
      refine JS.seq (JS.seq (JS.region (JO.reg ttOk 4 [] [] [(42, .v (.int .i64 x16)), (44, .v (.int .i64 x0.1)), (45, .v (.int .i64 (W ((W (x0.1 + (x0.2.length : Int))) - 1))))] _ rfl ⟨(Es rfl), rfl⟩ ?_)))
      obtain ⟨y21, hy22, h⟩ := bindO_some h
      refine JO.call rfl rfl rfl rfl (ok_i_in x16 x0.1 (W ((W (x0.1 + (x0.2.length : Int))) - 1)) _ hy22) rfl [] rfl rfl fun _ _ => JO.done rfl ?_
      refine JS.cond rfl (fun ht64 => ?_) (fun ht64 => ?_)
      · have h := condT h ht64
        refine JS.skip (JS.seq (JS.block (JS.seq (JS.region (JO.know 0 rfl fun hs59 => ?_)))))
        obtain ⟨g24, h⟩ := guardO_some h
        refine JO.reg ttOk 7 [(W (x16 - x0.1))] [] [(56, .ep ⟨a6, x0.2.length, c7⟩ (Int.toNat (W (x16 - x0.1)) * 1))] _ rfl ⟨⟨trivial, rfl⟩, hs59.ix g24, ⟨rfl, trivial⟩, rfl⟩ (JO.load ttOk rfl rfl rfl rfl rfl rfl rfl 0 rfl rfl (Int.toNat (W (x16 - x0.1))) 0 (at' x0.2 (W (x16 - x0.1))) ⟨at_some g24, rfl⟩ rfl rfl (JO.reg ttOk 1 [] [] [(13, .v (.string (bs (at' x0.2 (W (x16 - x0.1))))))] _ rfl ⟨⟨rfl, trivial⟩, rfl⟩ (JO.done rfl (JS.seq (JS.region (JO.reg ttOk 4 [] [] [(59, .v (.bool x4)), (60, .cd [(59, true)] (.v (.string (bs (at' x0.2 (W (x16 - x0.1))))))), (61, .cd [(59, true)] (.v (.string (bs x1))))] _ rfl ⟨(Es rfl), rfl⟩ ?_))))))
        obtain ⟨y25, hy26, -, h⟩ := callO_some h
        refine JO.callg rfl rfl rfl rfl (fun q60 => ok_strings_HasPrefix (at' x0.2 (W (x16 - x0.1))) x1 _ (hy26 q60)) rfl [] rfl rfl (JO.reg ttOk 7 [] [] [(64, .v (.bool (bif x4 then y25 else false))), (67, .cd [(64, false)] (.v (.bool (!x4)))), (68, .cd [(67, true), (64, false)] (.v (.string (bs (at' x0.2 (W (x16 - x0.1))))))), (69, .cd [(67, true), (64, false)] (.v (.string (bs x1))))] _ rfl ⟨(Es rfl), rfl⟩ ?_)
        obtain ⟨y28, hy29, -, h⟩ := callO_some h
        refine JO.callg rfl rfl rfl rfl (fun q61 q62 => ok_strings_Contains (at' x0.2 (W (x16 - x0.1))) x1 gm0 _ (hy29 ⟨q61, q62⟩)) rfl [1] rfl rfl (JO.reg ttOk 2 [] [] [(72, .v (.bool (bif (bif x4 then y25 else false) then true else (bif (!x4) then y28 else false))))] _ rfl ⟨⟨rfl, trivial⟩, rfl⟩ (JO.done rfl ?_))
        refine JS.cond rfl (fun ht63 => ?_) (fun ht63 => ?_)
        · have h := condT h ht63
          refine JS.rg0 ttOk 2 [(10, .v (.int .i64 x16))] ⟨⟨rfl, trivial⟩, rfl⟩ rfl rfl ?_
          cases h
          exact JS.ret ttOk () trivial rfl rfl [] rfl
        have h := condF h ht63
        refine JS.skip (JS.endB (JS.re ttOk 4 [(W (x16 + x3))] [] [(12, .v (.int .i64 (W (x16 + x3))))] _ ⟨⟨trivial, rfl⟩, ⟨rfl, trivial⟩, rfl⟩ rfl rfl (JS.endL (n41, (W (x16 + x3))) h (Nat.lt_succ_self _) (Es rfl) (Bs rfl rfl) [0, 1] rfl [] rfl)))
      have h := condF h ht64
      refine JS.exit rfl (JS.endJ () h trivial trivial [1] rfl [] rfl)
    rintro _ h
    subst hj65
    refine JS.rg0 ttOk 1 [(10, .v (.int .i64 0))] ⟨⟨rfl, trivial⟩, rfl⟩ rfl rfl ?_
    cases h
    exact JS.ret ttOk () trivial rfl rfl [] rfl

def M_i_HistGet (x0 : Int × List (List UInt8)) (x1 : Int) : Option (List UInt8 × Bool) :=
  (bindO (M_i_HistOk x0) fun (y7 : Bool) =>
  (callO ((!y7) = false) (M_i_in x1 x0.1 (W ((W (x0.1 + (x0.2.length : Int))) - 1))) false fun (y11 : Bool) =>
  (bif (bif (!y7) then true else (!y11)) then
  some ([], false)
  else
  (guardO (0 ≤ (W (x1 - x0.1)) ∧ (W (x1 - x0.1)) < (x0.2.length : Int)) <|
  some ((at' x0.2 (W (x1 - x0.1))), true)))))

theorem ok_i_HistGet (x0 : Int × List (List UInt8)) (x1 : Int) (a3 : Option Addr) (c4 : Nat) (l5 : Nat) (hl6 : x0.2.length = l5) (r : List UInt8 × Bool) (h : M_i_HistGet x0 x1 = some r) :
    FC Tryz.prog 58 [.agg #[.int .i64 x0.1, .slice a3 l5 c4], .int .i64 x1] [⟨.str, ⟨a3, l5, c4⟩, x0.2⟩] (fun _ : Unit => True) (fun _ => .tuple #[.string (bs r.1), .bool r.2]) (fun _ => []) :=
  by
    subst hl6
    refine FC.of (T := TTx) Tryz.call58 Tryz.func58 rfl rfl fun w0 => ?_
    unfold M_i_HistGet at h
    refine JS.rgB ttOk 3 [] [2] [(2, .bp 2 0)] (.new 2 50 [.int .i64 x0.1, .slice a3 x0.2.length c4] .nil) ⟨⟨rfl, trivial⟩, (Bs rfl rfl)⟩ rfl rfl (JS.seq (JS.seq (JS.region (JO.reg ttOk 1 [] [] [(6, .v (.agg #[.int .i64 x0.1, .slice a3 x0.2.length c4]))] _ rfl ⟨⟨rfl, trivial⟩, rfl⟩ ?_))))
    obtain ⟨y7, hy8, h⟩ := bindO_some h
    refine JO.call rfl rfl rfl rfl (ok_i_HistOk x0 a3 c4 x0.2.length rfl _ hy8) rfl [0] rfl rfl fun _ _ => JO.reg ttOk 12 [(W (x0.1 + (x0.2.length : Int))), (W ((W (x0.1 + (x0.2.length : Int))) - 1))] [] [(9, .v (.bool (!y7))), (10, .cd [(9, false)] (.v (.int .i64 x1))), (12, .cd [(9, false)] (.v (.int .i64 x0.1))), (19, .cd [(9, false)] (.v (.int .i64 (W ((W (x0.1 + (x0.2.length : Int))) - 1)))))] _ rfl ⟨(fun q17 => ⟨trivial, rfl⟩), (fun q18 => ⟨trivial, rfl⟩), (Es rfl), rfl⟩ ?_
    obtain ⟨y11, hy12, -, h⟩ := callO_some h
    refine JO.callg rfl rfl rfl rfl (fun q19 => ok_i_in x1 x0.1 (W ((W (x0.1 + (x0.2.length : Int))) - 1)) _ (hy12 q19)) rfl [] rfl rfl (JO.reg ttOk 2 [] [] [(22, .v (.bool (bif (!y7) then true else (!y11))))] _ rfl ⟨⟨rfl, trivial⟩, rfl⟩ (JO.done rfl ?_))
    refine JS.cond rfl (fun ht21 => ?_) (fun ht21 => ?_)
    · have h := condT h ht21
      refine JS.rg0 ttOk 2 [(4, .v (.string (bs []))), (5, .v (.bool false))] ⟨(Es rfl), rfl⟩ rfl rfl ?_
      cases h
      exact JS.ret ttOk () trivial rfl rfl [] rfl
    have h := condF h ht21
    refine JS.skip (JS.seq (JS.region (JO.know 0 rfl fun hs20 => ?_)))
    obtain ⟨g15, h⟩ := guardO_some h
    refine JO.reg ttOk 7 [(W (x1 - x0.1))] [] [(29, .ep ⟨a3, x0.2.length, c4⟩ (Int.toNat (W (x1 - x0.1)) * 1))] _ rfl ⟨⟨trivial, rfl⟩, hs20.ix g15, ⟨rfl, trivial⟩, rfl⟩ (JO.load ttOk rfl rfl rfl rfl rfl rfl rfl 0 rfl rfl (Int.toNat (W (x1 - x0.1))) 0 (at' x0.2 (W (x1 - x0.1))) ⟨at_some g15, rfl⟩ rfl rfl (JO.reg ttOk 2 [] [] [(4, .v (.string (bs (at' x0.2 (W (x1 - x0.1)))))), (5, .v (.bool true))] _ rfl ⟨(Es rfl), rfl⟩ (JO.done rfl ?_)))
    cases h
    exact JS.ret ttOk () trivial rfl rfl [] rfl

def M_i_RuneRead_L1 (x0 : List UInt8) (x1 : Int) (x19 : Int) (j39 : Int → Option (Int × Int)) (k34 : (Int × Int) → Option (Int × Int)) : (Int × Int) → Option (Int × Int) := fun (x29, x30) =>
  (bif (decide (x30 < ((sub' x0 (W (x1 + 1)) (W (x1 + x19))).length : Int))) then
  (guardO (0 ≤ x30 ∧ x30 < ((sub' x0 (W (x1 + 1)) (W (x1 + x19))).length : Int)) <|
  k34 ((W ((W ((W (x29 * 64)) + ((at' (sub' x0 (W (x1 + 1)) (W (x1 + x19))) x30).toNat : Int))) - 128)), (W (x30 + 1))))
  else
  j39 x29)

def M_i_RuneRead (x0 : List UInt8) (x1 : Int) : Option (Int × Int) :=
  (bif (bif (decide (x1 < 0)) then true else (decide ((x0.length : Int) ≤ x1))) then
  some (0, 0)
  else
  (guardO (0 ≤ x1 ∧ x1 < (x0.length : Int)) <|
  (joinO (fun ((x19, x20) : Int × Int) =>
  (bif (decide ((W ((x0.length : Int) - x19)) < x1)) then
  some (0, 0)
  else
  (guardO (0 ≤ (W (x1 + 1)) ∧ (W (x1 + 1)) ≤ (W (x1 + x19)) ∧ (W (x1 + x19)) ≤ (x0.length : Int)) <|
  (joinO (fun (x38 : Int) =>
  (bindO (M_i_RuneBytes x38) fun (y42 : List UInt8) =>
  (guardO (0 ≤ x1 ∧ x1 ≤ (W (x1 + x19)) ∧ (W (x1 + x19)) ≤ (x0.length : Int)) <|
  (bif (!(decide (y42 = (sub' x0 x1 (W (x1 + x19)))))) then
  some (0, 0)
  else
  some (x38, x19))))) fun j39 =>
  (fixF (M_i_RuneRead_L1 x0 x1 x19 j39) FUEL (x20, 0)))))) fun j21 =>
  (bif (decide (((at' x0 x1).toNat : Int) < 128)) then
  some (((at' x0 x1).toNat : Int), 1)
  else
  (bindO (M_i_in ((at' x0 x1).toNat : Int) 192 223) fun (y9 : Bool) =>
  (bif y9 then
  j21 (2, (W (((at' x0 x1).toNat : Int) - 192)))
  else
  (bindO (M_i_in ((at' x0 x1).toNat : Int) 224 239) fun (y11 : Bool) =>
  (bif y11 then
  j21 (3, (W (((at' x0 x1).toNat : Int) - 224)))
  else
  (bindO (M_i_in ((at' x0 x1).toNat : Int) 240 247) fun (y13 : Bool) =>
  (bif y13 then
  j21 (4, (W (((at' x0 x1).toNat : Int) - 240)))
  else
  some (0, 0)))))))))))

theorem ok_i_RuneRead (x0 : List UInt8) (x1 : Int) (a3 : Option Addr) (c4 : Nat) (l5 : Nat) (hl6 : x0.length = l5) (r : Int × Int) (h : M_i_RuneRead x0 x1 = some r) :
    FC Tryz.prog 144 [.slice a3 l5 c4, .int .i64 x1] [⟨.byte, ⟨a3, l5, c4⟩, x0⟩] (fun _ : Unit => True) (fun _ => .tuple #[.int .i64 r.1, .int .i64 r.2]) (fun _ => []) :=
  by
    subst hl6
    refine FC.of (T := TTx) Tryz.call144 Tryz.func144 rfl rfl fun w0 => ?_
    unfold M_i_RuneRead at h
    refine JS.rg0 ttOk 2 [] ⟨trivial, rfl⟩ rfl rfl (JS.seq (JS.rg0 ttOk 8 [(18, .v (.bool (bif (decide (x1 < 0)) then true else (decide ((x0.length : Int) ≤ x1)))))] ⟨⟨rfl, trivial⟩, rfl⟩ rfl rfl ?_))
    refine JS.cond rfl (fun ht73 => ?_) (fun ht73 => ?_)
    · have h := condT h ht73
      refine JS.rg0 ttOk 2 [(4, .v (.int .i64 0)), (5, .v (.int .i64 0))] ⟨(Es rfl), rfl⟩ rfl rfl ?_
      cases h
      exact JS.ret ttOk () trivial rfl rfl [] rfl
    have h := condF h ht73
    refine JS.skip (JS.seq (JS.region (JO.know 0 rfl fun hs59 => ?_)))
    obtain ⟨g8, h⟩ := guardO_some h
    refine JO.reg ttOk 3 [] [] [(21, .ep ⟨a3, x0.length, c4⟩ (Int.toNat x1 * 1))] _ rfl ⟨hs59.ix g8, ⟨rfl, trivial⟩, rfl⟩ (JO.load ttOk rfl rfl rfl rfl rfl rfl rfl 0 rfl rfl (Int.toNat x1) 0 (at' x0 x1) ⟨at_some g8, rfl⟩ rfl rfl (JO.reg ttOk 2 [((at' x0 x1).toNat : Int)] [] [(6, .v (.int .i64 ((at' x0 x1).toNat : Int)))] _ rfl ⟨⟨trivial, W_byte _⟩, ⟨rfl, trivial⟩, rfl⟩ (JO.done rfl (JS.rg0 ttOk 2 [] ⟨trivial, rfl⟩ rfl rfl (JS.seq ?_)))))
    obtain ⟨j21, hj72, h⟩ := joinO_some h
    refine JS.blockJ (ι := Int × Int) ⟨fun z => j21 (z.1, z.2) = some r, fun z => [(0, .v (.slice a3 x0.length c4)), (1, .v (.int .i64 x1)), (7, .v (.int .i64 z.1)), (8, .v (.int .i64 z.2))], fun z => .nil, fun z => [⟨.byte, ⟨a3, x0.length, c4⟩, x0⟩], fun z => [], fun z => 0⟩ ?_ ?_
    · refine JS.rg0 ttOk 3 [(24, .v (.bool (decide (((at' x0 x1).toNat : Int) < 128))))] ⟨⟨rfl, trivial⟩, rfl⟩ rfl rfl ?_
      refine JS.cond rfl (fun ht63 => ?_) (fun ht63 => ?_)
      · have h := condT h ht63
        refine JS.rg0 ttOk 3 [(4, .v (.int .i64 ((at' x0 x1).toNat : Int))), (5, .v (.int .i64 1))] ⟨(Es rfl), rfl⟩ rfl rfl ?_
        cases h
        exact JS.ret ttOk () trivial rfl rfl [] rfl
      have h := condF h ht63
      refine JS.seq (JS.region (JO.reg ttOk 1 [] [] [(29, .v (.int .i64 ((at' x0 x1).toNat : Int)))] _ rfl ⟨⟨rfl, trivial⟩, rfl⟩ ?_))
      obtain ⟨y9, hy10, h⟩ := bindO_some h
      refine JO.call rfl rfl rfl rfl (ok_i_in ((at' x0 x1).toNat : Int) 192 223 _ hy10) rfl [] rfl rfl fun _ _ => JO.reg ttOk 1 [] [] [(28, .v (.bool y9))] _ rfl ⟨⟨rfl, trivial⟩, rfl⟩ (JO.done rfl ?_)
      refine JS.cond rfl (fun ht62 => ?_) (fun ht62 => ?_)
      · have h := condT h ht62
        refine JS.re ttOk 4 [(W (((at' x0 x1).toNat : Int) - 192))] [] [(7, .v (.int .i64 2)), (8, .v (.int .i64 (W (((at' x0 x1).toNat : Int) - 192))))] _ ⟨⟨trivial, rfl⟩, (Es rfl), rfl⟩ rfl rfl (JS.endB (JS.endJ (2, (W (((at' x0 x1).toNat : Int) - 192))) h (Es rfl) trivial [0] rfl [] rfl))
      have h := condF h ht62
      refine JS.seq (JS.region (JO.reg ttOk 1 [] [] [(34, .v (.int .i64 ((at' x0 x1).toNat : Int)))] _ rfl ⟨⟨rfl, trivial⟩, rfl⟩ ?_))
      obtain ⟨y11, hy12, h⟩ := bindO_some h
      refine JO.call rfl rfl rfl rfl (ok_i_in ((at' x0 x1).toNat : Int) 224 239 _ hy12) rfl [] rfl rfl fun _ _ => JO.reg ttOk 1 [] [] [(33, .v (.bool y11))] _ rfl ⟨⟨rfl, trivial⟩, rfl⟩ (JO.done rfl ?_)
      refine JS.cond rfl (fun ht61 => ?_) (fun ht61 => ?_)
      · have h := condT h ht61
        refine JS.re ttOk 4 [(W (((at' x0 x1).toNat : Int) - 224))] [] [(7, .v (.int .i64 3)), (8, .v (.int .i64 (W (((at' x0 x1).toNat : Int) - 224))))] _ ⟨⟨trivial, rfl⟩, (Es rfl), rfl⟩ rfl rfl (JS.endB (JS.endJ (3, (W (((at' x0 x1).toNat : Int) - 224))) h (Es rfl) trivial [0] rfl [] rfl))
      have h := condF h ht61
      refine JS.seq (JS.region (JO.reg ttOk 1 [] [] [(39, .v (.int .i64 ((at' x0 x1).toNat : Int)))] _ rfl ⟨⟨rfl, trivial⟩, rfl⟩ ?_))
      obtain ⟨y13, hy14, h⟩ := bindO_some h
      refine JO.call rfl rfl rfl rfl (ok_i_in ((at' x0 x1).toNat : Int) 240 247 _ hy14) rfl [] rfl rfl fun _ _ => JO.reg ttOk 1 [] [] [(38, .v (.bool y13))] _ rfl ⟨⟨rfl, trivial⟩, rfl⟩ (JO.done rfl ?_)
      refine JS.cond rfl (fun ht60 => ?_) (fun ht60 => ?_)
      · have h := condT h ht60
        refine JS.re ttOk 4 [(W (((at' x0 x1).toNat : Int) - 240))] [] [(7, .v (.int .i64 4)), (8, .v (.int .i64 (W (((at' x0 x1).toNat : Int) - 240))))] _ ⟨⟨trivial, rfl⟩, (Es rfl), rfl⟩ rfl rfl (JS.endB (JS.endJ (4, (W (((at' x0 x1).toNat : Int) - 240))) h (Es rfl) trivial [0] rfl [] rfl))
      have h := condF h ht60
      refine JS.rg0 ttOk 2 [(4, .v (.int .i64 0)), (5, .v (.int .i64 0))] ⟨(Es rfl), rfl⟩ rfl rfl ?_
      cases h
      exact JS.ret ttOk () trivial rfl rfl [] rfl
    rintro ⟨x19, x20⟩ h
    subst hj72
    refine JS.seq (JS.rg ttOk 6 [(W ((x0.length : Int) - x19))] [] [(48, .v (.bool (decide ((W ((x0.length : Int) - x19)) < x1))))] _ ⟨⟨trivial, rfl⟩, ⟨rfl, trivial⟩, rfl⟩ rfl rfl ?_)
    refine JS.cond rfl (fun ht71 => ?_) (fun ht71 => ?_)
    · have h := condT h ht71
      refine JS.rg0 ttOk 2 [(4, .v (.int .i64 0)), (5, .v (.int .i64 0))] ⟨(Es rfl), rfl⟩ rfl rfl ?_
      cases h
      exact JS.ret ttOk () trivial rfl rfl [] rfl
    have h := condF h ht71
    refine JS.skip (JS.seq (JS.seq (JS.region (JO.reg ttOk 6 [(W (x1 + 1)), (W (x1 + x19))] [] [(49, .v (.slice a3 x0.length c4)), (51, .v (.int .i64 (W (x1 + 1)))), (54, .v (.int .i64 (W (x1 + x19))))] _ rfl ⟨⟨trivial, rfl⟩, ⟨trivial, rfl⟩, (Es rfl), rfl⟩ ?_))))
    obtain ⟨g26, h⟩ := guardO_some h
    refine JO.sliceR' ttOk rfl rfl rfl rfl rfl rfl rfl rfl 0 rfl (W (x1 + 1)) (W (x1 + x19)) rfl rfl g26 rfl fun a27 c28 => JO.reg ttOk 2 [] [] [(56, .v (.int .i64 ((sub' x0 (W (x1 + 1)) (W (x1 + x19))).length : Int))), (57, .v (.int .i64 0))] _ rfl ⟨(Es rfl), rfl⟩ (JO.done rfl ?_)
    obtain ⟨j39, hj70, h⟩ := joinO_some h
    refine JS.blockJ (ι := Int) ⟨fun z => j39 z = some r, fun z => [(0, .v (.slice a3 x0.length c4)), (1, .v (.int .i64 x1)), (7, .v (.int .i64 x19)), (8, .v (.int .i64 z))], fun z => .nil, fun z => [⟨.byte, ⟨a3, x0.length, c4⟩, x0⟩], fun z => [], fun z => 0⟩ ?_ ?_
    · refine JS.loop (ι := Nat × Int × Int) ⟨fun z => fixF (M_i_RuneRead_L1 x0 x1 x19 j39) z.1 (z.2.1, z.2.2) = some r, fun z => [(0, .v (.slice a3 x0.length c4)), (1, .v (.int .i64 x1)), (7, .v (.int .i64 x19)), (8, .v (.int .i64 z.2.1)), (55, .v (.slice a27 (sub' x0 (W (x1 + 1)) (W (x1 + x19))).length c28)), (56, .v (.int .i64 ((sub' x0 (W (x1 + 1)) (W (x1 + x19))).length : Int))), (57, .v (.int .i64 z.2.2))], fun z => .nil, fun z => [⟨.byte, ⟨a3, x0.length, c4⟩, x0⟩, ⟨.byte, ⟨a27, (sub' x0 (W (x1 + 1)) (W (x1 + x19))).length, c28⟩, (sub' x0 (W (x1 + 1)) (W (x1 + x19)))⟩], fun z => [], fun z => z.1⟩ (FUEL, x20, 0) h (Es rfl) trivial [1, 0] rfl [] rfl ?_
      rintro ⟨n35, x29, x30⟩ h
      obtain ⟨n35, rfl, h⟩ := fixF_some h
      rw [M_i_RuneRead_L1] at h
      refine JS.rg0 ttOk 1 [(58, .v (.bool (decide (x30 < ((sub' x0 (W (x1 + 1)) (W (x1 + x19))).length : Int)))))] ⟨⟨rfl, trivial⟩, rfl⟩ rfl rfl (JS.seq ?_)
      refine JS.cond rfl (fun ht65 => ?_) (fun ht65 => ?_)
      · have h := condT h ht65
        refine JS.skip (JS.seq (JS.block (JS.seq (JS.region (JO.know 1 rfl fun hs64 => ?_)))))
        obtain ⟨g32, h⟩ := guardO_some h
        refine JO.reg ttOk 1 [] [] [(59, .ep ⟨a27, (sub' x0 (W (x1 + 1)) (W (x1 + x19))).length, c28⟩ (Int.toNat x30 * 1))] _ rfl ⟨hs64.ix g32, ⟨rfl, trivial⟩, rfl⟩ (JO.load ttOk rfl rfl rfl rfl rfl rfl rfl 1 rfl rfl (Int.toNat x30) 0 (at' (sub' x0 (W (x1 + 1)) (W (x1 + x19))) x30) ⟨at_some g32, rfl⟩ rfl rfl (JO.reg ttOk 1 [] [] [(10, .v (.int .u8 ((at' (sub' x0 (W (x1 + 1)) (W (x1 + x19))) x30).toNat : Int)))] _ rfl ⟨⟨rfl, trivial⟩, rfl⟩ (JO.done rfl (JS.re ttOk 7 [(W (x29 * 64)), ((at' (sub' x0 (W (x1 + 1)) (W (x1 + x19))) x30).toNat : Int), (W ((W (x29 * 64)) + ((at' (sub' x0 (W (x1 + 1)) (W (x1 + x19))) x30).toNat : Int))), (W ((W ((W (x29 * 64)) + ((at' (sub' x0 (W (x1 + 1)) (W (x1 + x19))) x30).toNat : Int))) - 128))] [] [(8, .v (.int .i64 (W ((W ((W (x29 * 64)) + ((at' (sub' x0 (W (x1 + 1)) (W (x1 + x19))) x30).toNat : Int))) - 128))))] _ ⟨⟨trivial, rfl⟩, ⟨trivial, W_byte _⟩, ⟨trivial, rfl⟩, ⟨trivial, rfl⟩, ⟨rfl, trivial⟩, rfl⟩ rfl rfl (JS.endB (JS.re ttOk 2 [(W (x30 + 1))] [] [(57, .v (.int .i64 (W (x30 + 1))))] _ ⟨⟨trivial, rfl⟩, ⟨rfl, trivial⟩, rfl⟩ rfl rfl (JS.endL (n35, (W ((W ((W (x29 * 64)) + ((at' (sub' x0 (W (x1 + 1)) (W (x1 + x19))) x30).toNat : Int))) - 128)), (W (x30 + 1))) h (Nat.lt_succ_self _) (Es rfl) trivial [0, 1] rfl [] rfl)))))))
      have h := condF h ht65
      refine JS.exit rfl (JS.endJ x29 h (Es rfl) trivial [0] rfl [] rfl)
    rintro x38 h
    subst hj70
    refine JS.seq (JS.seq ?_)
    obtain ⟨y42, hy43, h⟩ := bindO_some h
    obtain ⟨g46, h⟩ := guardO_some h
    refine JS.subR 0 rfl x1 (W (x1 + x19)) fun a47 c48 hu49 => JS.know 1 rfl fun hs68 => ?_
    refine JS.regionA rfl .nil [0] [10] trivial rfl (fun be53 => ?_)
    refine JA.reg ttOk panic_cx true 5 [0, 3, 4, 5, 6, 7] rfl (by kernel_rfl) [(W (x1 + x19))] [(68, .v (.int .i64 x38)), (71, .v (.slice a3 x0.length c4)), (72, .v (.int .i64 x1)), (75, .v (.int .i64 (W (x1 + x19))))] trivial [0] rfl rfl ⟨⟨trivial, rfl⟩, (Es rfl)⟩ (JA.sliceP ttOk panic_cx 8 rfl (by kernel_rfl) rfl rfl rfl rfl rfl rfl x1 (W (x1 + x19)) rfl rfl ⟨g46.1, g46.2.1, g46.2.2, hs68.cap, hu49 g46⟩ rfl (JA.strOf ttOk panic_cx 9 rfl (by kernel_rfl) rfl rfl rfl rfl rfl rfl rfl 0 rfl rfl trivial [0] rfl (JA.one 1 (by kernel_rfl) (JK.call rfl rfl rfl rfl (ok_i_RuneBytes x38 _ hy43) rfl [] rfl rfl ?_))))
    rintro ⟨a44, c45⟩ -
    refine JA.next trivial [0] rfl (JA.one 2 (by kernel_rfl) (JK.strOf ttOk rfl rfl rfl rfl rfl rfl rfl rfl 2 rfl rfl (JA.next trivial [0] rfl (JA.regL ttOk panic_cx 0 [10] rfl (by kernel_rfl) [] [(78, .v (.bool (!(decide (y42 = (sub' x0 x1 (W (x1 + x19))))))))] rfl ⟨rfl, trivial⟩ (JA.done (by kernel_rfl) (JS.boxes (B' := .nil) trivial ?_))))))
    refine JS.cond rfl (fun ht69 => ?_) (fun ht69 => ?_)
    · have h := condT h ht69
      refine JS.rg0 ttOk 2 [(4, .v (.int .i64 0)), (5, .v (.int .i64 0))] ⟨(Es rfl), rfl⟩ rfl rfl ?_
      cases h
      exact JS.ret ttOk () trivial rfl rfl [] rfl
    have h := condF h ht69
    refine JS.skip (JS.rg0 ttOk 4 [(4, .v (.int .i64 x38)), (5, .v (.int .i64 x19))] ⟨(Es rfl), rfl⟩ rfl rfl ?_)
    cases h
    exact JS.ret ttOk () trivial rfl rfl [] rfl

def M_i_RunesOf_L1 (x0 : List UInt8) (j29 : (List Int) → Option (List Int × Bool)) (k22 : (List Int × Int) → Option (List Int × Bool)) : (List Int × Int) → Option (List Int × Bool) := fun (x4, x10) =>
  (bif (decide (x10 < (x0.length : Int))) then
  (bindO (M_i_RuneRead x0 x10) fun (y11, y12) =>
  (bif (decide (y12 = 0)) then
  some ([], false)
  else
  (guardO (x4.length + ([y11] : List Int).length ≤ 536870912) <|
  k22 ((x4 ++ ([y11] : List Int)), (W (x10 + y12))))))
  else
  j29 x4)

def M_i_RunesOf (x0 : List UInt8) : Option (List Int × Bool) :=
  (bif (decide (65536 < (x0.length : Int))) then
  some ([], false)
  else
  (joinO (fun (x26 : List Int) =>
  some (x26, true)) fun j29 =>
  (fixF (M_i_RunesOf_L1 x0 j29) FUEL (([] : List Int), 0))))

theorem ok_i_RunesOf (x0 : List UInt8) (r : List Int × Bool) (h : M_i_RunesOf x0 = some r) :
    FC Tryz.prog 62 [.string (bs x0)] [] (fun _ : Option Addr × Nat => True) (fun q => .tuple #[.slice q.1 r.1.length q.2, .bool r.2]) (fun q => [⟨(.int .i64), ⟨q.1, r.1.length, q.2⟩, r.1⟩]) :=
  by
    refine FC.of (T := TTx) Tryz.call62 Tryz.func62 rfl rfl fun w0 => ?_
    unfold M_i_RunesOf at h
    refine JS.rg0 ttOk 2 [] ⟨trivial, rfl⟩ rfl rfl (JS.seq (JS.rg0 ttOk 3 [(11, .v (.bool (decide (65536 < (x0.length : Int)))))] ⟨⟨rfl, trivial⟩, rfl⟩ rfl rfl ?_))
    refine JS.cond rfl (fun ht37 => ?_) (fun ht37 => ?_)
    · have h := condT h ht37
      refine JS.rg0 ttOk 2 [(2, .v (.slice none 0 0)), (3, .v (.bool false))] ⟨(Es rfl), rfl⟩ rfl rfl ?_
      cases h
      refine JS.nilO (.int .i64) Sl.nil rfl rfl (JS.ret ttOk (none, 0) trivial rfl rfl [0] rfl)
    have h := condF h ht37
    refine JS.skip (JS.rg0 ttOk 1 [(4, .v (.slice none 0 0))] ⟨⟨rfl, trivial⟩, rfl⟩ rfl rfl (JS.seq (JS.region (JO.reg ttOk 1 [] [] [(12, .v (.string (bs x0)))] _ rfl ⟨⟨rfl, trivial⟩, rfl⟩ (JO.bytesOf ttOk rfl rfl rfl rfl rfl rfl rfl rfl rfl fun a2 c3 => JO.reg ttOk 1 [] [] [(5, .v (.slice a2 x0.length c3))] _ rfl ⟨⟨rfl, trivial⟩, rfl⟩ (JO.done rfl (JS.seq (JS.rg0 ttOk 1 [(6, .v (.int .i64 0))] ⟨⟨rfl, trivial⟩, rfl⟩ rfl rfl ?_))))))))
    obtain ⟨j29, hj36, h⟩ := joinO_some h
    refine JS.blockJ (ι := List Int × Option Addr × Nat) ⟨fun z => j29 z.1 = some r, fun z => [(4, .v (.slice z.2.1 z.1.length z.2.2))], fun z => .nil, fun z => [], fun z => [⟨(.int .i64), ⟨z.2.1, z.1.length, z.2.2⟩, z.1⟩], fun z => 0⟩ ?_ ?_
    · refine JS.nilO (.int .i64) Sl.nil rfl rfl (JS.loop (ι := Nat × List Int × Int × Option Addr × Nat) ⟨fun z => fixF (M_i_RunesOf_L1 x0 j29) z.1 (z.2.1, z.2.2.1) = some r, fun z => [(4, .v (.slice z.2.2.2.1 z.2.1.length z.2.2.2.2)), (5, .v (.slice a2 x0.length c3)), (6, .v (.int .i64 z.2.2.1))], fun z => .nil, fun z => [], fun z => [⟨(.int .i64), ⟨z.2.2.2.1, z.2.1.length, z.2.2.2.2⟩, z.2.1⟩, ⟨.byte, ⟨a2, x0.length, c3⟩, x0⟩], fun z => z.1⟩ (FUEL, ([] : List Int), 0, none, 0) h (Es rfl) trivial [] rfl [0, 0] rfl ?_)
      rintro ⟨n23, x4, x10, a5, c6⟩ h
      obtain ⟨n23, rfl, h⟩ := fixF_some h
      rw [M_i_RunesOf_L1] at h
      refine JS.seq (JS.rg0 ttOk 4 [(17, .v (.bool (decide (x10 < (x0.length : Int)))))] ⟨⟨rfl, trivial⟩, rfl⟩ rfl rfl ?_)
      refine JS.cond rfl (fun ht35 => ?_) (fun ht35 => ?_)
      · have h := condT h ht35
        refine JS.skip (JS.block (JS.seq (JS.region (JO.reg ttOk 2 [] [] [(19, .v (.slice a2 x0.length c3)), (20, .v (.int .i64 x10))] _ rfl ⟨(Es rfl), rfl⟩ ?_))))
        obtain ⟨⟨y11, y12⟩, hy13, h⟩ := bindO_some h
        refine JO.call rfl rfl rfl rfl (ok_i_RuneRead x0 x10 a2 c3 x0.length rfl _ hy13) rfl [1] rfl rfl fun _ _ => JO.reg ttOk 5 [] [] [(7, .v (.int .i64 y11)), (8, .v (.int .i64 y12))] _ rfl ⟨(Es rfl), rfl⟩ (JO.done rfl (JS.seq (JS.rg0 ttOk 2 [(25, .v (.bool (decide (y12 = 0))))] ⟨⟨rfl, trivial⟩, rfl⟩ rfl rfl ?_)))
        refine JS.cond rfl (fun ht34 => ?_) (fun ht34 => ?_)
        · have h := condT h ht34
          refine JS.rg0 ttOk 2 [(2, .v (.slice none 0 0)), (3, .v (.bool false))] ⟨(Es rfl), rfl⟩ rfl rfl ?_
          cases h
          refine JS.nilO (.int .i64) Sl.nil rfl rfl (JS.ret ttOk (none, 0) trivial rfl rfl [0] rfl)
        have h := condF h ht34
        refine JS.skip (JS.seq (JS.region (JO.reg ttOk 2 [] [] [(26, .v (.slice a5 x4.length c6)), (27, .v (.int .i64 y11))] _ rfl ⟨(Es rfl), rfl⟩ ?_)))
        refine JO.ofK rfl (JK.buildSlice ttOk rfl rfl rfl rfl rfl rfl rfl rfl rfl rfl rfl [] rfl (.int .i64) [y11] ⟨rfl, rfl⟩ rfl rfl fun a14 => JO.toK ?_)
        obtain ⟨g15, h⟩ := guardO_some h
        refine JO.appendR' ttOk rfl rfl rfl rfl ⟨rfl, rfl, rfl, rfl, trivial, rfl, rfl, rfl, rfl⟩ rfl rfl rfl [1] rfl 0 rfl g15 rfl fun a16 c17 => JO.reg ttOk 1 [] [] [(4, .v (.slice a16 (x4 ++ ([y11] : List Int)).length c17))] _ rfl ⟨⟨rfl, trivial⟩, rfl⟩ (JO.done rfl (JS.re ttOk 4 [(W (x10 + y12))] [] [(6, .v (.int .i64 (W (x10 + y12))))] _ ⟨⟨trivial, rfl⟩, ⟨rfl, trivial⟩, rfl⟩ rfl rfl (JS.endB (JS.endL (n23, (x4 ++ ([y11] : List Int)), (W (x10 + y12)), a16, c17) h (Nat.lt_succ_self _) (Es rfl) trivial [] rfl [0, 1] rfl))))
      have h := condF h ht35
      refine JS.exit rfl (JS.endJ (x4, a5, c6) h ⟨rfl, trivial⟩ trivial [] rfl [0] rfl)
    rintro ⟨x26, a27, c28⟩ h
    subst hj36
    refine JS.rg0 ttOk 3 [(2, .v (.slice a27 x26.length c28)), (3, .v (.bool true))] ⟨(Es rfl), rfl⟩ rfl rfl ?_
    cases h
    exact JS.ret ttOk (a27, c28) trivial rfl rfl [0] rfl

def M_i_LineOf (x0 : List UInt8) : Option ((List Int × Int) × Bool) :=
  (bindO (M_i_RunesOf x0) fun (y2, y3) =>
  (callO ((!y3) = false) (M_i_LineOk (y2, (y2.length : Int))) false fun (y7 : Bool) =>
  (bif (bif (!y3) then true else (!y7)) then
  some (([], 0), false)
  else
  some ((y2, (y2.length : Int)), true))))

theorem ok_i_LineOf (x0 : List UInt8) (r : (List Int × Int) × Bool) (h : M_i_LineOf x0 = some r) :
    FC Tryz.prog 59 [.string (bs x0)] [] (fun _ : Option Addr × Nat => True) (fun q => .tuple #[.agg #[.slice q.1 r.1.1.length q.2, .int .i64 r.1.2], .bool r.2]) (fun q => [⟨(.int .i64), ⟨q.1, r.1.1.length, q.2⟩, r.1.1⟩]) :=
  by
    refine FC.of (T := TTx) Tryz.call59 Tryz.func59 rfl rfl fun w0 => ?_
    unfold M_i_LineOf at h
    refine JS.rgB ttOk 2 [] [1] [(2, .bp 1 0)] (.new 1 38 [.slice none 0 0, .int .i64 0] .nil) ⟨⟨rfl, trivial⟩, (Bs rfl rfl)⟩ rfl rfl (JS.seq (JS.region (JO.reg ttOk 1 [] [] [(8, .v (.string (bs x0)))] _ rfl ⟨⟨rfl, trivial⟩, rfl⟩ ?_)))
    obtain ⟨⟨y2, y3⟩, hy4, h⟩ := bindO_some h
    refine JO.call rfl rfl rfl rfl (ok_i_RunesOf x0 _ hy4) rfl [] rfl rfl ?_
    rintro ⟨a5, c6⟩ -
    refine JO.reg ttOk 5 [] [] [(4, .v (.slice a5 y2.length c6)), (5, .v (.bool y3))] _ rfl ⟨(Es rfl), rfl⟩ (JO.done rfl (JS.rgB ttOk 6 [] [8] [(6, .bp 8 0)] (.new 1 38 [.slice none 0 0, .int .i64 0] (.new 8 38 [.slice a5 y2.length c6, .int .i64 (y2.length : Int)] .nil)) ⟨⟨rfl, trivial⟩, (Bs rfl rfl)⟩ rfl rfl (JS.seq (JS.seq (JS.region (JO.reg ttOk 4 [] [] [(18, .v (.bool (!y3))), (19, .cd [(18, false)] (.v (.agg #[.slice a5 y2.length c6, .int .i64 (y2.length : Int)])))] _ rfl ⟨(Es rfl), rfl⟩ ?_))))))
    obtain ⟨y7, hy8, -, h⟩ := callO_some h
    refine JO.callg rfl rfl rfl rfl (fun q11 => ok_i_LineOk (y2, (y2.length : Int)) a5 c6 y2.length rfl _ (hy8 q11)) rfl [0] rfl rfl (JO.reg ttOk 2 [] [] [(22, .v (.bool (bif (!y3) then true else (!y7))))] _ rfl ⟨⟨rfl, trivial⟩, rfl⟩ (JO.done rfl ?_))
    refine JS.cond rfl (fun ht12 => ?_) (fun ht12 => ?_)
    · have h := condT h ht12
      refine JS.rgB ttOk 3 [] [] [(3, .v (.bool false))] (.new 1 38 [.slice none 0 0, .int .i64 0] .nil) ⟨⟨rfl, trivial⟩, (Bs rfl rfl)⟩ rfl rfl ?_
      cases h
      refine JS.nilO (.int .i64) Sl.nil rfl rfl (JS.ret ttOk (none, 0) trivial rfl rfl [0] rfl)
    have h := condF h ht12
    refine JS.skip (JS.rgB ttOk 3 [] [] [(3, .v (.bool true))] (.new 1 38 [.slice a5 y2.length c6, .int .i64 (y2.length : Int)] .nil) ⟨⟨rfl, trivial⟩, (Bs rfl rfl)⟩ rfl rfl ?_)
    cases h
    exact JS.ret ttOk (a5, c6) trivial rfl rfl [0] rfl

def M_i_ShowHit_L1 (x3 : List Int) (j122 : Unit → Option ((Bool × Int × (List Int × Int) × Int × Int × Int × Int × Int × Int × Int × List (List Int) × (List (List Int × Int)) × Int × (List Int × Int) × List Int × Int × List Int × Int) × Bool)) (k117 : Int → Option ((Bool × Int × (List Int × Int) × Int × Int × Int × Int × Int × Int × Int × List (List Int) × (List (List Int × Int)) × Int × (List Int × Int) × List Int × Int × List Int × Int) × Bool)) : Int → Option ((Bool × Int × (List Int × Int) × Int × Int × Int × Int × Int × Int × Int × List (List Int) × (List (List Int × Int)) × Int × (List Int × Int) × List Int × Int × List Int × Int) × Bool) := fun x39 =>
  (bif (decide (x39 < (x3.length : Int))) then
  (guardO (0 ≤ x39 ∧ x39 < (x3.length : Int)) <|
  (bindO (M_i_Printable (at' x3 x39)) fun (y110 : Bool) =>
  (bif (!y110) then
  some ((false, 0, ([], 0), 0, 0, 0, 0, 0, 0, 0, [], [], 0, ([], 0), [], 0, ([], 0)), false)
  else
  k117 (W (x39 + 1)))))
  else
  j122 ())

def M_i_ShowHit (x0 : Bool × Int × (List Int × Int) × Int × Int × Int × Int × Int × Int × Int × List (List Int) × (List (List Int × Int)) × Int × (List Int × Int) × List Int × Int × List Int × Int) (x1 : Int × List (List UInt8)) (x2 : Int) (x3 : List Int) : Option ((Bool × Int × (List Int × Int) × Int × Int × Int × Int × Int × Int × Int × List (List Int) × (List (List Int × Int)) × Int × (List Int × Int) × List Int × Int × List Int × Int) × Bool) :=
  (bindO (M_i_EdOk x0) fun (y37 : Bool) =>
  (bif (bif (bif (!y37) then true else (!(decide (x0.2.1 = 3)))) then true else (decide (40 < (x3.length : Int)))) then
  some ((false, 0, ([], 0), 0, 0, 0, 0, 0, 0, 0, [], [], 0, ([], 0), [], 0, ([], 0)), false)
  else
  (joinO (fun (_ : Unit) =>
  (bindO (M_i_HistGet x1 x2) fun (y126, y127) =>
  (bindO (M_i_LineOf y126) fun (y129, y130) =>
  (bindO (M_i_TextOf x3) fun (y134 : List UInt8) =>
  (bindO (M_strings_Index y126 y134) fun (y136 : Int) =>
  (bif (bif (bif (!y127) then true else (!y130)) then true else (decide (y136 < 0))) then
  some ((false, 0, ([], 0), 0, 0, 0, 0, 0, 0, 0, [], [], 0, ([], 0), [], 0, ([], 0)), false)
  else
  (guardO (0 ≤ (0 : Int) ∧ (0 : Int) ≤ y136 ∧ y136 ≤ (y126.length : Int)) <|
  (bindO (M_i_RunesOf (sub' y126 0 y136)) fun (y139, y140) =>
  (bindO (M_i_copyEd x0) fun (y144 : Bool × Int × (List Int × Int) × Int × Int × Int × Int × Int × Int × Int × List (List Int) × (List (List Int × Int)) × Int × (List Int × Int) × List Int × Int × List Int × Int) =>
  (joinO (fun ((x163, x166) : List Int × Int) =>
  (bindO (M_i_copyInts x3) fun (y169 : List Int) =>
  some ((y144.1, y144.2.1, (y129.1, (y139.length : Int)), y144.2.2.2.1, y144.2.2.2.2.1, y144.2.2.2.2.2.1, y144.2.2.2.2.2.2.1, y144.2.2.2.2.2.2.2.1, y144.2.2.2.2.2.2.2.2.1, y144.2.2.2.2.2.2.2.2.2.1, y144.2.2.2.2.2.2.2.2.2.2.1, [], x2, (x163, x166), y169, x2, y144.2.2.2.2.2.2.2.2.2.2.2.2.2.2.2.2), true))) fun j167 =>
  (bif (decide (x0.2.2.2.2.2.2.2.2.2.2.2.2.1 = 0)) then
  (bindO (M_i_copyLine x0.2.2.2.2.2.2.2.2.2.2.2.2.2.2.2.2) fun (y158 : List Int × Int) =>
  j167 (y158.1, y158.2))
  else
  j167 (y144.2.2.2.2.2.2.2.2.2.2.2.2.2.1.1, y144.2.2.2.2.2.2.2.2.2.2.2.2.2.1.2)))))))))))) fun j122 =>
  (fixF (M_i_ShowHit_L1 x3 j122) FUEL 0))))

theorem ok_i_ShowHit (x0 : Bool × Int × (List Int × Int) × Int × Int × Int × Int × Int × Int × Int × List (List Int) × (List (List Int × Int)) × Int × (List Int × Int) × List Int × Int × List Int × Int) (x1 : Int × List (List UInt8)) (x2 : Int) (x3 : List Int) (a5 : Option Addr) (c6 : Nat) (l7 : Nat) (hl8 : x0.2.2.1.1.length = l7) (a9 : Option Addr) (c10 : Nat) (l11 : Nat) (hl12 : x0.2.2.2.2.2.2.2.2.2.2.1.length = l11) (a13 : Option Addr) (c14 : Nat) (l15 : Nat) (hl16 : x0.2.2.2.2.2.2.2.2.2.2.2.1.length = l15) (a17 : Option Addr) (c18 : Nat) (l19 : Nat) (hl20 : x0.2.2.2.2.2.2.2.2.2.2.2.2.2.1.1.length = l19) (a21 : Option Addr) (c22 : Nat) (l23 : Nat) (hl24 : x0.2.2.2.2.2.2.2.2.2.2.2.2.2.2.1.length = l23) (a25 : Option Addr) (c26 : Nat) (l27 : Nat) (hl28 : x0.2.2.2.2.2.2.2.2.2.2.2.2.2.2.2.2.1.length = l27) (a29 : Option Addr) (c30 : Nat) (l31 : Nat) (hl32 : x1.2.length = l31) (a33 : Option Addr) (c34 : Nat) (l35 : Nat) (hl36 : x3.length = l35) (gm0 : Int) (r : (Bool × Int × (List Int × Int) × Int × Int × Int × Int × Int × Int × Int × List (List Int) × (List (List Int × Int)) × Int × (List Int × Int) × List Int × Int × List Int × Int) × Bool) (h : M_i_ShowHit x0 x1 x2 x3 = some r) :
    FC Tryz.prog 16 [.agg #[.bool x0.1, .int .i64 x0.2.1, .slice a5 l7 c6, .int .i64 x0.2.2.1.2, .int .i64 x0.2.2.2.1, .int .i64 x0.2.2.2.2.1, .int .i64 x0.2.2.2.2.2.1, .int .i64 x0.2.2.2.2.2.2.1, .int .i64 x0.2.2.2.2.2.2.2.1, .int .i64 x0.2.2.2.2.2.2.2.2.1, .int .i64 x0.2.2.2.2.2.2.2.2.2.1, .slice a9 l11 c10, .slice a13 l15 c14, .int .i64 x0.2.2.2.2.2.2.2.2.2.2.2.2.1, .slice a17 l19 c18, .int .i64 x0.2.2.2.2.2.2.2.2.2.2.2.2.2.1.2, .slice a21 l23 c22, .int .i64 x0.2.2.2.2.2.2.2.2.2.2.2.2.2.2.2.1, .slice a25 l27 c26, .int .i64 x0.2.2.2.2.2.2.2.2.2.2.2.2.2.2.2.2.2], .agg #[.int .i64 x1.1, .slice a29 l31 c30], .int .i64 x2, .slice a33 l35 c34] [⟨(.int .i64), ⟨a5, l7, c6⟩, x0.2.2.1.1⟩, ⟨(.sl (.int .i64)), ⟨a9, l11, c10⟩, x0.2.2.2.2.2.2.2.2.2.2.1⟩, ⟨(.pair (.sl (.int .i64)) (.int .i64)), ⟨a13, l15, c14⟩, x0.2.2.2.2.2.2.2.2.2.2.2.1⟩, ⟨(.int .i64), ⟨a17, l19, c18⟩, x0.2.2.2.2.2.2.2.2.2.2.2.2.2.1.1⟩, ⟨(.int .i64), ⟨a21, l23, c22⟩, x0.2.2.2.2.2.2.2.2.2.2.2.2.2.2.1⟩, ⟨(.int .i64), ⟨a25, l27, c26⟩, x0.2.2.2.2.2.2.2.2.2.2.2.2.2.2.2.2.1⟩, ⟨.str, ⟨a29, l31, c30⟩, x1.2⟩, ⟨(.int .i64), ⟨a33, l35, c34⟩, x3⟩, ⟨(.int .i64), ⟨(some ⟨0, 0, none⟩), 1, 1⟩, [gm0]⟩] (fun _ : Option Addr × Nat × Option Addr × Nat × Option Addr × Nat × Option Addr × Nat × Option Addr × Nat => True) (fun q => .tuple #[.agg (cl46 (r.1.1, r.1.2.1, r.1.2.2.1, r.1.2.2.2.1, r.1.2.2.2.2.1, r.1.2.2.2.2.2.1, r.1.2.2.2.2.2.2.1, r.1.2.2.2.2.2.2.2.1, r.1.2.2.2.2.2.2.2.2.1, r.1.2.2.2.2.2.2.2.2.2.1, r.1.2.2.2.2.2.2.2.2.2.2.1, [], r.1.2.2.2.2.2.2.2.2.2.2.2.2.1, r.1.2.2.2.2.2.2.2.2.2.2.2.2.2.1, r.1.2.2.2.2.2.2.2.2.2.2.2.2.2.2.1, r.1.2.2.2.2.2.2.2.2.2.2.2.2.2.2.2.1, r.1.2.2.2.2.2.2.2.2.2.2.2.2.2.2.2.2) q.1 q.2.1 q.2.2.1 q.2.2.2.1 none 0 q.2.2.2.2.1 q.2.2.2.2.2.1 q.2.2.2.2.2.2.1 q.2.2.2.2.2.2.2.1 q.2.2.2.2.2.2.2.2.1 q.2.2.2.2.2.2.2.2.2).toArray, .bool r.2]) (fun q => [⟨(.int .i64), ⟨q.1, r.1.2.2.1.1.length, q.2.1⟩, r.1.2.2.1.1⟩, ⟨(.sl (.int .i64)), ⟨q.2.2.1, r.1.2.2.2.2.2.2.2.2.2.2.1.length, q.2.2.2.1⟩, r.1.2.2.2.2.2.2.2.2.2.2.1⟩, ⟨(.int .i64), ⟨q.2.2.2.2.1, r.1.2.2.2.2.2.2.2.2.2.2.2.2.2.1.1.length, q.2.2.2.2.2.1⟩, r.1.2.2.2.2.2.2.2.2.2.2.2.2.2.1.1⟩, ⟨(.int .i64), ⟨q.2.2.2.2.2.2.1, r.1.2.2.2.2.2.2.2.2.2.2.2.2.2.2.1.length, q.2.2.2.2.2.2.2.1⟩, r.1.2.2.2.2.2.2.2.2.2.2.2.2.2.2.1⟩, ⟨(.int .i64), ⟨q.2.2.2.2.2.2.2.2.1, r.1.2.2.2.2.2.2.2.2.2.2.2.2.2.2.2.2.1.length, q.2.2.2.2.2.2.2.2.2⟩, r.1.2.2.2.2.2.2.2.2.2.2.2.2.2.2.2.2.1⟩]) :=
  by
    subst hl8
    subst hl12
    subst hl16
    subst hl20
    subst hl24
    subst hl28
    subst hl32
    subst hl36
    refine FC.of (T := TTx) Tryz.call16 Tryz.func16 rfl rfl fun w0 => ?_
    unfold M_i_ShowHit at h
    refine JS.rgB ttOk 4 [] [10, 11, 12] [(4, .bp 10 0), (5, .bp 11 0), (8, .bp 12 0)] (.new 10 46 (cl46 x0 a5 c6 a9 c10 a13 c14 a17 c18 a21 c22 a25 c26) (.new 11 50 [.int .i64 x1.1, .slice a29 x1.2.length c30] (.new 12 46 (cl46 (false, 0, ([], 0), 0, 0, 0, 0, 0, 0, 0, [], [], 0, ([], 0), [], 0, ([], 0)) none 0 none 0 none 0 none 0 none 0 none 0) .nil))) ⟨(Es rfl), (Bs rfl rfl)⟩ rfl rfl (JS.seq (JS.seq (JS.region (JO.reg ttOk 1 [] [] [(20, .v (.agg (cl46 x0 a5 c6 a9 c10 a13 c14 a17 c18 a21 c22 a25 c26).toArray))] _ rfl ⟨⟨rfl, trivial⟩, rfl⟩ ?_))))
    obtain ⟨y37, hy38, h⟩ := bindO_some h
    refine JO.call rfl rfl rfl rfl (ok_i_EdOk x0 a5 c6 x0.2.2.1.1.length rfl a9 c10 x0.2.2.2.2.2.2.2.2.2.2.1.length rfl a13 c14 x0.2.2.2.2.2.2.2.2.2.2.2.1.length rfl a17 c18 x0.2.2.2.2.2.2.2.2.2.2.2.2.2.1.1.length rfl a21 c22 x0.2.2.2.2.2.2.2.2.2.2.2.2.2.2.1.length rfl a25 c26 x0.2.2.2.2.2.2.2.2.2.2.2.2.2.2.2.2.1.length rfl _ hy38) rfl [0, 1, 2, 3, 4, 5] rfl rfl fun _ _ => JO.reg ttOk 11 [] [] [(32, .v (.bool (bif (bif (!y37) then true else (!(decide (x0.2.1 = 3)))) then true else (decide (40 < (x3.length : Int))))))] _ rfl ⟨⟨rfl, trivial⟩, rfl⟩ (JO.done rfl ?_)
    refine JS.cond rfl (fun ht185 => ?_) (fun ht185 => ?_)
    · have h := condT h ht185
      refine JS.rgB ttOk 3 [] [] [(9, .v (.bool false))] (.new 12 46 (cl46 (false, 0, ([], 0), 0, 0, 0, 0, 0, 0, 0, [], [], 0, ([], 0), [], 0, ([], 0)) none 0 none 0 none 0 none 0 none 0 none 0) .nil) ⟨⟨rfl, trivial⟩, (Bs rfl rfl)⟩ rfl rfl ?_
      cases h
      refine JS.nilO (.int .i64) Sl.nil rfl rfl (JS.nilO (.sl (.int .i64)) Sl.nil rfl rfl (JS.nilO (.int .i64) Sl.nil rfl rfl (JS.nilO (.int .i64) Sl.nil rfl rfl (JS.nilO (.int .i64) Sl.nil rfl rfl (JS.ret ttOk (none, 0, none, 0, none, 0, none, 0, none, 0) trivial rfl rfl [4, 3, 2, 1, 0] rfl)))))
    have h := condF h ht185
    refine JS.skip (JS.seq (JS.rg0 ttOk 3 [(34, .v (.slice a33 x3.length c34)), (35, .v (.int .i64 (x3.length : Int))), (36, .v (.int .i64 0))] ⟨(Es rfl), rfl⟩ rfl rfl ?_))
    obtain ⟨j122, hj184, h⟩ := joinO_some h
    refine JS.blockJ (ι := Unit) ⟨fun _ => j122 () = some r, fun _ => [(2, .v (.int .i64 x2)), (3, .v (.slice a33 x3.length c34)), (4, .bp 10 0), (5, .bp 11 0), (8, .bp 12 0)], fun _ => (.new 10 46 (cl46 x0 a5 c6 a9 c10 a13 c14 a17 c18 a21 c22 a25 c26) (.new 11 50 [.int .i64 x1.1, .slice a29 x1.2.length c30] (.new 12 46 (cl46 (false, 0, ([], 0), 0, 0, 0, 0, 0, 0, 0, [], [], 0, ([], 0), [], 0, ([], 0)) none 0 none 0 none 0 none 0 none 0 none 0) .nil))), fun _ => [⟨(.int .i64), ⟨a33, x3.length, c34⟩, x3⟩, ⟨(.int .i64), ⟨a5, x0.2.2.1.1.length, c6⟩, x0.2.2.1.1⟩, ⟨(.sl (.int .i64)), ⟨a9, x0.2.2.2.2.2.2.2.2.2.2.1.length, c10⟩, x0.2.2.2.2.2.2.2.2.2.2.1⟩, ⟨(.pair (.sl (.int .i64)) (.int .i64)), ⟨a13, x0.2.2.2.2.2.2.2.2.2.2.2.1.length, c14⟩, x0.2.2.2.2.2.2.2.2.2.2.2.1⟩, ⟨(.int .i64), ⟨a17, x0.2.2.2.2.2.2.2.2.2.2.2.2.2.1.1.length, c18⟩, x0.2.2.2.2.2.2.2.2.2.2.2.2.2.1.1⟩, ⟨(.int .i64), ⟨a21, x0.2.2.2.2.2.2.2.2.2.2.2.2.2.2.1.length, c22⟩, x0.2.2.2.2.2.2.2.2.2.2.2.2.2.2.1⟩, ⟨(.int .i64), ⟨a25, x0.2.2.2.2.2.2.2.2.2.2.2.2.2.2.2.2.1.length, c26⟩, x0.2.2.2.2.2.2.2.2.2.2.2.2.2.2.2.2.1⟩, ⟨.str, ⟨a29, x1.2.length, c30⟩, x1.2⟩, ⟨(.int .i64), ⟨(some ⟨0, 0, none⟩), 1, 1⟩, [gm0]⟩], fun _ => [], fun _ => 0⟩ ?_ ?_
    · refine JS.loop (ι := Nat × Int) ⟨fun z => fixF (M_i_ShowHit_L1 x3 j122) z.1 z.2 = some r, fun z => [(2, .v (.int .i64 x2)), (3, .v (.slice a33 x3.length c34)), (4, .bp 10 0), (5, .bp 11 0), (8, .bp 12 0), (34, .v (.slice a33 x3.length c34)), (35, .v (.int .i64 (x3.length : Int))), (36, .v (.int .i64 z.2))], fun z => (.new 10 46 (cl46 x0 a5 c6 a9 c10 a13 c14 a17 c18 a21 c22 a25 c26) (.new 11 50 [.int .i64 x1.1, .slice a29 x1.2.length c30] (.new 12 46 (cl46 (false, 0, ([], 0), 0, 0, 0, 0, 0, 0, 0, [], [], 0, ([], 0), [], 0, ([], 0)) none 0 none 0 none 0 none 0 none 0 none 0) .nil))), fun z => [⟨(.int .i64), ⟨a33, x3.length, c34⟩, x3⟩, ⟨(.int .i64), ⟨a5, x0.2.2.1.1.length, c6⟩, x0.2.2.1.1⟩, ⟨(.sl (.int .i64)), ⟨a9, x0.2.2.2.2.2.2.2.2.2.2.1.length, c10⟩, x0.2.2.2.2.2.2.2.2.2.2.1⟩, ⟨(.pair (.sl (.int .i64)) (.int .i64)), ⟨a13, x0.2.2.2.2.2.2.2.2.2.2.2.1.length, c14⟩, x0.2.2.2.2.2.2.2.2.2.2.2.1⟩, ⟨(.int .i64), ⟨a17, x0.2.2.2.2.2.2.2.2.2.2.2.2.2.1.1.length, c18⟩, x0.2.2.2.2.2.2.2.2.2.2.2.2.2.1.1⟩, ⟨(.int .i64), ⟨a21, x0.2.2.2.2.2.2.2.2.2.2.2.2.2.2.1.length, c22⟩, x0.2.2.2.2.2.2.2.2.2.2.2.2.2.2.1⟩, ⟨(.int .i64), ⟨a25, x0.2.2.2.2.2.2.2.2.2.2.2.2.2.2.2.2.1.length, c26⟩, x0.2.2.2.2.2.2.2.2.2.2.2.2.2.2.2.2.1⟩, ⟨.str, ⟨a29, x1.2.length, c30⟩, x1.2⟩, ⟨(.int .i64), ⟨(some ⟨0, 0, none⟩), 1, 1⟩, [gm0]⟩], fun z => [], fun z => z.1⟩ (FUEL, 0) h (Es rfl) (Bs rfl rfl) [7, 0, 1, 2, 3, 4, 5, 6, 8] rfl [] rfl ?_
      rintro ⟨n118, x39⟩ h
      obtain ⟨n118, rfl, h⟩ := fixF_some h
      rw [M_i_ShowHit_L1] at h
      refine JS.rg0 ttOk 1 [(37, .v (.bool (decide (x39 < (x3.length : Int)))))] ⟨⟨rfl, trivial⟩, rfl⟩ rfl rfl (JS.seq ?_)
      refine JS.cond rfl (fun ht180 => ?_) (fun ht180 => ?_)
      · have h := condT h ht180
        refine JS.skip (JS.seq (JS.block (JS.seq (JS.region (JO.know 0 rfl fun hs178 => ?_)))))
        obtain ⟨g109, h⟩ := guardO_some h
        refine JO.reg ttOk 1 [] [] [(38, .ep ⟨a33, x3.length, c34⟩ (Int.toNat x39 * 1))] _ rfl ⟨hs178.ix g109, ⟨rfl, trivial⟩, rfl⟩ (JO.load ttOk rfl rfl rfl rfl rfl rfl rfl 0 rfl rfl (Int.toNat x39) 0 (at' x3 x39) ⟨at_some g109, rfl⟩ rfl rfl (JO.reg ttOk 1 [] [] [(11, .v (.int .i64 (at' x3 x39)))] _ rfl ⟨⟨rfl, trivial⟩, rfl⟩ (JO.done rfl (JS.seq (JS.region (JO.reg ttOk 1 [] [] [(40, .v (.int .i64 (at' x3 x39)))] _ rfl ⟨⟨rfl, trivial⟩, rfl⟩ ?_))))))
        obtain ⟨y110, hy111, h⟩ := bindO_some h
        refine JO.call rfl rfl rfl rfl (ok_i_Printable (at' x3 x39) _ hy111) rfl [] rfl rfl fun _ _ => JO.reg ttOk 1 [] [] [(42, .v (.bool (!y110)))] _ rfl ⟨⟨rfl, trivial⟩, rfl⟩ (JO.done rfl ?_)
        refine JS.cond rfl (fun ht179 => ?_) (fun ht179 => ?_)
        · have h := condT h ht179
          refine JS.rgB ttOk 3 [] [] [(9, .v (.bool false))] (.new 12 46 (cl46 (false, 0, ([], 0), 0, 0, 0, 0, 0, 0, 0, [], [], 0, ([], 0), [], 0, ([], 0)) none 0 none 0 none 0 none 0 none 0 none 0) .nil) ⟨⟨rfl, trivial⟩, (Bs rfl rfl)⟩ rfl rfl ?_
          cases h
          refine JS.nilO (.int .i64) Sl.nil rfl rfl (JS.nilO (.sl (.int .i64)) Sl.nil rfl rfl (JS.nilO (.int .i64) Sl.nil rfl rfl (JS.nilO (.int .i64) Sl.nil rfl rfl (JS.nilO (.int .i64) Sl.nil rfl rfl (JS.ret ttOk (none, 0, none, 0, none, 0, none, 0, none, 0) trivial rfl rfl [4, 3, 2, 1, 0] rfl)))))
        have h := condF h ht179
        refine JS.skip (JS.endB (JS.re ttOk 2 [(W (x39 + 1))] [] [(36, .v (.int .i64 (W (x39 + 1))))] _ ⟨⟨trivial, rfl⟩, ⟨rfl, trivial⟩, rfl⟩ rfl rfl (JS.endL (n118, (W (x39 + 1))) h (Nat.lt_succ_self _) (Es rfl) (Bs rfl rfl) [0, 1, 2, 3, 4, 5, 6, 7, 8] rfl [] rfl)))
      have h := condF h ht180
      refine JS.exit rfl (JS.endJ () h (Es rfl) (Bs rfl rfl) [0, 1, 2, 3, 4, 5, 6, 7, 8] rfl [] rfl)
    rintro _ h
    subst hj184
    refine JS.seq (JS.region (JO.reg ttOk 2 [] [] [(46, .v (.agg #[.int .i64 x1.1, .slice a29 x1.2.length c30])), (47, .v (.int .i64 x2))] _ rfl ⟨(Es rfl), rfl⟩ ?_))
    obtain ⟨⟨y126, y127⟩, hy128, h⟩ := bindO_some h
    refine JO.call rfl rfl rfl rfl (ok_i_HistGet x1 x2 a29 c30 x1.2.length rfl _ hy128) rfl [7] rfl rfl fun _ _ => JO.reg ttOk 5 [] [] [(12, .v (.string (bs y126))), (13, .v (.bool y127))] _ rfl ⟨(Es rfl), rfl⟩ (JO.done rfl (JS.seq (JS.region (JO.reg ttOk 1 [] [] [(52, .v (.string (bs y126)))] _ rfl ⟨⟨rfl, trivial⟩, rfl⟩ ?_))))
    obtain ⟨⟨y129, y130⟩, hy131, h⟩ := bindO_some h
    refine JO.call rfl rfl rfl rfl (ok_i_LineOf y126 _ hy131) rfl [] rfl rfl ?_
    rintro ⟨a132, c133⟩ -
    refine JO.regB ttOk 6 [] [112] [(14, .bp 112 0), (15, .v (.bool y130))] (.new 10 46 (cl46 x0 a5 c6 a9 c10 a13 c14 a17 c18 a21 c22 a25 c26) (.new 12 46 (cl46 (false, 0, ([], 0), 0, 0, 0, 0, 0, 0, 0, [], [], 0, ([], 0), [], 0, ([], 0)) none 0 none 0 none 0 none 0 none 0 none 0) (.new 112 38 [.slice a132 y129.1.length c133, .int .i64 y129.2] .nil))) rfl ⟨(Es rfl), (Bs rfl rfl)⟩ (JO.done rfl (JS.seq (JS.region (JO.reg ttOk 2 [] [] [(56, .v (.string (bs y126))), (57, .v (.slice a33 x3.length c34))] _ rfl ⟨(Es rfl), rfl⟩ ?_))))
    obtain ⟨y134, hy135, h⟩ := bindO_some h
    refine JO.call rfl rfl rfl rfl (ok_i_TextOf x3 a33 c34 x3.length rfl _ hy135) rfl [0] rfl rfl fun _ _ => ?_
    obtain ⟨y136, hy137, h⟩ := bindO_some h
    refine JO.call rfl rfl rfl rfl (ok_strings_Index y126 y134 gm0 _ hy137) rfl [8] rfl rfl fun _ _ => JO.reg ttOk 1 [] [] [(16, .v (.int .i64 y136))] _ rfl ⟨⟨rfl, trivial⟩, rfl⟩ (JO.done rfl (JS.seq (JS.rg0 ttOk 10 [(69, .v (.bool (bif (bif (!y127) then true else (!y130)) then true else (decide (y136 < 0)))))] ⟨⟨rfl, trivial⟩, rfl⟩ rfl rfl ?_)))
    refine JS.cond rfl (fun ht183 => ?_) (fun ht183 => ?_)
    · have h := condT h ht183
      refine JS.rgB ttOk 3 [] [] [(9, .v (.bool false))] (.new 12 46 (cl46 (false, 0, ([], 0), 0, 0, 0, 0, 0, 0, 0, [], [], 0, ([], 0), [], 0, ([], 0)) none 0 none 0 none 0 none 0 none 0 none 0) .nil) ⟨⟨rfl, trivial⟩, (Bs rfl rfl)⟩ rfl rfl ?_
      cases h
      refine JS.nilO (.int .i64) Sl.nil rfl rfl (JS.nilO (.sl (.int .i64)) Sl.nil rfl rfl (JS.nilO (.int .i64) Sl.nil rfl rfl (JS.nilO (.int .i64) Sl.nil rfl rfl (JS.nilO (.int .i64) Sl.nil rfl rfl (JS.ret ttOk (none, 0, none, 0, none, 0, none, 0, none, 0) trivial rfl rfl [4, 3, 2, 1, 0] rfl)))))
    have h := condF h ht183
    refine JS.skip (JS.seq (JS.region ?_))
    obtain ⟨g138, h⟩ := guardO_some h
    refine JO.reg ttOk 3 [] [] [(74, .v (.string (bs (sub' y126 0 y136))))] _ rfl ⟨g138, ⟨rfl, trivial⟩, rfl⟩ ?_
    obtain ⟨⟨y139, y140⟩, hy141, h⟩ := bindO_some h
    refine JO.call rfl rfl rfl rfl (ok_i_RunesOf (sub' y126 0 y136) _ hy141) rfl [] rfl rfl ?_
    rintro ⟨a142, c143⟩ -
    refine JO.reg ttOk 5 [] [] [(17, .v (.slice a142 y139.length c143))] _ rfl ⟨⟨rfl, trivial⟩, rfl⟩ (JO.done rfl (JS.rgB ttOk 4 [] [] [] (.new 10 46 (cl46 x0 a5 c6 a9 c10 a13 c14 a17 c18 a21 c22 a25 c26) (.new 12 46 (cl46 (false, 0, ([], 0), 0, 0, 0, 0, 0, 0, 0, [], [], 0, ([], 0), [], 0, ([], 0)) none 0 none 0 none 0 none 0 none 0 none 0) (.new 112 38 [.slice a132 y129.1.length c133, .int .i64 (y139.length : Int)] .nil))) ⟨trivial, (Bs rfl rfl)⟩ rfl rfl (JS.seq (JS.region (JO.reg ttOk 1 [] [] [(81, .v (.agg (cl46 x0 a5 c6 a9 c10 a13 c14 a17 c18 a21 c22 a25 c26).toArray))] _ rfl ⟨⟨rfl, trivial⟩, rfl⟩ ?_)))))
    obtain ⟨y144, hy145, h⟩ := bindO_some h
    refine JO.call rfl rfl rfl rfl (ok_i_copyEd x0 a5 c6 x0.2.2.1.1.length rfl a9 c10 x0.2.2.2.2.2.2.2.2.2.2.1.length rfl a13 c14 x0.2.2.2.2.2.2.2.2.2.2.2.1.length rfl a17 c18 x0.2.2.2.2.2.2.2.2.2.2.2.2.2.1.1.length rfl a21 c22 x0.2.2.2.2.2.2.2.2.2.2.2.2.2.2.1.length rfl a25 c26 x0.2.2.2.2.2.2.2.2.2.2.2.2.2.2.2.2.1.length rfl _ hy145) rfl [1, 2, 3, 4, 5, 6] rfl rfl ?_
    rintro ⟨a146, c147, a148, c149, a150, c151, a152, c153, a154, c155, a156, c157⟩ -
    refine JO.regB ttOk 2 [] [144] [(19, .bp 144 0)] (.new 10 46 (cl46 x0 a5 c6 a9 c10 a13 c14 a17 c18 a21 c22 a25 c26) (.new 12 46 (cl46 (false, 0, ([], 0), 0, 0, 0, 0, 0, 0, 0, [], [], 0, ([], 0), [], 0, ([], 0)) none 0 none 0 none 0 none 0 none 0 none 0) (.new 112 38 [.slice a132 y129.1.length c133, .int .i64 (y139.length : Int)] (.new 144 46 (cl46 y144 a146 c147 a148 c149 a150 c151 a152 c153 a154 c155 a156 c157) .nil)))) rfl ⟨⟨rfl, trivial⟩, (Bs rfl rfl)⟩ (JO.done rfl ?_)
    obtain ⟨j167, hj182, h⟩ := joinO_some h
    refine JS.seqJ (ι := List Int × Int × Option Addr × Nat) ⟨fun z => j167 (z.1, z.2.1) = some r, fun z => [(2, .v (.int .i64 x2)), (3, .v (.slice a33 x3.length c34)), (8, .bp 12 0), (14, .bp 112 0), (19, .bp 144 0)], fun z => (.new 12 46 (cl46 (false, 0, ([], 0), 0, 0, 0, 0, 0, 0, 0, [], [], 0, ([], 0), [], 0, ([], 0)) none 0 none 0 none 0 none 0 none 0 none 0) (.new 112 38 [.slice a132 y129.1.length c133, .int .i64 (y139.length : Int)] (.new 144 46 (cl46 (y144.1, y144.2.1, y144.2.2.1, y144.2.2.2.1, y144.2.2.2.2.1, y144.2.2.2.2.2.1, y144.2.2.2.2.2.2.1, y144.2.2.2.2.2.2.2.1, y144.2.2.2.2.2.2.2.2.1, y144.2.2.2.2.2.2.2.2.2.1, y144.2.2.2.2.2.2.2.2.2.2.1, y144.2.2.2.2.2.2.2.2.2.2.2.1, y144.2.2.2.2.2.2.2.2.2.2.2.2.1, (z.1, z.2.1), y144.2.2.2.2.2.2.2.2.2.2.2.2.2.2.1, y144.2.2.2.2.2.2.2.2.2.2.2.2.2.2.2.1, y144.2.2.2.2.2.2.2.2.2.2.2.2.2.2.2.2) a146 c147 a148 c149 a150 c151 z.2.2.1 z.2.2.2 a154 c155 a156 c157) .nil))), fun z => [⟨(.int .i64), ⟨a33, x3.length, c34⟩, x3⟩, ⟨(.int .i64), ⟨(some ⟨0, 0, none⟩), 1, 1⟩, [gm0]⟩], fun z => [⟨(.int .i64), ⟨z.2.2.1, z.1.length, z.2.2.2⟩, z.1⟩, ⟨(.int .i64), ⟨a132, y129.1.length, c133⟩, y129.1⟩, ⟨(.int .i64), ⟨a146, y144.2.2.1.1.length, c147⟩, y144.2.2.1.1⟩, ⟨(.sl (.int .i64)), ⟨a148, y144.2.2.2.2.2.2.2.2.2.2.1.length, c149⟩, y144.2.2.2.2.2.2.2.2.2.2.1⟩, ⟨(.pair (.sl (.int .i64)) (.int .i64)), ⟨a150, y144.2.2.2.2.2.2.2.2.2.2.2.1.length, c151⟩, y144.2.2.2.2.2.2.2.2.2.2.2.1⟩, ⟨(.int .i64), ⟨a154, y144.2.2.2.2.2.2.2.2.2.2.2.2.2.2.1.length, c155⟩, y144.2.2.2.2.2.2.2.2.2.2.2.2.2.2.1⟩, ⟨(.int .i64), ⟨a156, y144.2.2.2.2.2.2.2.2.2.2.2.2.2.2.2.2.1.length, c157⟩, y144.2.2.2.2.2.2.2.2.2.2.2.2.2.2.2.2.1⟩], fun z => 0⟩ ?_ ?_
    · refine JS.rg0 ttOk 3 [(85, .v (.bool (decide (x0.2.2.2.2.2.2.2.2.2.2.2.2.1 = 0))))] ⟨⟨rfl, trivial⟩, rfl⟩ rfl rfl ?_
      refine JS.cond rfl (fun ht181 => ?_) (fun ht181 => ?_)
      · have h := condT h ht181
        refine JS.region (JO.reg ttOk 2 [] [] [(87, .v (.agg #[.slice a25 x0.2.2.2.2.2.2.2.2.2.2.2.2.2.2.2.2.1.length c26, .int .i64 x0.2.2.2.2.2.2.2.2.2.2.2.2.2.2.2.2.2]))] _ rfl ⟨⟨rfl, trivial⟩, rfl⟩ ?_)
        obtain ⟨y158, hy159, h⟩ := bindO_some h
        refine JO.call rfl rfl rfl rfl (ok_i_copyLine x0.2.2.2.2.2.2.2.2.2.2.2.2.2.2.2.2 a25 c26 x0.2.2.2.2.2.2.2.2.2.2.2.2.2.2.2.2.1.length rfl _ hy159) rfl [6] rfl rfl ?_
        rintro ⟨a160, c161⟩ -
        refine JO.regB ttOk 2 [] [] [] (.new 12 46 (cl46 (false, 0, ([], 0), 0, 0, 0, 0, 0, 0, 0, [], [], 0, ([], 0), [], 0, ([], 0)) none 0 none 0 none 0 none 0 none 0 none 0) (.new 112 38 [.slice a132 y129.1.length c133, .int .i64 (y139.length : Int)] (.new 144 46 (cl46 (y144.1, y144.2.1, y144.2.2.1, y144.2.2.2.1, y144.2.2.2.2.1, y144.2.2.2.2.2.1, y144.2.2.2.2.2.2.1, y144.2.2.2.2.2.2.2.1, y144.2.2.2.2.2.2.2.2.1, y144.2.2.2.2.2.2.2.2.2.1, y144.2.2.2.2.2.2.2.2.2.2.1, y144.2.2.2.2.2.2.2.2.2.2.2.1, y144.2.2.2.2.2.2.2.2.2.2.2.2.1, y158, y144.2.2.2.2.2.2.2.2.2.2.2.2.2.2.1, y144.2.2.2.2.2.2.2.2.2.2.2.2.2.2.2.1, y144.2.2.2.2.2.2.2.2.2.2.2.2.2.2.2.2) a146 c147 a148 c149 a150 c151 a160 c161 a154 c155 a156 c157) .nil))) rfl ⟨trivial, (Bs rfl rfl)⟩ (JO.done rfl (JS.endJA (y158.1, y158.2, a160, c161) h (Es rfl) (Bs rfl rfl) [0, 8] rfl [0, 8, 1, 2, 3, 5, 6] rfl rfl))
      have h := condF h ht181
      refine JS.skip (JS.endJA (y144.2.2.2.2.2.2.2.2.2.2.2.2.2.1.1, y144.2.2.2.2.2.2.2.2.2.2.2.2.2.1.2, a152, c153) h (Es rfl) (Bs rfl rfl) [0, 8] rfl [3, 7, 0, 1, 2, 4, 5] rfl rfl)
    rintro ⟨x163, x166, a164, c165⟩ h
    subst hj182
    refine JS.seq ?_
    obtain ⟨y169, hy170, h⟩ := bindO_some h
    refine JS.regionA rfl (.new 112 38 [.slice a132 y129.1.length c133, .int .i64 (y139.length : Int)] .nil) [] [6, 7, 8, 9, 10, 11, 12, 13, 14, 15] ⟨rfl, rfl, rfl, rfl, trivial⟩ rfl (fun be173 => ?_)
    refine JA.reg ttOk panic_cx true 15 [0] rfl (by kernel_rfl) [] [(90, .v (.agg #[.slice a132 y129.1.length c133, .int .i64 (y139.length : Int)]))] ⟨rfl, rfl, rfl, rfl, trivial⟩ [] rfl rfl ⟨rfl, trivial⟩ (JA.regL ttOk panic_cx 10 [1, 3, 4, 5, 6] rfl (by kernel_rfl) [] [(91, .v (.slice a33 x3.length c34)), (93, .v (.int .i64 x2)), (94, .v (.int .i64 x2)), (95, .v (.agg #[.slice none 0 0])), (96, .bp 144 2)] rfl (Es rfl) (JA.one 2 (by kernel_rfl) (JK.call rfl rfl rfl rfl (ok_i_copyInts x3 a33 c34 x3.length rfl _ hy170) rfl [0] rfl rfl ?_)))
    rintro ⟨a171, c172⟩ -
    refine JA.next ⟨rfl, rfl, rfl, rfl, trivial⟩ [] rfl (JA.one 7 (by kernel_rfl) (JK.stBox ttOk rfl rfl rfl rfl rfl rfl rfl rfl (JA.nextL rfl (JA.regL ttOk panic_cx 7 [8] rfl (by kernel_rfl) [] [(97, .bp 144 16)] rfl ⟨rfl, trivial⟩ (JA.one 9 (by kernel_rfl) (JK.stBox ttOk rfl rfl rfl rfl rfl rfl rfl rfl (JA.nextL rfl (JA.regL ttOk panic_cx 5 [10] rfl (by kernel_rfl) [] [(98, .bp 144 17)] rfl ⟨rfl, trivial⟩ (JA.one 11 (by kernel_rfl) (JK.stBox ttOk rfl rfl rfl rfl rfl rfl rfl rfl (JA.nextL rfl (JA.regL ttOk panic_cx 3 [12] rfl (by kernel_rfl) [] [(99, .bp 144 13)] rfl ⟨rfl, trivial⟩ (JA.one 13 (by kernel_rfl) (JK.stBox ttOk rfl rfl rfl rfl rfl rfl rfl rfl (JA.nextL rfl (JA.regL ttOk panic_cx 1 [14] rfl (by kernel_rfl) [] [(100, .bp 144 12)] rfl ⟨rfl, trivial⟩ (JA.one 15 (by kernel_rfl) (JK.stBox ttOk rfl rfl rfl rfl rfl rfl rfl rfl (JA.nextL rfl (JA.done (by kernel_rfl) (JS.boxes (B' := (.new 12 46 (cl46 (false, 0, ([], 0), 0, 0, 0, 0, 0, 0, 0, [], [], 0, ([], 0), [], 0, ([], 0)) none 0 none 0 none 0 none 0 none 0 none 0) (.new 144 46 (cl46 (y144.1, y144.2.1, (y129.1, (y139.length : Int)), y144.2.2.2.1, y144.2.2.2.2.1, y144.2.2.2.2.2.1, y144.2.2.2.2.2.2.1, y144.2.2.2.2.2.2.2.1, y144.2.2.2.2.2.2.2.2.1, y144.2.2.2.2.2.2.2.2.2.1, y144.2.2.2.2.2.2.2.2.2.2.1, [], x2, (x163, x166), y169, x2, y144.2.2.2.2.2.2.2.2.2.2.2.2.2.2.2.2) a132 c133 a148 c149 none 0 a164 c165 a171 c172 a156 c157) .nil))) (Bs rfl rfl) (JS.rgB ttOk 3 [] [] [(9, .v (.bool true))] (.new 12 46 (cl46 (y144.1, y144.2.1, (y129.1, (y139.length : Int)), y144.2.2.2.1, y144.2.2.2.2.1, y144.2.2.2.2.2.1, y144.2.2.2.2.2.2.1, y144.2.2.2.2.2.2.2.1, y144.2.2.2.2.2.2.2.2.1, y144.2.2.2.2.2.2.2.2.2.1, y144.2.2.2.2.2.2.2.2.2.2.1, [], x2, (x163, x166), y169, x2, y144.2.2.2.2.2.2.2.2.2.2.2.2.2.2.2.2) a132 c133 a148 c149 none 0 a164 c165 a171 c172 a156 c157) .nil) ⟨⟨rfl, trivial⟩, (Bs rfl rfl)⟩ rfl rfl ?_))))))))))))))))))))))
    cases h
    exact JS.ret ttOk (a132, c133, a148, c149, a164, c165, a171, c172, a156, c157) trivial rfl rfl [2, 3, 1, 0, 3] rfl

def M_i_hunt (x0 : Bool × Int × (List Int × Int) × Int × Int × Int × Int × Int × Int × Int × List (List Int) × (List (List Int × Int)) × Int × (List Int × Int) × List Int × Int × List Int × Int) (x1 : Int × List (List UInt8)) (x2 : List Int) (x3 : Int) : Option ((Bool × Int × (List Int × Int) × Int × Int × Int × Int × Int × Int × Int × List (List Int) × (List (List Int × Int)) × Int × (List Int × Int) × List Int × Int × List Int × Int) × Int) :=
  (joinO (fun (x40 : Int) =>
  (bindO (M_i_TextOf x2) fun (y43 : List UInt8) =>
  (bindO (M_i_HistFind x1 y43 x40 (-1) false) fun (y45 : Int) =>
  (bindO (M_i_ShowHit x0 x1 y45 x2) fun (y47, y48) =>
  (bif (!y48) then
  (bindO (M_i_copyEd x0) fun (y60 : Bool × Int × (List Int × Int) × Int × Int × Int × Int × Int × Int × Int × List (List Int) × (List (List Int × Int)) × Int × (List Int × Int) × List Int × Int × List Int × Int) =>
  some (y60, 1))
  else
  some ((y47.1, y47.2.1, y47.2.2.1, y47.2.2.2.1, y47.2.2.2.2.1, y47.2.2.2.2.2.1, y47.2.2.2.2.2.2.1, y47.2.2.2.2.2.2.2.1, y47.2.2.2.2.2.2.2.2.1, y47.2.2.2.2.2.2.2.2.2.1, y47.2.2.2.2.2.2.2.2.2.2.1, [], y47.2.2.2.2.2.2.2.2.2.2.2.2.1, y47.2.2.2.2.2.2.2.2.2.2.2.2.2.1, y47.2.2.2.2.2.2.2.2.2.2.2.2.2.2.1, y47.2.2.2.2.2.2.2.2.2.2.2.2.2.2.2.1, y47.2.2.2.2.2.2.2.2.2.2.2.2.2.2.2.2), 0)))))) fun j41 =>
  (bif (decide (x0.2.2.2.2.2.2.2.2.2.2.2.2.2.2.2.1 = 0)) then
  (bindO (M_i_HistLast x1) fun (y37 : Int) =>
  j41 y37)
  else
  j41 x3))

theorem ok_i_hunt (x0 : Bool × Int × (List Int × Int) × Int × Int × Int × Int × Int × Int × Int × List (List Int) × (List (List Int × Int)) × Int × (List Int × Int) × List Int × Int × List Int × Int) (x1 : Int × List (List UInt8)) (x2 : List Int) (x3 : Int) (a5 : Option Addr) (c6 : Nat) (l7 : Nat) (hl8 : x0.2.2.1.1.length = l7) (a9 : Option Addr) (c10 : Nat) (l11 : Nat) (hl12 : x0.2.2.2.2.2.2.2.2.2.2.1.length = l11) (a13 : Option Addr) (c14 : Nat) (l15 : Nat) (hl16 : x0.2.2.2.2.2.2.2.2.2.2.2.1.length = l15) (a17 : Option Addr) (c18 : Nat) (l19 : Nat) (hl20 : x0.2.2.2.2.2.2.2.2.2.2.2.2.2.1.1.length = l19) (a21 : Option Addr) (c22 : Nat) (l23 : Nat) (hl24 : x0.2.2.2.2.2.2.2.2.2.2.2.2.2.2.1.length = l23) (a25 : Option Addr) (c26 : Nat) (l27 : Nat) (hl28 : x0.2.2.2.2.2.2.2.2.2.2.2.2.2.2.2.2.1.length = l27) (a29 : Option Addr) (c30 : Nat) (l31 : Nat) (hl32 : x1.2.length = l31) (a33 : Option Addr) (c34 : Nat) (l35 : Nat) (hl36 : x2.length = l35) (gm0 : Int) (r : (Bool × Int × (List Int × Int) × Int × Int × Int × Int × Int × Int × Int × List (List Int) × (List (List Int × Int)) × Int × (List Int × Int) × List Int × Int × List Int × Int) × Int) (h : M_i_hunt x0 x1 x2 x3 = some r) :
    FC Tryz.prog 85 [.agg #[.bool x0.1, .int .i64 x0.2.1, .slice a5 l7 c6, .int .i64 x0.2.2.1.2, .int .i64 x0.2.2.2.1, .int .i64 x0.2.2.2.2.1, .int .i64 x0.2.2.2.2.2.1, .int .i64 x0.2.2.2.2.2.2.1, .int .i64 x0.2.2.2.2.2.2.2.1, .int .i64 x0.2.2.2.2.2.2.2.2.1, .int .i64 x0.2.2.2.2.2.2.2.2.2.1, .slice a9 l11 c10, .slice a13 l15 c14, .int .i64 x0.2.2.2.2.2.2.2.2.2.2.2.2.1, .slice a17 l19 c18, .int .i64 x0.2.2.2.2.2.2.2.2.2.2.2.2.2.1.2, .slice a21 l23 c22, .int .i64 x0.2.2.2.2.2.2.2.2.2.2.2.2.2.2.2.1, .slice a25 l27 c26, .int .i64 x0.2.2.2.2.2.2.2.2.2.2.2.2.2.2.2.2.2], .agg #[.int .i64 x1.1, .slice a29 l31 c30], .slice a33 l35 c34, .int .i64 x3] [⟨(.int .i64), ⟨a5, l7, c6⟩, x0.2.2.1.1⟩, ⟨(.sl (.int .i64)), ⟨a9, l11, c10⟩, x0.2.2.2.2.2.2.2.2.2.2.1⟩, ⟨(.pair (.sl (.int .i64)) (.int .i64)), ⟨a13, l15, c14⟩, x0.2.2.2.2.2.2.2.2.2.2.2.1⟩, ⟨(.int .i64), ⟨a17, l19, c18⟩, x0.2.2.2.2.2.2.2.2.2.2.2.2.2.1.1⟩, ⟨(.int .i64), ⟨a21, l23, c22⟩, x0.2.2.2.2.2.2.2.2.2.2.2.2.2.2.1⟩, ⟨(.int .i64), ⟨a25, l27, c26⟩, x0.2.2.2.2.2.2.2.2.2.2.2.2.2.2.2.2.1⟩, ⟨.str, ⟨a29, l31, c30⟩, x1.2⟩, ⟨(.int .i64), ⟨a33, l35, c34⟩, x2⟩, ⟨(.int .i64), ⟨(some ⟨0, 0, none⟩), 1, 1⟩, [gm0]⟩] (fun _ : Option Addr × Nat × Option Addr × Nat × Option Addr × Nat × Option Addr × Nat × Option Addr × Nat × Option Addr × Nat => True) (fun q => .tuple #[.agg (cl46 r.1 q.1 q.2.1 q.2.2.1 q.2.2.2.1 q.2.2.2.2.1 q.2.2.2.2.2.1 q.2.2.2.2.2.2.1 q.2.2.2.2.2.2.2.1 q.2.2.2.2.2.2.2.2.1 q.2.2.2.2.2.2.2.2.2.1 q.2.2.2.2.2.2.2.2.2.2.1 q.2.2.2.2.2.2.2.2.2.2.2).toArray, .int .i64 r.2]) (fun q => [⟨(.int .i64), ⟨q.1, r.1.2.2.1.1.length, q.2.1⟩, r.1.2.2.1.1⟩, ⟨(.sl (.int .i64)), ⟨q.2.2.1, r.1.2.2.2.2.2.2.2.2.2.2.1.length, q.2.2.2.1⟩, r.1.2.2.2.2.2.2.2.2.2.2.1⟩, ⟨(.pair (.sl (.int .i64)) (.int .i64)), ⟨q.2.2.2.2.1, r.1.2.2.2.2.2.2.2.2.2.2.2.1.length, q.2.2.2.2.2.1⟩, r.1.2.2.2.2.2.2.2.2.2.2.2.1⟩, ⟨(.int .i64), ⟨q.2.2.2.2.2.2.1, r.1.2.2.2.2.2.2.2.2.2.2.2.2.2.1.1.length, q.2.2.2.2.2.2.2.1⟩, r.1.2.2.2.2.2.2.2.2.2.2.2.2.2.1.1⟩, ⟨(.int .i64), ⟨q.2.2.2.2.2.2.2.2.1, r.1.2.2.2.2.2.2.2.2.2.2.2.2.2.2.1.length, q.2.2.2.2.2.2.2.2.2.1⟩, r.1.2.2.2.2.2.2.2.2.2.2.2.2.2.2.1⟩, ⟨(.int .i64), ⟨q.2.2.2.2.2.2.2.2.2.2.1, r.1.2.2.2.2.2.2.2.2.2.2.2.2.2.2.2.2.1.length, q.2.2.2.2.2.2.2.2.2.2.2⟩, r.1.2.2.2.2.2.2.2.2.2.2.2.2.2.2.2.2.1⟩]) :=
  by
    subst hl8
    subst hl12
    subst hl16
    subst hl20
    subst hl24
    subst hl28
    subst hl32
    subst hl36
    refine FC.of (T := TTx) Tryz.call85 Tryz.func85 rfl rfl fun w0 => ?_
    unfold M_i_hunt at h
    refine JS.rgB ttOk 4 [] [10, 11, 12] [(4, .bp 10 0), (5, .bp 11 0), (8, .bp 12 0)] (.new 10 46 (cl46 x0 a5 c6 a9 c10 a13 c14 a17 c18 a21 c22 a25 c26) (.new 11 50 [.int .i64 x1.1, .slice a29 x1.2.length c30] (.new 12 46 (cl46 (false, 0, ([], 0), 0, 0, 0, 0, 0, 0, 0, [], [], 0, ([], 0), [], 0, ([], 0)) none 0 none 0 none 0 none 0 none 0 none 0) .nil))) ⟨(Es rfl), (Bs rfl rfl)⟩ rfl rfl ?_
    obtain ⟨j41, hj78, h⟩ := joinO_some h
    refine JS.seqJ (ι := Int) ⟨fun z => j41 z = some r, fun z => [(2, .v (.slice a33 x2.length c34)), (3, .v (.int .i64 z)), (4, .bp 10 0), (5, .bp 11 0), (8, .bp 12 0)], fun z => (.new 10 46 (cl46 x0 a5 c6 a9 c10 a13 c14 a17 c18 a21 c22 a25 c26) (.new 11 50 [.int .i64 x1.1, .slice a29 x1.2.length c30] (.new 12 46 (cl46 (false, 0, ([], 0), 0, 0, 0, 0, 0, 0, 0, [], [], 0, ([], 0), [], 0, ([], 0)) none 0 none 0 none 0 none 0 none 0 none 0) .nil))), fun z => [⟨(.int .i64), ⟨a33, x2.length, c34⟩, x2⟩, ⟨(.int .i64), ⟨a5, x0.2.2.1.1.length, c6⟩, x0.2.2.1.1⟩, ⟨(.sl (.int .i64)), ⟨a9, x0.2.2.2.2.2.2.2.2.2.2.1.length, c10⟩, x0.2.2.2.2.2.2.2.2.2.2.1⟩, ⟨(.pair (.sl (.int .i64)) (.int .i64)), ⟨a13, x0.2.2.2.2.2.2.2.2.2.2.2.1.length, c14⟩, x0.2.2.2.2.2.2.2.2.2.2.2.1⟩, ⟨(.int .i64), ⟨a17, x0.2.2.2.2.2.2.2.2.2.2.2.2.2.1.1.length, c18⟩, x0.2.2.2.2.2.2.2.2.2.2.2.2.2.1.1⟩, ⟨(.int .i64), ⟨a21, x0.2.2.2.2.2.2.2.2.2.2.2.2.2.2.1.length, c22⟩, x0.2.2.2.2.2.2.2.2.2.2.2.2.2.2.1⟩, ⟨(.int .i64), ⟨a25, x0.2.2.2.2.2.2.2.2.2.2.2.2.2.2.2.2.1.length, c26⟩, x0.2.2.2.2.2.2.2.2.2.2.2.2.2.2.2.2.1⟩, ⟨.str, ⟨a29, x1.2.length, c30⟩, x1.2⟩, ⟨(.int .i64), ⟨(some ⟨0, 0, none⟩), 1, 1⟩, [gm0]⟩], fun z => [], fun z => 0⟩ ?_ ?_
    · refine JS.rg0 ttOk 3 [(15, .v (.bool (decide (x0.2.2.2.2.2.2.2.2.2.2.2.2.2.2.2.1 = 0))))] ⟨⟨rfl, trivial⟩, rfl⟩ rfl rfl ?_
      refine JS.cond rfl (fun ht76 => ?_) (fun ht76 => ?_)
      · have h := condT h ht76
        refine JS.region (JO.reg ttOk 1 [] [] [(16, .v (.agg #[.int .i64 x1.1, .slice a29 x1.2.length c30]))] _ rfl ⟨⟨rfl, trivial⟩, rfl⟩ ?_)
        obtain ⟨y37, hy38, h⟩ := bindO_some h
        refine JO.call rfl rfl rfl rfl (ok_i_HistLast x1 a29 c30 x1.2.length rfl _ hy38) rfl [6] rfl rfl fun _ _ => JO.reg ttOk 1 [] [] [(3, .v (.int .i64 y37))] _ rfl ⟨⟨rfl, trivial⟩, rfl⟩ (JO.done rfl (JS.endJ y37 h (Es rfl) (Bs rfl rfl) [7, 0, 1, 2, 3, 4, 5, 6, 8] rfl [] rfl))
      have h := condF h ht76
      refine JS.skip (JS.endJ x3 h (Es rfl) (Bs rfl rfl) [7, 0, 1, 2, 3, 4, 5, 6, 8] rfl [] rfl)
    rintro x40 h
    subst hj78
    refine JS.seq ?_
    obtain ⟨y43, hy44, h⟩ := bindO_some h
    obtain ⟨y45, hy46, h⟩ := bindO_some h
    refine JS.regionQ rfl (by kernel_rfl) (JQ.reg ttOk 2 [] [(18, .v (.agg #[.int .i64 x1.1, .slice a29 x1.2.length c30])), (19, .v (.slice a33 x2.length c34))] rfl (Es rfl) (JQ.call rfl rfl rfl rfl (ok_i_TextOf x2 a33 c34 x2.length rfl _ hy44) rfl [0] rfl rfl (JQ.reg ttOk 1 [] [(21, .v (.int .i64 x40))] rfl ⟨rfl, trivial⟩ (JQ.call rfl rfl rfl rfl (ok_i_HistFind x1 y43 x40 (-1) false a29 c30 x1.2.length rfl gm0 _ hy46) rfl [7, 8] rfl rfl (JQ.reg ttOk 1 [] [(10, .v (.int .i64 y45))] rfl ⟨rfl, trivial⟩ (JQ.done rfl (JS.seq (JS.region (JO.reg ttOk 4 [] [] [(24, .v (.agg (cl46 x0 a5 c6 a9 c10 a13 c14 a17 c18 a21 c22 a25 c26).toArray)), (25, .v (.agg #[.int .i64 x1.1, .slice a29 x1.2.length c30])), (26, .v (.int .i64 y45)), (27, .v (.slice a33 x2.length c34))] _ rfl ⟨(Es rfl), rfl⟩ ?_)))))))))
    obtain ⟨⟨y47, y48⟩, hy49, h⟩ := bindO_some h
    refine JO.call rfl rfl rfl rfl (ok_i_ShowHit x0 x1 y45 x2 a5 c6 x0.2.2.1.1.length rfl a9 c10 x0.2.2.2.2.2.2.2.2.2.2.1.length rfl a13 c14 x0.2.2.2.2.2.2.2.2.2.2.2.1.length rfl a17 c18 x0.2.2.2.2.2.2.2.2.2.2.2.2.2.1.1.length rfl a21 c22 x0.2.2.2.2.2.2.2.2.2.2.2.2.2.2.1.length rfl a25 c26 x0.2.2.2.2.2.2.2.2.2.2.2.2.2.2.2.2.1.length rfl a29 c30 x1.2.length rfl a33 c34 x2.length rfl gm0 _ hy49) rfl [1, 2, 3, 4, 5, 6, 7, 0, 8] rfl rfl ?_
    rintro ⟨a50, c51, a52, c53, a54, c55, a56, c57, a58, c59⟩ -
    refine JO.regB ttOk 6 [] [39] [(11, .bp 39 0), (12, .v (.bool y48))] (.new 10 46 (cl46 x0 a5 c6 a9 c10 a13 c14 a17 c18 a21 c22 a25 c26) (.new 12 46 (cl46 (false, 0, ([], 0), 0, 0, 0, 0, 0, 0, 0, [], [], 0, ([], 0), [], 0, ([], 0)) none 0 none 0 none 0 none 0 none 0 none 0) (.new 39 46 (cl46 (y47.1, y47.2.1, y47.2.2.1, y47.2.2.2.1, y47.2.2.2.2.1, y47.2.2.2.2.2.1, y47.2.2.2.2.2.2.1, y47.2.2.2.2.2.2.2.1, y47.2.2.2.2.2.2.2.2.1, y47.2.2.2.2.2.2.2.2.2.1, y47.2.2.2.2.2.2.2.2.2.2.1, [], y47.2.2.2.2.2.2.2.2.2.2.2.2.1, y47.2.2.2.2.2.2.2.2.2.2.2.2.2.1, y47.2.2.2.2.2.2.2.2.2.2.2.2.2.2.1, y47.2.2.2.2.2.2.2.2.2.2.2.2.2.2.2.1, y47.2.2.2.2.2.2.2.2.2.2.2.2.2.2.2.2) a50 c51 a52 c53 none 0 a54 c55 a56 c57 a58 c59) .nil))) rfl ⟨(Es rfl), (Bs rfl rfl)⟩ (JO.done rfl (JS.seq (JS.rg0 ttOk 2 [(32, .v (.bool (!y48)))] ⟨⟨rfl, trivial⟩, rfl⟩ rfl rfl ?_)))
    refine JS.cond rfl (fun ht77 => ?_) (fun ht77 => ?_)
    · have h := condT h ht77
      refine JS.seq (JS.region (JO.reg ttOk 1 [] [] [(33, .v (.agg (cl46 x0 a5 c6 a9 c10 a13 c14 a17 c18 a21 c22 a25 c26).toArray))] _ rfl ⟨⟨rfl, trivial⟩, rfl⟩ ?_))
      obtain ⟨y60, hy61, h⟩ := bindO_some h
      refine JO.call rfl rfl rfl rfl (ok_i_copyEd x0 a5 c6 x0.2.2.1.1.length rfl a9 c10 x0.2.2.2.2.2.2.2.2.2.2.1.length rfl a13 c14 x0.2.2.2.2.2.2.2.2.2.2.2.1.length rfl a17 c18 x0.2.2.2.2.2.2.2.2.2.2.2.2.2.1.1.length rfl a21 c22 x0.2.2.2.2.2.2.2.2.2.2.2.2.2.2.1.length rfl a25 c26 x0.2.2.2.2.2.2.2.2.2.2.2.2.2.2.2.2.1.length rfl _ hy61) rfl [1, 2, 3, 4, 5, 6] rfl rfl ?_
      rintro ⟨a62, c63, a64, c65, a66, c67, a68, c69, a70, c71, a72, c73⟩ -
      refine JO.regB ttOk 2 [] [] [(9, .v (.int .i64 1))] (.new 12 46 (cl46 y60 a62 c63 a64 c65 a66 c67 a68 c69 a70 c71 a72 c73) .nil) rfl ⟨⟨rfl, trivial⟩, (Bs rfl rfl)⟩ (JO.done rfl ?_)
      cases h
      exact JS.ret ttOk (a62, c63, a64, c65, a66, c67, a68, c69, a70, c71, a72, c73) trivial rfl rfl [0, 0, 0, 0, 0, 0] rfl
    have h := condF h ht77
    refine JS.skip (JS.rgB ttOk 3 [] [] [(9, .v (.int .i64 0))] (.new 12 46 (cl46 (y47.1, y47.2.1, y47.2.2.1, y47.2.2.2.1, y47.2.2.2.2.1, y47.2.2.2.2.2.1, y47.2.2.2.2.2.2.1, y47.2.2.2.2.2.2.2.1, y47.2.2.2.2.2.2.2.2.1, y47.2.2.2.2.2.2.2.2.2.1, y47.2.2.2.2.2.2.2.2.2.2.1, [], y47.2.2.2.2.2.2.2.2.2.2.2.2.1, y47.2.2.2.2.2.2.2.2.2.2.2.2.2.1, y47.2.2.2.2.2.2.2.2.2.2.2.2.2.2.1, y47.2.2.2.2.2.2.2.2.2.2.2.2.2.2.2.1, y47.2.2.2.2.2.2.2.2.2.2.2.2.2.2.2.2) a50 c51 a52 c53 none 0 a54 c55 a56 c57 a58 c59) .nil) ⟨⟨rfl, trivial⟩, (Bs rfl rfl)⟩ rfl rfl ?_)
    cases h
    refine JS.nilO (.pair (.sl (.int .i64)) (.int .i64)) Sl.nil rfl rfl (JS.ret ttOk (a50, c51, a52, c53, none, 0, a54, c55, a56, c57, a58, c59) trivial rfl rfl [1, 1, 0, 0, 0, 0] rfl)

def M_i_SearchKey (x0 : Bool × Int × (List Int × Int) × Int × Int × Int × Int × Int × Int × Int × List (List Int) × (List (List Int × Int)) × Int × (List Int × Int) × List Int × Int × List Int × Int) (x1 : Int × List (List UInt8)) (x2 : Int × Int) : Option ((Bool × Int × (List Int × Int) × Int × Int × Int × Int × Int × Int × Int × List (List Int) × (List (List Int × Int)) × Int × (List Int × Int) × List Int × Int × List Int × Int) × Int) :=
  (bindO (M_i_canKey x0 x1 x2) fun (y32 : Bool) =>
  (bif (bif (!y32) then true else (!(decide (x0.2.1 = 3)))) then
  some ((false, 0, ([], 0), 0, 0, 0, 0, 0, 0, 0, [], [], 0, ([], 0), [], 0, ([], 0)), 0)
  else
  (bif (decide (x2.1 = 1)) then
  (joinO (fun ((x58, x59) : Int × (Bool × Int × (List Int × Int) × Int × Int × Int × Int × Int × Int × Int × List (List Int) × (List (List Int × Int)) × Int × (List Int × Int) × List Int × Int × List Int × Int)) =>
  some (x59, x58)) fun j72 =>
  (bindO (M_i_copyInts x0.2.2.2.2.2.2.2.2.2.2.2.2.2.2.1) fun (y34 : List Int) =>
  (guardO (y34.length + ([x2.2] : List Int).length ≤ 536870912) <|
  (bindO (M_i_hunt x0 x1 (y34 ++ ([x2.2] : List Int)) x0.2.2.2.2.2.2.2.2.2.2.2.2.2.2.2.1) fun (y42, y43) =>
  j72 (y43, y42)))))
  else
  (bif (bif (false ^^ (eqK x2 (2, 114))) then (decide (0 < (x0.2.2.2.2.2.2.2.2.2.2.2.2.2.2.1.length : Int))) else false) then
  (bindO (M_i_hunt x0 x1 x0.2.2.2.2.2.2.2.2.2.2.2.2.2.2.1 (W (x0.2.2.2.2.2.2.2.2.2.2.2.2.2.2.2.1 - 1))) fun (y74, y75) =>
  some (y74, y75))
  else
  (bif (bif (false ^^ (eqK x2 (2, 114))) then true else (bif (decide (x2.1 = 5)) then (decide ((x0.2.2.2.2.2.2.2.2.2.2.2.2.2.2.1.length : Int) = 0)) else false)) then
  (bindO (M_i_copyEd x0) fun (y89 : Bool × Int × (List Int × Int) × Int × Int × Int × Int × Int × Int × Int × List (List Int) × (List (List Int × Int)) × Int × (List Int × Int) × List Int × Int × List Int × Int) =>
  some (y89, 1))
  else
  (bif (decide (x2.1 = 5)) then
  (bindO (M_i_copyEd x0) fun (y103 : Bool × Int × (List Int × Int) × Int × Int × Int × Int × Int × Int × Int × List (List Int) × (List (List Int × Int)) × Int × (List Int × Int) × List Int × Int × List Int × Int) =>
  (guardO (0 ≤ (0 : Int) ∧ (0 : Int) ≤ (W ((x0.2.2.2.2.2.2.2.2.2.2.2.2.2.2.1.length : Int) - 1)) ∧ (W ((x0.2.2.2.2.2.2.2.2.2.2.2.2.2.2.1.length : Int) - 1)) ≤ (y103.2.2.2.2.2.2.2.2.2.2.2.2.2.2.1.length : Int)) <|
  some ((y103.1, y103.2.1, y103.2.2.1, y103.2.2.2.1, y103.2.2.2.2.1, y103.2.2.2.2.2.1, y103.2.2.2.2.2.2.1, y103.2.2.2.2.2.2.2.1, y103.2.2.2.2.2.2.2.2.1, y103.2.2.2.2.2.2.2.2.2.1, y103.2.2.2.2.2.2.2.2.2.2.1, y103.2.2.2.2.2.2.2.2.2.2.2.1, y103.2.2.2.2.2.2.2.2.2.2.2.2.1, y103.2.2.2.2.2.2.2.2.2.2.2.2.2.1, (sub' y103.2.2.2.2.2.2.2.2.2.2.2.2.2.2.1 0 (W ((x0.2.2.2.2.2.2.2.2.2.2.2.2.2.2.1.length : Int) - 1))), y103.2.2.2.2.2.2.2.2.2.2.2.2.2.2.2.1, y103.2.2.2.2.2.2.2.2.2.2.2.2.2.2.2.2), 0)))
  else
  (bif (decide (x2.1 = 4)) then
  (bindO (M_i_left x0) fun (y120 : Bool × Int × (List Int × Int) × Int × Int × Int × Int × Int × Int × Int × List (List Int) × (List (List Int × Int)) × Int × (List Int × Int) × List Int × Int × List Int × Int) =>
  some ((y120.1, y120.2.1, y120.2.2.1, y120.2.2.2.1, y120.2.2.2.2.1, y120.2.2.2.2.2.1, y120.2.2.2.2.2.2.1, y120.2.2.2.2.2.2.2.1, y120.2.2.2.2.2.2.2.2.1, y120.2.2.2.2.2.2.2.2.2.1, y120.2.2.2.2.2.2.2.2.2.2.1, y120.2.2.2.2.2.2.2.2.2.2.2.1, y120.2.2.2.2.2.2.2.2.2.2.2.2.1, y120.2.2.2.2.2.2.2.2.2.2.2.2.2.1, [], y120.2.2.2.2.2.2.2.2.2.2.2.2.2.2.2.1, ([], y120.2.2.2.2.2.2.2.2.2.2.2.2.2.2.2.2.2)), 2))
  else
  (bif (bif (false ^^ (eqK x2 (2, 103))) then true else (false ^^ (eqK x2 (2, 99)))) then
  (bindO (M_i_copyEd x0) fun (y130 : Bool × Int × (List Int × Int) × Int × Int × Int × Int × Int × Int × Int × List (List Int) × (List (List Int × Int)) × Int × (List Int × Int) × List Int × Int × List Int × Int) =>
  (bindO (M_i_copyLine x0.2.2.2.2.2.2.2.2.2.2.2.2.2.2.2.2) fun (y144 : List Int × Int) =>
  (bindO (M_i_left (y130.1, y130.2.1, y144, y130.2.2.2.1, y130.2.2.2.2.1, y130.2.2.2.2.2.1, y130.2.2.2.2.2.2.1, y130.2.2.2.2.2.2.2.1, y130.2.2.2.2.2.2.2.2.1, y130.2.2.2.2.2.2.2.2.2.1, y130.2.2.2.2.2.2.2.2.2.2.1, y130.2.2.2.2.2.2.2.2.2.2.2.1, 0, (([] : List Int), 0), y130.2.2.2.2.2.2.2.2.2.2.2.2.2.2.1, y130.2.2.2.2.2.2.2.2.2.2.2.2.2.2.2.1, y130.2.2.2.2.2.2.2.2.2.2.2.2.2.2.2.2)) fun (y148 : Bool × Int × (List Int × Int) × Int × Int × Int × Int × Int × Int × Int × List (List Int) × (List (List Int × Int)) × Int × (List Int × Int) × List Int × Int × List Int × Int) =>
  some ((y148.1, y148.2.1, y148.2.2.1, y148.2.2.2.1, y148.2.2.2.2.1, y148.2.2.2.2.2.1, y148.2.2.2.2.2.2.1, y148.2.2.2.2.2.2.2.1, y148.2.2.2.2.2.2.2.2.1, y148.2.2.2.2.2.2.2.2.2.1, y148.2.2.2.2.2.2.2.2.2.2.1, y148.2.2.2.2.2.2.2.2.2.2.2.1, y148.2.2.2.2.2.2.2.2.2.2.2.2.1, y148.2.2.2.2.2.2.2.2.2.2.2.2.2.1, [], y148.2.2.2.2.2.2.2.2.2.2.2.2.2.2.2.1, ([], y148.2.2.2.2.2.2.2.2.2.2.2.2.2.2.2.2.2)), 1))))
  else
  (bindO (M_i_left x0) fun (y158 : Bool × Int × (List Int × Int) × Int × Int × Int × Int × Int × Int × Int × List (List Int) × (List (List Int × Int)) × Int × (List Int × Int) × List Int × Int × List Int × Int) =>
  some ((y158.1, y158.2.1, y158.2.2.1, y158.2.2.2.1, y158.2.2.2.2.1, y158.2.2.2.2.2.1, y158.2.2.2.2.2.2.1, y158.2.2.2.2.2.2.2.1, y158.2.2.2.2.2.2.2.2.1, y158.2.2.2.2.2.2.2.2.2.1, y158.2.2.2.2.2.2.2.2.2.2.1, y158.2.2.2.2.2.2.2.2.2.2.2.1, y158.2.2.2.2.2.2.2.2.2.2.2.2.1, y158.2.2.2.2.2.2.2.2.2.2.2.2.2.1, [], y158.2.2.2.2.2.2.2.2.2.2.2.2.2.2.2.1, ([], y158.2.2.2.2.2.2.2.2.2.2.2.2.2.2.2.2.2)), 0))))))))))

theorem ok_i_SearchKey (x0 : Bool × Int × (List Int × Int) × Int × Int × Int × Int × Int × Int × Int × List (List Int) × (List (List Int × Int)) × Int × (List Int × Int) × List Int × Int × List Int × Int) (x1 : Int × List (List UInt8)) (x2 : Int × Int) (a4 : Option Addr) (c5 : Nat) (l6 : Nat) (hl7 : x0.2.2.1.1.length = l6) (a8 : Option Addr) (c9 : Nat) (l10 : Nat) (hl11 : x0.2.2.2.2.2.2.2.2.2.2.1.length = l10) (a12 : Option Addr) (c13 : Nat) (l14 : Nat) (hl15 : x0.2.2.2.2.2.2.2.2.2.2.2.1.length = l14) (a16 : Option Addr) (c17 : Nat) (l18 : Nat) (hl19 : x0.2.2.2.2.2.2.2.2.2.2.2.2.2.1.1.length = l18) (a20 : Option Addr) (c21 : Nat) (l22 : Nat) (hl23 : x0.2.2.2.2.2.2.2.2.2.2.2.2.2.2.1.length = l22) (a24 : Option Addr) (c25 : Nat) (l26 : Nat) (hl27 : x0.2.2.2.2.2.2.2.2.2.2.2.2.2.2.2.2.1.length = l26) (a28 : Option Addr) (c29 : Nat) (l30 : Nat) (hl31 : x1.2.length = l30) (gm0 : Int) (r : (Bool × Int × (List Int × Int) × Int × Int × Int × Int × Int × Int × Int × List (List Int) × (List (List Int × Int)) × Int × (List Int × Int) × List Int × Int × List Int × Int) × Int) (h : M_i_SearchKey x0 x1 x2 = some r) :
    FC Tryz.prog 26 [.agg #[.bool x0.1, .int .i64 x0.2.1, .slice a4 l6 c5, .int .i64 x0.2.2.1.2, .int .i64 x0.2.2.2.1, .int .i64 x0.2.2.2.2.1, .int .i64 x0.2.2.2.2.2.1, .int .i64 x0.2.2.2.2.2.2.1, .int .i64 x0.2.2.2.2.2.2.2.1, .int .i64 x0.2.2.2.2.2.2.2.2.1, .int .i64 x0.2.2.2.2.2.2.2.2.2.1, .slice a8 l10 c9, .slice a12 l14 c13, .int .i64 x0.2.2.2.2.2.2.2.2.2.2.2.2.1, .slice a16 l18 c17, .int .i64 x0.2.2.2.2.2.2.2.2.2.2.2.2.2.1.2, .slice a20 l22 c21, .int .i64 x0.2.2.2.2.2.2.2.2.2.2.2.2.2.2.2.1, .slice a24 l26 c25, .int .i64 x0.2.2.2.2.2.2.2.2.2.2.2.2.2.2.2.2.2], .agg #[.int .i64 x1.1, .slice a28 l30 c29], .agg #[.int .i64 x2.1, .int .i64 x2.2]] [⟨(.int .i64), ⟨a4, l6, c5⟩, x0.2.2.1.1⟩, ⟨(.sl (.int .i64)), ⟨a8, l10, c9⟩, x0.2.2.2.2.2.2.2.2.2.2.1⟩, ⟨(.pair (.sl (.int .i64)) (.int .i64)), ⟨a12, l14, c13⟩, x0.2.2.2.2.2.2.2.2.2.2.2.1⟩, ⟨(.int .i64), ⟨a16, l18, c17⟩, x0.2.2.2.2.2.2.2.2.2.2.2.2.2.1.1⟩, ⟨(.int .i64), ⟨a20, l22, c21⟩, x0.2.2.2.2.2.2.2.2.2.2.2.2.2.2.1⟩, ⟨(.int .i64), ⟨a24, l26, c25⟩, x0.2.2.2.2.2.2.2.2.2.2.2.2.2.2.2.2.1⟩, ⟨.str, ⟨a28, l30, c29⟩, x1.2⟩, ⟨(.int .i64), ⟨(some ⟨0, 0, none⟩), 1, 1⟩, [gm0]⟩] (fun _ : Option Addr × Nat × Option Addr × Nat × Option Addr × Nat × Option Addr × Nat × Option Addr × Nat × Option Addr × Nat => True) (fun q => .tuple #[.agg (cl46 r.1 q.1 q.2.1 q.2.2.1 q.2.2.2.1 q.2.2.2.2.1 q.2.2.2.2.2.1 q.2.2.2.2.2.2.1 q.2.2.2.2.2.2.2.1 q.2.2.2.2.2.2.2.2.1 q.2.2.2.2.2.2.2.2.2.1 q.2.2.2.2.2.2.2.2.2.2.1 q.2.2.2.2.2.2.2.2.2.2.2).toArray, .int .i64 r.2]) (fun q => [⟨(.int .i64), ⟨q.1, r.1.2.2.1.1.length, q.2.1⟩, r.1.2.2.1.1⟩, ⟨(.sl (.int .i64)), ⟨q.2.2.1, r.1.2.2.2.2.2.2.2.2.2.2.1.length, q.2.2.2.1⟩, r.1.2.2.2.2.2.2.2.2.2.2.1⟩, ⟨(.pair (.sl (.int .i64)) (.int .i64)), ⟨q.2.2.2.2.1, r.1.2.2.2.2.2.2.2.2.2.2.2.1.length, q.2.2.2.2.2.1⟩, r.1.2.2.2.2.2.2.2.2.2.2.2.1⟩, ⟨(.int .i64), ⟨q.2.2.2.2.2.2.1, r.1.2.2.2.2.2.2.2.2.2.2.2.2.2.1.1.length, q.2.2.2.2.2.2.2.1⟩, r.1.2.2.2.2.2.2.2.2.2.2.2.2.2.1.1⟩, ⟨(.int .i64), ⟨q.2.2.2.2.2.2.2.2.1, r.1.2.2.2.2.2.2.2.2.2.2.2.2.2.2.1.length, q.2.2.2.2.2.2.2.2.2.1⟩, r.1.2.2.2.2.2.2.2.2.2.2.2.2.2.2.1⟩, ⟨(.int .i64), ⟨q.2.2.2.2.2.2.2.2.2.2.1, r.1.2.2.2.2.2.2.2.2.2.2.2.2.2.2.2.2.1.length, q.2.2.2.2.2.2.2.2.2.2.2⟩, r.1.2.2.2.2.2.2.2.2.2.2.2.2.2.2.2.2.1⟩]) :=
  by
    subst hl7
    subst hl11
    subst hl15
    subst hl19
    subst hl23
    subst hl27
    subst hl31
    refine FC.of (T := TTx) Tryz.call26 Tryz.func26 rfl rfl fun w0 => ?_
    unfold M_i_SearchKey at h
    refine JS.rgB ttOk 5 [] [9, 10, 11, 12] [(3, .bp 9 0), (4, .bp 10 0), (5, .bp 11 0), (6, .bp 12 0)] (.new 9 46 (cl46 x0 a4 c5 a8 c9 a12 c13 a16 c17 a20 c21 a24 c25) (.new 10 50 [.int .i64 x1.1, .slice a28 x1.2.length c29] (.new 11 64 [.int .i64 x2.1, .int .i64 x2.2] (.new 12 46 (cl46 (false, 0, ([], 0), 0, 0, 0, 0, 0, 0, 0, [], [], 0, ([], 0), [], 0, ([], 0)) none 0 none 0 none 0 none 0 none 0 none 0) .nil)))) ⟨(Es rfl), (Bs rfl rfl)⟩ rfl rfl (JS.seq (JS.seq (JS.region (JO.reg ttOk 3 [] [] [(11, .v (.agg (cl46 x0 a4 c5 a8 c9 a12 c13 a16 c17 a20 c21 a24 c25).toArray)), (12, .v (.agg #[.int .i64 x1.1, .slice a28 x1.2.length c29])), (13, .v (.agg #[.int .i64 x2.1, .int .i64 x2.2]))] _ rfl ⟨(Es rfl), rfl⟩ ?_))))
    obtain ⟨y32, hy33, h⟩ := bindO_some h
    refine JO.call rfl rfl rfl rfl (ok_i_canKey x0 x1 x2 a4 c5 x0.2.2.1.1.length rfl a8 c9 x0.2.2.2.2.2.2.2.2.2.2.1.length rfl a12 c13 x0.2.2.2.2.2.2.2.2.2.2.2.1.length rfl a16 c17 x0.2.2.2.2.2.2.2.2.2.2.2.2.2.1.1.length rfl a20 c21 x0.2.2.2.2.2.2.2.2.2.2.2.2.2.2.1.length rfl a24 c25 x0.2.2.2.2.2.2.2.2.2.2.2.2.2.2.2.2.1.length rfl a28 c29 x1.2.length rfl _ hy33) rfl [0, 1, 2, 3, 4, 5, 6] rfl rfl fun _ _ => JO.reg ttOk 6 [] [] [(20, .v (.bool (bif (!y32) then true else (!(decide (x0.2.1 = 3))))))] _ rfl ⟨⟨rfl, trivial⟩, rfl⟩ (JO.done rfl ?_)
    refine JS.cond rfl (fun ht182 => ?_) (fun ht182 => ?_)
    · have h := condT h ht182
      refine JS.rgB ttOk 3 [] [] [(7, .v (.int .i64 0))] (.new 12 46 (cl46 (false, 0, ([], 0), 0, 0, 0, 0, 0, 0, 0, [], [], 0, ([], 0), [], 0, ([], 0)) none 0 none 0 none 0 none 0 none 0 none 0) .nil) ⟨⟨rfl, trivial⟩, (Bs rfl rfl)⟩ rfl rfl ?_
      cases h
      refine JS.nilO (.int .i64) Sl.nil rfl rfl (JS.nilO (.sl (.int .i64)) Sl.nil rfl rfl (JS.nilO (.pair (.sl (.int .i64)) (.int .i64)) Sl.nil rfl rfl (JS.nilO (.int .i64) Sl.nil rfl rfl (JS.nilO (.int .i64) Sl.nil rfl rfl (JS.nilO (.int .i64) Sl.nil rfl rfl (JS.ret ttOk (none, 0, none, 0, none, 0, none, 0, none, 0, none, 0) trivial rfl rfl [5, 4, 3, 2, 1, 0] rfl))))))
    have h := condF h ht182
    refine JS.skip (JS.rg0 ttOk 4 [(8, .v (.int .i64 (x0.2.2.2.2.2.2.2.2.2.2.2.2.2.2.1.length : Int)))] ⟨⟨rfl, trivial⟩, rfl⟩ rfl rfl (JS.seq (JS.block (JS.rg0 ttOk 4 [(25, .v (.bool (decide (x2.1 = 1))))] ⟨⟨rfl, trivial⟩, rfl⟩ rfl rfl ?_))))
    refine JS.cond rfl (fun ht181 => ?_) (fun ht181 => ?_)
    · have h := condT h ht181
      refine JS.seq ?_
      obtain ⟨j72, hj175, h⟩ := joinO_some h
      refine JS.cutJ (ι := Int × (Bool × Int × (List Int × Int) × Int × Int × Int × Int × Int × Int × Int × List (List Int) × (List (List Int × Int)) × Int × (List Int × Int) × List Int × Int × List Int × Int) × Option Addr × Nat × Option Addr × Nat × Option Addr × Nat × Option Addr × Nat × Option Addr × Nat × Option Addr × Nat) ⟨fun z => j72 (z.1, z.2.1) = some r, fun z => [(6, .bp 12 0), (7, .v (.int .i64 z.1))], fun z => (.new 12 46 (cl46 z.2.1 z.2.2.1 z.2.2.2.1 z.2.2.2.2.1 z.2.2.2.2.2.1 z.2.2.2.2.2.2.1 z.2.2.2.2.2.2.2.1 z.2.2.2.2.2.2.2.2.1 z.2.2.2.2.2.2.2.2.2.1 z.2.2.2.2.2.2.2.2.2.2.1 z.2.2.2.2.2.2.2.2.2.2.2.1 z.2.2.2.2.2.2.2.2.2.2.2.2.1 z.2.2.2.2.2.2.2.2.2.2.2.2.2) .nil), fun z => [⟨(.int .i64), ⟨(some ⟨0, 0, none⟩), 1, 1⟩, [gm0]⟩], fun z => [⟨(.int .i64), ⟨z.2.2.1, z.2.1.2.2.1.1.length, z.2.2.2.1⟩, z.2.1.2.2.1.1⟩, ⟨(.sl (.int .i64)), ⟨z.2.2.2.2.1, z.2.1.2.2.2.2.2.2.2.2.2.2.1.length, z.2.2.2.2.2.1⟩, z.2.1.2.2.2.2.2.2.2.2.2.2.1⟩, ⟨(.pair (.sl (.int .i64)) (.int .i64)), ⟨z.2.2.2.2.2.2.1, z.2.1.2.2.2.2.2.2.2.2.2.2.2.1.length, z.2.2.2.2.2.2.2.1⟩, z.2.1.2.2.2.2.2.2.2.2.2.2.2.1⟩, ⟨(.int .i64), ⟨z.2.2.2.2.2.2.2.2.1, z.2.1.2.2.2.2.2.2.2.2.2.2.2.2.2.1.1.length, z.2.2.2.2.2.2.2.2.2.1⟩, z.2.1.2.2.2.2.2.2.2.2.2.2.2.2.2.1.1⟩, ⟨(.int .i64), ⟨z.2.2.2.2.2.2.2.2.2.2.1, z.2.1.2.2.2.2.2.2.2.2.2.2.2.2.2.2.1.length, z.2.2.2.2.2.2.2.2.2.2.2.1⟩, z.2.1.2.2.2.2.2.2.2.2.2.2.2.2.2.2.1⟩, ⟨(.int .i64), ⟨z.2.2.2.2.2.2.2.2.2.2.2.2.1, z.2.1.2.2.2.2.2.2.2.2.2.2.2.2.2.2.2.2.1.length, z.2.2.2.2.2.2.2.2.2.2.2.2.2⟩, z.2.1.2.2.2.2.2.2.2.2.2.2.2.2.2.2.2.2.1⟩], fun z => 0⟩ ?_ ?_
      · obtain ⟨y34, hy35, h⟩ := bindO_some h
        obtain ⟨g39, h⟩ := guardO_some h
        obtain ⟨⟨y42, y43⟩, hy44, h⟩ := bindO_some h
        refine JS.regionA rfl (.new 9 46 (cl46 x0 a4 c5 a8 c9 a12 c13 a16 c17 a20 c21 a24 c25) (.new 10 50 [.int .i64 x1.1, .slice a28 x1.2.length c29] (.new 11 64 [.int .i64 x2.1, .int .i64 x2.2] .nil))) [] [11, 12, 13, 14, 15] ⟨rfl, rfl, rfl, rfl, rfl, rfl, rfl, rfl, rfl, rfl, rfl, rfl, trivial⟩ rfl (fun be57 => ?_)
        refine JA.reg ttOk panic_cx true 8 [0, 1, 2, 3, 5, 6, 9, 10] rfl (by kernel_rfl) [] [(29, .v (.agg (cl46 x0 a4 c5 a8 c9 a12 c13 a16 c17 a20 c21 a24 c25).toArray)), (30, .v (.agg #[.int .i64 x1.1, .slice a28 x1.2.length c29])), (32, .v (.slice a20 x0.2.2.2.2.2.2.2.2.2.2.2.2.2.2.1.length c21)), (35, .v (.int .i64 x2.2)), (39, .v (.int .i64 x0.2.2.2.2.2.2.2.2.2.2.2.2.2.2.2.1))] ⟨rfl, rfl, rfl, rfl, rfl, rfl, rfl, rfl, rfl, rfl, rfl, rfl, trivial⟩ [] rfl rfl (Es rfl) ?_
        refine JA.all (rs := [4, 7]) (by kernel_rfl) rfl (List.forall_mem_cons.2 ⟨?_, List.forall_mem_cons.2 ⟨?_, (fun _ hx => absurd hx List.not_mem_nil)⟩⟩)
        · refine JK.call rfl rfl rfl rfl (ok_i_copyInts x0.2.2.2.2.2.2.2.2.2.2.2.2.2.2.1 a20 c21 x0.2.2.2.2.2.2.2.2.2.2.2.2.2.2.1.length rfl _ hy35) rfl [4] rfl rfl ?_
          rintro ⟨a36, c37⟩ -
          refine JA.next ⟨rfl, rfl, rfl, rfl, rfl, rfl, rfl, rfl, rfl, rfl, rfl, rfl, trivial⟩ [] rfl (JA.one 7 (by kernel_rfl) (JK.buildSlice ttOk rfl rfl rfl rfl rfl rfl rfl rfl rfl rfl rfl [] rfl (.int .i64) [x2.2] ⟨rfl, rfl⟩ rfl rfl fun a38 => JA.next ⟨rfl, rfl, rfl, rfl, rfl, rfl, rfl, rfl, rfl, rfl, rfl, rfl, trivial⟩ [] rfl (JA.one 8 (by kernel_rfl) (JK.appendR' ttOk rfl rfl rfl rfl ⟨rfl, rfl, rfl, rfl, trivial, rfl, rfl, rfl, rfl⟩ rfl rfl rfl [1] rfl 8 rfl g39 rfl fun a40 c41 => JA.next ⟨rfl, rfl, rfl, rfl, rfl, rfl, rfl, rfl, rfl, rfl, rfl, rfl, trivial⟩ [] rfl (JA.one 11 (by kernel_rfl) (JK.call rfl rfl rfl rfl (ok_i_hunt x0 x1 (y34 ++ ([x2.2] : List Int)) x0.2.2.2.2.2.2.2.2.2.2.2.2.2.2.2.1 a4 c5 x0.2.2.1.1.length rfl a8 c9 x0.2.2.2.2.2.2.2.2.2.2.1.length rfl a12 c13 x0.2.2.2.2.2.2.2.2.2.2.2.1.length rfl a16 c17 x0.2.2.2.2.2.2.2.2.2.2.2.2.2.1.1.length rfl a20 c21 x0.2.2.2.2.2.2.2.2.2.2.2.2.2.2.1.length rfl a24 c25 x0.2.2.2.2.2.2.2.2.2.2.2.2.2.2.2.2.1.length rfl a28 c29 x1.2.length rfl a40 c41 ((y34 ++ ([x2.2] : List Int)).length) rfl gm0 _ hy44) rfl [0, 1, 2, 3, 4, 5, 6, 8, 7] rfl rfl ?_))))))
          rintro ⟨a45, c46, a47, c48, a49, c50, a51, c52, a53, c54, a55, c56⟩ -
          refine JA.nextL rfl (JA.regL ttOk panic_cx 2 [12, 13] rfl (by kernel_rfl) [] [(41, .v (.agg (cl46 y42 a45 c46 a47 c48 a49 c50 a51 c52 a53 c54 a55 c56).toArray)), (42, .v (.int .i64 y43))] rfl (Es rfl) (JA.one 14 (by kernel_rfl) (JK.stBox ttOk rfl rfl rfl rfl rfl rfl rfl rfl (JA.nextL rfl (JA.regL ttOk panic_cx 0 [15] rfl (by kernel_rfl) [] [(7, .v (.int .i64 y43))] rfl ⟨rfl, trivial⟩ (JA.done (by kernel_rfl) (JS.boxes (B' := (.new 12 46 (cl46 y42 a45 c46 a47 c48 a49 c50 a51 c52 a53 c54 a55 c56) .nil)) (Bs rfl rfl) (JS.endJA (y43, y42, a45, c46, a47, c48, a49, c50, a51, c52, a53, c54, a55, c56) h (Es rfl) (Bs rfl rfl) [7] rfl [0, 1, 2, 3, 4, 5] rfl rfl))))))))
        refine JK.buildSlice ttOk rfl rfl rfl rfl rfl rfl rfl rfl rfl rfl rfl [] rfl (.int .i64) [x2.2] ⟨rfl, rfl⟩ rfl rfl fun a38 => JA.next ⟨rfl, rfl, rfl, rfl, rfl, rfl, rfl, rfl, rfl, rfl, rfl, rfl, trivial⟩ [] rfl (JA.one 4 (by kernel_rfl) (JK.call rfl rfl rfl rfl (ok_i_copyInts x0.2.2.2.2.2.2.2.2.2.2.2.2.2.2.1 a20 c21 x0.2.2.2.2.2.2.2.2.2.2.2.2.2.2.1.length rfl _ hy35) rfl [4] rfl rfl ?_))
        rintro ⟨a36, c37⟩ -
        refine JA.next ⟨rfl, rfl, rfl, rfl, rfl, rfl, rfl, rfl, rfl, rfl, rfl, rfl, trivial⟩ [] rfl (JA.one 8 (by kernel_rfl) (JK.appendR' ttOk rfl rfl rfl rfl ⟨rfl, rfl, rfl, rfl, trivial, rfl, rfl, rfl, rfl⟩ rfl rfl rfl [0] rfl 9 rfl g39 rfl fun a40 c41 => JA.next ⟨rfl, rfl, rfl, rfl, rfl, rfl, rfl, rfl, rfl, rfl, rfl, rfl, trivial⟩ [] rfl (JA.one 11 (by kernel_rfl) (JK.call rfl rfl rfl rfl (ok_i_hunt x0 x1 (y34 ++ ([x2.2] : List Int)) x0.2.2.2.2.2.2.2.2.2.2.2.2.2.2.2.1 a4 c5 x0.2.2.1.1.length rfl a8 c9 x0.2.2.2.2.2.2.2.2.2.2.1.length rfl a12 c13 x0.2.2.2.2.2.2.2.2.2.2.2.1.length rfl a16 c17 x0.2.2.2.2.2.2.2.2.2.2.2.2.2.1.1.length rfl a20 c21 x0.2.2.2.2.2.2.2.2.2.2.2.2.2.2.1.length rfl a24 c25 x0.2.2.2.2.2.2.2.2.2.2.2.2.2.2.2.2.1.length rfl a28 c29 x1.2.length rfl a40 c41 ((y34 ++ ([x2.2] : List Int)).length) rfl gm0 _ hy44) rfl [0, 1, 2, 3, 4, 5, 6, 8, 7] rfl rfl ?_))))
        rintro ⟨a45, c46, a47, c48, a49, c50, a51, c52, a53, c54, a55, c56⟩ -
        refine JA.nextL rfl (JA.regL ttOk panic_cx 2 [12, 13] rfl (by kernel_rfl) [] [(41, .v (.agg (cl46 y42 a45 c46 a47 c48 a49 c50 a51 c52 a53 c54 a55 c56).toArray)), (42, .v (.int .i64 y43))] rfl (Es rfl) (JA.one 14 (by kernel_rfl) (JK.stBox ttOk rfl rfl rfl rfl rfl rfl rfl rfl (JA.nextL rfl (JA.regL ttOk panic_cx 0 [15] rfl (by kernel_rfl) [] [(7, .v (.int .i64 y43))] rfl ⟨rfl, trivial⟩ (JA.done (by kernel_rfl) (JS.boxes (B' := (.new 12 46 (cl46 y42 a45 c46 a47 c48 a49 c50 a51 c52 a53 c54 a55 c56) .nil)) (Bs rfl rfl) (JS.endJA (y43, y42, a45, c46, a47, c48, a49, c50, a51, c52, a53, c54, a55, c56) h (Es rfl) (Bs rfl rfl) [7] rfl [0, 1, 2, 3, 4, 5] rfl rfl))))))))
      rintro ⟨x58, x59, a60, c61, a62, c63, a64, c65, a66, c67, a68, c69, a70, c71⟩ h
      subst hj175
      cases h
      exact JS.ret ttOk (a60, c61, a62, c63, a64, c65, a66, c67, a68, c69, a70, c71) trivial rfl rfl [0, 0, 0, 0, 0, 0] rfl
    have h := condF h ht181
    refine JS.seq (JS.region (JO.reg ttOk 2 [] [] [(44, .v (.agg #[.int .i64 x2.1, .int .i64 x2.2])), (45, .v (.agg #[.int .i64 2, .int .i64 114]))] _ rfl ⟨(Es rfl), rfl⟩ (JO.eqS ttOk rfl rfl (by kernel_rfl) rfl rfl rfl rfl rfl (JO.reg ttOk 5 [] [] [(43, .v (.bool (bif (false ^^ (eqK x2 (2, 114))) then (decide (0 < (x0.2.2.2.2.2.2.2.2.2.2.2.2.2.2.1.length : Int))) else false)))] _ rfl ⟨⟨rfl, trivial⟩, rfl⟩ (JO.done rfl ?_)))))
    refine JS.cond rfl (fun ht180 => ?_) (fun ht180 => ?_)
    · have h := condT h ht180
      refine JS.seq (JS.region (JO.reg ttOk 7 [(W (x0.2.2.2.2.2.2.2.2.2.2.2.2.2.2.2.1 - 1))] [] [(51, .v (.agg (cl46 x0 a4 c5 a8 c9 a12 c13 a16 c17 a20 c21 a24 c25).toArray)), (52, .v (.agg #[.int .i64 x1.1, .slice a28 x1.2.length c29])), (54, .v (.slice a20 x0.2.2.2.2.2.2.2.2.2.2.2.2.2.2.1.length c21)), (57, .v (.int .i64 (W (x0.2.2.2.2.2.2.2.2.2.2.2.2.2.2.2.1 - 1))))] _ rfl ⟨⟨trivial, rfl⟩, (Es rfl), rfl⟩ ?_))
      obtain ⟨⟨y74, y75⟩, hy76, h⟩ := bindO_some h
      refine JO.call rfl rfl rfl rfl (ok_i_hunt x0 x1 x0.2.2.2.2.2.2.2.2.2.2.2.2.2.2.1 (W (x0.2.2.2.2.2.2.2.2.2.2.2.2.2.2.2.1 - 1)) a4 c5 x0.2.2.1.1.length rfl a8 c9 x0.2.2.2.2.2.2.2.2.2.2.1.length rfl a12 c13 x0.2.2.2.2.2.2.2.2.2.2.2.1.length rfl a16 c17 x0.2.2.2.2.2.2.2.2.2.2.2.2.2.1.1.length rfl a20 c21 x0.2.2.2.2.2.2.2.2.2.2.2.2.2.2.1.length rfl a24 c25 x0.2.2.2.2.2.2.2.2.2.2.2.2.2.2.2.2.1.length rfl a28 c29 x1.2.length rfl a20 c21 x0.2.2.2.2.2.2.2.2.2.2.2.2.2.2.1.length rfl gm0 _ hy76) rfl [0, 1, 2, 3, 4, 5, 6, 4, 7] rfl rfl ?_
      rintro ⟨a77, c78, a79, c80, a81, c82, a83, c84, a85, c86, a87, c88⟩ -
      refine JO.regB ttOk 4 [] [] [(7, .v (.int .i64 y75))] (.new 12 46 (cl46 y74 a77 c78 a79 c80 a81 c82 a83 c84 a85 c86 a87 c88) .nil) rfl ⟨⟨rfl, trivial⟩, (Bs rfl rfl)⟩ (JO.done rfl ?_)
      cases h
      exact JS.ret ttOk (a77, c78, a79, c80, a81, c82, a83, c84, a85, c86, a87, c88) trivial rfl rfl [0, 0, 0, 0, 0, 0] rfl
    have h := condF h ht180
    refine JS.seq (JS.region (JO.reg ttOk 2 [] [] [(62, .v (.agg #[.int .i64 x2.1, .int .i64 x2.2])), (63, .v (.agg #[.int .i64 2, .int .i64 114]))] _ rfl ⟨(Es rfl), rfl⟩ (JO.eqS ttOk rfl rfl (by kernel_rfl) rfl rfl rfl rfl rfl (JO.reg ttOk 10 [] [] [(61, .v (.bool (bif (false ^^ (eqK x2 (2, 114))) then true else (bif (decide (x2.1 = 5)) then (decide ((x0.2.2.2.2.2.2.2.2.2.2.2.2.2.2.1.length : Int) = 0)) else false))))] _ rfl ⟨⟨rfl, trivial⟩, rfl⟩ (JO.done rfl ?_)))))
    refine JS.cond rfl (fun ht179 => ?_) (fun ht179 => ?_)
    · have h := condT h ht179
      refine JS.seq (JS.region (JO.reg ttOk 1 [] [] [(74, .v (.agg (cl46 x0 a4 c5 a8 c9 a12 c13 a16 c17 a20 c21 a24 c25).toArray))] _ rfl ⟨⟨rfl, trivial⟩, rfl⟩ ?_))
      obtain ⟨y89, hy90, h⟩ := bindO_some h
      refine JO.call rfl rfl rfl rfl (ok_i_copyEd x0 a4 c5 x0.2.2.1.1.length rfl a8 c9 x0.2.2.2.2.2.2.2.2.2.2.1.length rfl a12 c13 x0.2.2.2.2.2.2.2.2.2.2.2.1.length rfl a16 c17 x0.2.2.2.2.2.2.2.2.2.2.2.2.2.1.1.length rfl a20 c21 x0.2.2.2.2.2.2.2.2.2.2.2.2.2.2.1.length rfl a24 c25 x0.2.2.2.2.2.2.2.2.2.2.2.2.2.2.2.2.1.length rfl _ hy90) rfl [0, 1, 2, 3, 4, 5] rfl rfl ?_
      rintro ⟨a91, c92, a93, c94, a95, c96, a97, c98, a99, c100, a101, c102⟩ -
      refine JO.regB ttOk 2 [] [] [(7, .v (.int .i64 1))] (.new 12 46 (cl46 y89 a91 c92 a93 c94 a95 c96 a97 c98 a99 c100 a101 c102) .nil) rfl ⟨⟨rfl, trivial⟩, (Bs rfl rfl)⟩ (JO.done rfl ?_)
      cases h
      exact JS.ret ttOk (a91, c92, a93, c94, a95, c96, a97, c98, a99, c100, a101, c102) trivial rfl rfl [0, 0, 0, 0, 0, 0] rfl
    have h := condF h ht179
    refine JS.rg0 ttOk 4 [(76, .v (.bool (decide (x2.1 = 5))))] ⟨⟨rfl, trivial⟩, rfl⟩ rfl rfl ?_
    refine JS.cond rfl (fun ht178 => ?_) (fun ht178 => ?_)
    · have h := condT h ht178
      refine JS.seq (JS.region (JO.reg ttOk 1 [] [] [(80, .v (.agg (cl46 x0 a4 c5 a8 c9 a12 c13 a16 c17 a20 c21 a24 c25).toArray))] _ rfl ⟨⟨rfl, trivial⟩, rfl⟩ ?_))
      obtain ⟨y103, hy104, h⟩ := bindO_some h
      refine JO.call rfl rfl rfl rfl (ok_i_copyEd x0 a4 c5 x0.2.2.1.1.length rfl a8 c9 x0.2.2.2.2.2.2.2.2.2.2.1.length rfl a12 c13 x0.2.2.2.2.2.2.2.2.2.2.2.1.length rfl a16 c17 x0.2.2.2.2.2.2.2.2.2.2.2.2.2.1.1.length rfl a20 c21 x0.2.2.2.2.2.2.2.2.2.2.2.2.2.2.1.length rfl a24 c25 x0.2.2.2.2.2.2.2.2.2.2.2.2.2.2.2.2.1.length rfl _ hy104) rfl [0, 1, 2, 3, 4, 5] rfl rfl ?_
      rintro ⟨a105, c106, a107, c108, a109, c110, a111, c112, a113, c114, a115, c116⟩ -
      refine JO.regB ttOk 2 [] [130] [(9, .bp 130 0)] (.new 12 46 (cl46 (false, 0, ([], 0), 0, 0, 0, 0, 0, 0, 0, [], [], 0, ([], 0), [], 0, ([], 0)) none 0 none 0 none 0 none 0 none 0 none 0) (.new 130 46 (cl46 y103 a105 c106 a107 c108 a109 c110 a111 c112 a113 c114 a115 c116) .nil)) rfl ⟨⟨rfl, trivial⟩, (Bs rfl rfl)⟩ (JO.done rfl (JS.seq (JS.region (JO.reg ttOk 4 [(W ((x0.2.2.2.2.2.2.2.2.2.2.2.2.2.2.1.length : Int) - 1))] [] [(83, .v (.slice a113 y103.2.2.2.2.2.2.2.2.2.2.2.2.2.2.1.length c114)), (85, .v (.int .i64 (W ((x0.2.2.2.2.2.2.2.2.2.2.2.2.2.2.1.length : Int) - 1))))] _ rfl ⟨⟨trivial, rfl⟩, (Es rfl), rfl⟩ ?_))))
      obtain ⟨g117, h⟩ := guardO_some h
      refine JO.sliceO' ttOk rfl rfl rfl rfl rfl rfl rfl rfl [4] rfl (0 : Int) (W ((x0.2.2.2.2.2.2.2.2.2.2.2.2.2.2.1.length : Int) - 1)) rfl rfl g117 rfl fun a118 c119 => JO.regB ttOk 2 [] [] [] (.new 12 46 (cl46 (false, 0, ([], 0), 0, 0, 0, 0, 0, 0, 0, [], [], 0, ([], 0), [], 0, ([], 0)) none 0 none 0 none 0 none 0 none 0 none 0) (.new 130 46 (cl46 (y103.1, y103.2.1, y103.2.2.1, y103.2.2.2.1, y103.2.2.2.2.1, y103.2.2.2.2.2.1, y103.2.2.2.2.2.2.1, y103.2.2.2.2.2.2.2.1, y103.2.2.2.2.2.2.2.2.1, y103.2.2.2.2.2.2.2.2.2.1, y103.2.2.2.2.2.2.2.2.2.2.1, y103.2.2.2.2.2.2.2.2.2.2.2.1, y103.2.2.2.2.2.2.2.2.2.2.2.2.1, y103.2.2.2.2.2.2.2.2.2.2.2.2.2.1, (sub' y103.2.2.2.2.2.2.2.2.2.2.2.2.2.2.1 0 (W ((x0.2.2.2.2.2.2.2.2.2.2.2.2.2.2.1.length : Int) - 1))), y103.2.2.2.2.2.2.2.2.2.2.2.2.2.2.2.1, y103.2.2.2.2.2.2.2.2.2.2.2.2.2.2.2.2) a105 c106 a107 c108 a109 c110 a111 c112 a118 c119 a115 c116) .nil)) rfl ⟨trivial, (Bs rfl rfl)⟩ (JO.done rfl (JS.rgB ttOk 3 [] [] [(7, .v (.int .i64 0))] (.new 12 46 (cl46 (y103.1, y103.2.1, y103.2.2.1, y103.2.2.2.1, y103.2.2.2.2.1, y103.2.2.2.2.2.1, y103.2.2.2.2.2.2.1, y103.2.2.2.2.2.2.2.1, y103.2.2.2.2.2.2.2.2.1, y103.2.2.2.2.2.2.2.2.2.1, y103.2.2.2.2.2.2.2.2.2.2.1, y103.2.2.2.2.2.2.2.2.2.2.2.1, y103.2.2.2.2.2.2.2.2.2.2.2.2.1, y103.2.2.2.2.2.2.2.2.2.2.2.2.2.1, (sub' y103.2.2.2.2.2.2.2.2.2.2.2.2.2.2.1 0 (W ((x0.2.2.2.2.2.2.2.2.2.2.2.2.2.2.1.length : Int) - 1))), y103.2.2.2.2.2.2.2.2.2.2.2.2.2.2.2.1, y103.2.2.2.2.2.2.2.2.2.2.2.2.2.2.2.2) a105 c106 a107 c108 a109 c110 a111 c112 a118 c119 a115 c116) .nil) ⟨⟨rfl, trivial⟩, (Bs rfl rfl)⟩ rfl rfl ?_))
      cases h
      exact JS.ret ttOk (a105, c106, a107, c108, a109, c110, a111, c112, a118, c119, a115, c116) trivial rfl rfl [1, 1, 1, 1, 0, 0] rfl
    have h := condF h ht178
    refine JS.rg0 ttOk 4 [(89, .v (.bool (decide (x2.1 = 4))))] ⟨⟨rfl, trivial⟩, rfl⟩ rfl rfl ?_
    refine JS.cond rfl (fun ht177 => ?_) (fun ht177 => ?_)
    · have h := condT h ht177
      refine JS.seq (JS.region (JO.reg ttOk 1 [] [] [(93, .v (.agg (cl46 x0 a4 c5 a8 c9 a12 c13 a16 c17 a20 c21 a24 c25).toArray))] _ rfl ⟨⟨rfl, trivial⟩, rfl⟩ ?_))
      obtain ⟨y120, hy121, h⟩ := bindO_some h
      refine JO.call rfl rfl rfl rfl (ok_i_left x0 a4 c5 x0.2.2.1.1.length rfl a8 c9 x0.2.2.2.2.2.2.2.2.2.2.1.length rfl a12 c13 x0.2.2.2.2.2.2.2.2.2.2.2.1.length rfl a16 c17 x0.2.2.2.2.2.2.2.2.2.2.2.2.2.1.1.length rfl a20 c21 x0.2.2.2.2.2.2.2.2.2.2.2.2.2.2.1.length rfl a24 c25 x0.2.2.2.2.2.2.2.2.2.2.2.2.2.2.2.2.1.length rfl _ hy121) rfl [0, 1, 2, 3, 4, 5] rfl rfl ?_
      rintro ⟨a122, c123, a124, c125, a126, c127, a128, c129⟩ -
      refine JO.regB ttOk 2 [] [] [(7, .v (.int .i64 2))] (.new 12 46 (cl46 (y120.1, y120.2.1, y120.2.2.1, y120.2.2.2.1, y120.2.2.2.2.1, y120.2.2.2.2.2.1, y120.2.2.2.2.2.2.1, y120.2.2.2.2.2.2.2.1, y120.2.2.2.2.2.2.2.2.1, y120.2.2.2.2.2.2.2.2.2.1, y120.2.2.2.2.2.2.2.2.2.2.1, y120.2.2.2.2.2.2.2.2.2.2.2.1, y120.2.2.2.2.2.2.2.2.2.2.2.2.1, y120.2.2.2.2.2.2.2.2.2.2.2.2.2.1, [], y120.2.2.2.2.2.2.2.2.2.2.2.2.2.2.2.1, ([], y120.2.2.2.2.2.2.2.2.2.2.2.2.2.2.2.2.2)) a122 c123 a124 c125 a126 c127 a128 c129 none 0 none 0) .nil) rfl ⟨⟨rfl, trivial⟩, (Bs rfl rfl)⟩ (JO.done rfl ?_)
      cases h
      refine JS.nilO (.int .i64) Sl.nil rfl rfl (JS.nilO (.int .i64) Sl.nil rfl rfl (JS.ret ttOk (a122, c123, a124, c125, a126, c127, a128, c129, none, 0, none, 0) trivial rfl rfl [2, 2, 2, 2, 1, 0] rfl))
    have h := condF h ht177
    refine JS.seq (JS.region (JO.reg ttOk 2 [] [] [(96, .v (.agg #[.int .i64 x2.1, .int .i64 x2.2])), (97, .v (.agg #[.int .i64 2, .int .i64 103]))] _ rfl ⟨(Es rfl), rfl⟩ (JO.eqS ttOk rfl rfl (by kernel_rfl) rfl rfl rfl rfl rfl (JO.reg ttOk 3 [] [] [(99, .v (.bool (false ^^ (eqK x2 (2, 103))))), (100, .cd [(99, false)] (.v (.agg #[.int .i64 x2.1, .int .i64 x2.2]))), (101, .cd [(99, false)] (.v (.agg #[.int .i64 2, .int .i64 99])))] _ rfl ⟨(Es rfl), rfl⟩ (JO.eqS ttOk rfl rfl (by kernel_rfl) rfl rfl rfl rfl rfl (JO.reg ttOk 2 [] [] [(95, .v (.bool (bif (false ^^ (eqK x2 (2, 103))) then true else (false ^^ (eqK x2 (2, 99))))))] _ rfl ⟨⟨rfl, trivial⟩, rfl⟩ (JO.done rfl ?_)))))))
    refine JS.cond rfl (fun ht176 => ?_) (fun ht176 => ?_)
    · have h := condT h ht176
      refine JS.seq (JS.region (JO.reg ttOk 1 [] [] [(104, .v (.agg (cl46 x0 a4 c5 a8 c9 a12 c13 a16 c17 a20 c21 a24 c25).toArray))] _ rfl ⟨⟨rfl, trivial⟩, rfl⟩ ?_))
      obtain ⟨y130, hy131, h⟩ := bindO_some h
      refine JO.call rfl rfl rfl rfl (ok_i_copyEd x0 a4 c5 x0.2.2.1.1.length rfl a8 c9 x0.2.2.2.2.2.2.2.2.2.2.1.length rfl a12 c13 x0.2.2.2.2.2.2.2.2.2.2.2.1.length rfl a16 c17 x0.2.2.2.2.2.2.2.2.2.2.2.2.2.1.1.length rfl a20 c21 x0.2.2.2.2.2.2.2.2.2.2.2.2.2.2.1.length rfl a24 c25 x0.2.2.2.2.2.2.2.2.2.2.2.2.2.2.2.2.1.length rfl _ hy131) rfl [0, 1, 2, 3, 4, 5] rfl rfl ?_
      rintro ⟨a132, c133, a134, c135, a136, c137, a138, c139, a140, c141, a142, c143⟩ -
      refine JO.regB ttOk 2 [] [169] [(10, .bp 169 0)] (.new 9 46 (cl46 x0 a4 c5 a8 c9 a12 c13 a16 c17 a20 c21 a24 c25) (.new 12 46 (cl46 (false, 0, ([], 0), 0, 0, 0, 0, 0, 0, 0, [], [], 0, ([], 0), [], 0, ([], 0)) none 0 none 0 none 0 none 0 none 0 none 0) (.new 169 46 (cl46 y130 a132 c133 a134 c135 a136 c137 a138 c139 a140 c141 a142 c143) .nil))) rfl ⟨⟨rfl, trivial⟩, (Bs rfl rfl)⟩ (JO.done rfl (JS.seq (JS.region (JO.reg ttOk 2 [] [] [(107, .v (.agg #[.slice a24 x0.2.2.2.2.2.2.2.2.2.2.2.2.2.2.2.2.1.length c25, .int .i64 x0.2.2.2.2.2.2.2.2.2.2.2.2.2.2.2.2.2]))] _ rfl ⟨⟨rfl, trivial⟩, rfl⟩ ?_))))
      obtain ⟨y144, hy145, h⟩ := bindO_some h
      refine JO.call rfl rfl rfl rfl (ok_i_copyLine x0.2.2.2.2.2.2.2.2.2.2.2.2.2.2.2.2 a24 c25 x0.2.2.2.2.2.2.2.2.2.2.2.2.2.2.2.2.1.length rfl _ hy145) rfl [5] rfl rfl ?_
      rintro ⟨a146, c147⟩ -
      refine JO.regB ttOk 7 [] [] [] (.new 12 46 (cl46 (false, 0, ([], 0), 0, 0, 0, 0, 0, 0, 0, [], [], 0, ([], 0), [], 0, ([], 0)) none 0 none 0 none 0 none 0 none 0 none 0) (.new 169 46 (cl46 (y130.1, y130.2.1, y144, y130.2.2.2.1, y130.2.2.2.2.1, y130.2.2.2.2.2.1, y130.2.2.2.2.2.2.1, y130.2.2.2.2.2.2.2.1, y130.2.2.2.2.2.2.2.2.1, y130.2.2.2.2.2.2.2.2.2.1, y130.2.2.2.2.2.2.2.2.2.2.1, y130.2.2.2.2.2.2.2.2.2.2.2.1, 0, ([], 0), y130.2.2.2.2.2.2.2.2.2.2.2.2.2.2.1, y130.2.2.2.2.2.2.2.2.2.2.2.2.2.2.2.1, y130.2.2.2.2.2.2.2.2.2.2.2.2.2.2.2.2) a146 c147 a134 c135 a136 c137 none 0 a140 c141 a142 c143) .nil)) rfl ⟨trivial, (Bs rfl rfl)⟩ (JO.done rfl (JS.seq (JS.region (JO.reg ttOk 1 [] [] [(113, .v (.agg (cl46 (y130.1, y130.2.1, y144, y130.2.2.2.1, y130.2.2.2.2.1, y130.2.2.2.2.2.1, y130.2.2.2.2.2.2.1, y130.2.2.2.2.2.2.2.1, y130.2.2.2.2.2.2.2.2.1, y130.2.2.2.2.2.2.2.2.2.1, y130.2.2.2.2.2.2.2.2.2.2.1, y130.2.2.2.2.2.2.2.2.2.2.2.1, 0, ([], 0), y130.2.2.2.2.2.2.2.2.2.2.2.2.2.2.1, y130.2.2.2.2.2.2.2.2.2.2.2.2.2.2.2.1, y130.2.2.2.2.2.2.2.2.2.2.2.2.2.2.2.2) a146 c147 a134 c135 a136 c137 none 0 a140 c141 a142 c143).toArray))] _ rfl ⟨⟨rfl, trivial⟩, rfl⟩ ?_))))
      obtain ⟨y148, hy149, h⟩ := bindO_some h
      refine JO.nilR (.int .i64) Sl.nil rfl rfl (JO.call rfl rfl rfl rfl (ok_i_left (y130.1, y130.2.1, y144, y130.2.2.2.1, y130.2.2.2.2.1, y130.2.2.2.2.2.1, y130.2.2.2.2.2.2.1, y130.2.2.2.2.2.2.2.1, y130.2.2.2.2.2.2.2.2.1, y130.2.2.2.2.2.2.2.2.2.1, y130.2.2.2.2.2.2.2.2.2.2.1, y130.2.2.2.2.2.2.2.2.2.2.2.1, 0, (([] : List Int), 0), y130.2.2.2.2.2.2.2.2.2.2.2.2.2.2.1, y130.2.2.2.2.2.2.2.2.2.2.2.2.2.2.2.1, y130.2.2.2.2.2.2.2.2.2.2.2.2.2.2.2.2) a146 c147 y144.1.length rfl a134 c135 y130.2.2.2.2.2.2.2.2.2.2.1.length rfl a136 c137 y130.2.2.2.2.2.2.2.2.2.2.2.1.length rfl none 0 (([] : List Int).length) rfl a140 c141 y130.2.2.2.2.2.2.2.2.2.2.2.2.2.2.1.length rfl a142 c143 y130.2.2.2.2.2.2.2.2.2.2.2.2.2.2.2.2.1.length rfl _ hy149) rfl [9, 11, 12, 0, 14, 15] rfl rfl ?_)
      rintro ⟨a150, c151, a152, c153, a154, c155, a156, c157⟩ -
      refine JO.regB ttOk 2 [] [] [(7, .v (.int .i64 1))] (.new 12 46 (cl46 (y148.1, y148.2.1, y148.2.2.1, y148.2.2.2.1, y148.2.2.2.2.1, y148.2.2.2.2.2.1, y148.2.2.2.2.2.2.1, y148.2.2.2.2.2.2.2.1, y148.2.2.2.2.2.2.2.2.1, y148.2.2.2.2.2.2.2.2.2.1, y148.2.2.2.2.2.2.2.2.2.2.1, y148.2.2.2.2.2.2.2.2.2.2.2.1, y148.2.2.2.2.2.2.2.2.2.2.2.2.1, y148.2.2.2.2.2.2.2.2.2.2.2.2.2.1, [], y148.2.2.2.2.2.2.2.2.2.2.2.2.2.2.2.1, ([], y148.2.2.2.2.2.2.2.2.2.2.2.2.2.2.2.2.2)) a150 c151 a152 c153 a154 c155 a156 c157 none 0 none 0) .nil) rfl ⟨⟨rfl, trivial⟩, (Bs rfl rfl)⟩ (JO.done rfl ?_)
      cases h
      refine JS.nilO (.int .i64) Sl.nil rfl rfl (JS.nilO (.int .i64) Sl.nil rfl rfl (JS.ret ttOk (a150, c151, a152, c153, a154, c155, a156, c157, none, 0, none, 0) trivial rfl rfl [2, 2, 2, 2, 1, 0] rfl))
    have h := condF h ht176
    refine JS.skip (JS.endB (JS.seq (JS.region (JO.reg ttOk 1 [] [] [(115, .v (.agg (cl46 x0 a4 c5 a8 c9 a12 c13 a16 c17 a20 c21 a24 c25).toArray))] _ rfl ⟨⟨rfl, trivial⟩, rfl⟩ ?_))))
    obtain ⟨y158, hy159, h⟩ := bindO_some h
    refine JO.call rfl rfl rfl rfl (ok_i_left x0 a4 c5 x0.2.2.1.1.length rfl a8 c9 x0.2.2.2.2.2.2.2.2.2.2.1.length rfl a12 c13 x0.2.2.2.2.2.2.2.2.2.2.2.1.length rfl a16 c17 x0.2.2.2.2.2.2.2.2.2.2.2.2.2.1.1.length rfl a20 c21 x0.2.2.2.2.2.2.2.2.2.2.2.2.2.2.1.length rfl a24 c25 x0.2.2.2.2.2.2.2.2.2.2.2.2.2.2.2.2.1.length rfl _ hy159) rfl [0, 1, 2, 3, 4, 5] rfl rfl ?_
    rintro ⟨a160, c161, a162, c163, a164, c165, a166, c167⟩ -
    refine JO.regB ttOk 2 [] [] [(7, .v (.int .i64 0))] (.new 12 46 (cl46 (y158.1, y158.2.1, y158.2.2.1, y158.2.2.2.1, y158.2.2.2.2.1, y158.2.2.2.2.2.1, y158.2.2.2.2.2.2.1, y158.2.2.2.2.2.2.2.1, y158.2.2.2.2.2.2.2.2.1, y158.2.2.2.2.2.2.2.2.2.1, y158.2.2.2.2.2.2.2.2.2.2.1, y158.2.2.2.2.2.2.2.2.2.2.2.1, y158.2.2.2.2.2.2.2.2.2.2.2.2.1, y158.2.2.2.2.2.2.2.2.2.2.2.2.2.1, [], y158.2.2.2.2.2.2.2.2.2.2.2.2.2.2.2.1, ([], y158.2.2.2.2.2.2.2.2.2.2.2.2.2.2.2.2.2)) a160 c161 a162 c163 a164 c165 a166 c167 none 0 none 0) .nil) rfl ⟨⟨rfl, trivial⟩, (Bs rfl rfl)⟩ (JO.done rfl ?_)
    cases h
    refine JS.nilO (.int .i64) Sl.nil rfl rfl (JS.nilO (.int .i64) Sl.nil rfl rfl (JS.ret ttOk (a160, c161, a162, c163, a164, c165, a166, c167, none, 0, none, 0) trivial rfl rfl [2, 2, 2, 2, 1, 0] rfl))

def M_l_eqIntS_L1 (x0 : List Int) (x1 : List Int) (j28 : Unit → Option Bool) (k20 : Int → Option Bool) : Int → Option Bool := fun x11 =>
  (bif (decide (x11 < (x0.length : Int))) then
  (guardO (0 ≤ x11 ∧ x11 < (x0.length : Int)) <|
  (guardO (0 ≤ x11 ∧ x11 < (x1.length : Int)) <|
  (bif (!(decide ((at' x0 x11) = (at' x1 x11)))) then
  some false
  else
  k20 (W (x11 + 1)))))
  else
  j28 ())

def M_l_eqIntS (x0 : List Int) (x1 : List Int) : Option Bool :=
  (bif (!(decide ((x0.length : Int) = (x1.length : Int)))) then
  some false
  else
  (joinO (fun (_ : Unit) =>
  some true) fun j28 =>
  (fixF (M_l_eqIntS_L1 x0 x1 j28) FUEL 0)))

theorem ok_l_eqIntS (x0 : List Int) (x1 : List Int) (a3 : Option Addr) (c4 : Nat) (l5 : Nat) (hl6 : x0.length = l5) (a7 : Option Addr) (c8 : Nat) (l9 : Nat) (hl10 : x1.length = l9) (r : Bool) (h : M_l_eqIntS x0 x1 = some r) :
    FC Tryz.prog 19 [.slice a3 l5 c4, .slice a7 l9 c8] [⟨(.int .i64), ⟨a3, l5, c4⟩, x0⟩, ⟨(.int .i64), ⟨a7, l9, c8⟩, x1⟩] (fun _ : Unit => True) (fun _ => .bool r) (fun _ => []) :=
  by
    subst hl6
    subst hl10
    refine FC.of (T := TTx) Tryz.call19 Tryz.func19 rfl rfl fun w0 => ?_
    unfold M_l_eqIntS at h
    refine JS.rg0 ttOk 1 [] ⟨trivial, rfl⟩ rfl rfl (JS.seq (JS.rg0 ttOk 5 [(10, .v (.bool (!(decide ((x0.length : Int) = (x1.length : Int))))))] ⟨⟨rfl, trivial⟩, rfl⟩ rfl rfl ?_))
    refine JS.cond rfl (fun ht44 => ?_) (fun ht44 => ?_)
    · have h := condT h ht44
      refine JS.rg0 ttOk 1 [(4, .v (.bool false))] ⟨⟨rfl, trivial⟩, rfl⟩ rfl rfl ?_
      cases h
      exact JS.ret ttOk () trivial rfl rfl [] rfl
    have h := condF h ht44
    refine JS.skip (JS.seq (JS.rg0 ttOk 1 [(5, .v (.int .i64 0))] ⟨⟨rfl, trivial⟩, rfl⟩ rfl rfl ?_))
    obtain ⟨j28, hj43, h⟩ := joinO_some h
    refine JS.blockJ (ι := Unit) ⟨fun _ => j28 () = some r, fun _ => [], fun _ => .nil, fun _ => [], fun _ => [], fun _ => 0⟩ ?_ ?_
    · refine JS.loop (ι := Nat × Int) ⟨fun z => fixF (M_l_eqIntS_L1 x0 x1 j28) z.1 z.2 = some r, fun z => [(0, .v (.slice a3 x0.length c4)), (1, .v (.slice a7 x1.length c8)), (5, .v (.int .i64 z.2))], fun z => .nil, fun z => [⟨(.int .i64), ⟨a3, x0.length, c4⟩, x0⟩, ⟨(.int .i64), ⟨a7, x1.length, c8⟩, x1⟩], fun z => [], fun z => z.1⟩ (FUEL, 0) h (Es rfl) trivial [0, 1] rfl [] rfl ?_
      rintro ⟨n21, x11⟩ h
      obtain ⟨n21, rfl, h⟩ := fixF_some h
      rw [M_l_eqIntS_L1] at h
      refine JS.seq (JS.rg0 ttOk 4 [(14, .v (.bool (decide (x11 < (x0.length : Int)))))] ⟨⟨rfl, trivial⟩, rfl⟩ rfl rfl ?_)
      refine JS.cond rfl (fun ht42 => ?_) (fun ht42 => ?_)
      · have h := condT h ht42
        refine JS.skip (JS.seq (JS.block (JS.seq ?_)))
        obtain ⟨g13, h⟩ := guardO_some h
        obtain ⟨g15, h⟩ := guardO_some h
        refine JS.know 0 rfl fun hs39 => JS.know 1 rfl fun hs40 => JS.regionQ rfl (by kernel_rfl) (JQ.reg ttOk 3 [] [(19, .ep ⟨a3, x0.length, c4⟩ (Int.toNat x11 * 1))] rfl ⟨hs39.ix g13, ⟨rfl, trivial⟩⟩ (JQ.load ttOk rfl rfl rfl rfl rfl rfl rfl 0 rfl rfl (Int.toNat x11) 0 (at' x0 x11) ⟨at_some g13, rfl⟩ rfl rfl (JQ.reg ttOk 3 [] [(23, .ep ⟨a7, x1.length, c8⟩ (Int.toNat x11 * 1))] rfl ⟨hs40.ix g15, ⟨rfl, trivial⟩⟩ (JQ.load ttOk rfl rfl rfl rfl rfl rfl rfl 1 rfl rfl (Int.toNat x11) 0 (at' x1 x11) ⟨at_some g15, rfl⟩ rfl rfl (JQ.reg ttOk 1 [] [(25, .v (.bool (!(decide ((at' x0 x11) = (at' x1 x11))))))] rfl ⟨rfl, trivial⟩ (JQ.done rfl ?_))))))
        refine JS.cond rfl (fun ht41 => ?_) (fun ht41 => ?_)
        · have h := condT h ht41
          refine JS.rg0 ttOk 1 [(4, .v (.bool false))] ⟨⟨rfl, trivial⟩, rfl⟩ rfl rfl ?_
          cases h
          exact JS.ret ttOk () trivial rfl rfl [] rfl
        have h := condF h ht41
        refine JS.skip (JS.endB (JS.re ttOk 3 [(W (x11 + 1))] [] [(5, .v (.int .i64 (W (x11 + 1))))] _ ⟨⟨trivial, rfl⟩, ⟨rfl, trivial⟩, rfl⟩ rfl rfl (JS.endL (n21, (W (x11 + 1))) h (Nat.lt_succ_self _) (Es rfl) trivial [0, 1] rfl [] rfl)))
      have h := condF h ht42
      refine JS.exit rfl (JS.endJ () h trivial trivial [] rfl [] rfl)
    rintro _ h
    subst hj43
    refine JS.rg0 ttOk 1 [(4, .v (.bool true))] ⟨⟨rfl, trivial⟩, rfl⟩ rfl rfl ?_
    cases h
    exact JS.ret ttOk () trivial rfl rfl [] rfl

def M_l_eqLine (x0 : List Int × Int) (x1 : List Int × Int) : Option Bool :=
  (bindO (M_l_eqIntS x0.1 x1.1) fun (y11 : Bool) =>
  (bif (!y11) then
  some false
  else
  (bif (!(decide (x0.2 = x1.2))) then
  some false
  else
  some true)))

theorem ok_l_eqLine (x0 : List Int × Int) (x1 : List Int × Int) (a3 : Option Addr) (c4 : Nat) (l5 : Nat) (hl6 : x0.1.length = l5) (a7 : Option Addr) (c8 : Nat) (l9 : Nat) (hl10 : x1.1.length = l9) (r : Bool) (h : M_l_eqLine x0 x1 = some r) :
    FC Tryz.prog 66 [.agg #[.slice a3 l5 c4, .int .i64 x0.2], .agg #[.slice a7 l9 c8, .int .i64 x1.2]] [⟨(.int .i64), ⟨a3, l5, c4⟩, x0.1⟩, ⟨(.int .i64), ⟨a7, l9, c8⟩, x1.1⟩] (fun _ : Unit => True) (fun _ => .bool r) (fun _ => []) :=
  by
    subst hl6
    subst hl10
    refine FC.of (T := TTx) Tryz.call66 Tryz.func66 rfl rfl fun w0 => ?_
    unfold M_l_eqLine at h
    refine JS.rgB ttOk 3 [] [3, 4] [(2, .bp 3 0), (3, .bp 4 0)] (.new 3 38 [.slice a3 x0.1.length c4, .int .i64 x0.2] (.new 4 38 [.slice a7 x1.1.length c8, .int .i64 x1.2] .nil)) ⟨(Es rfl), (Bs rfl rfl)⟩ rfl rfl (JS.seq (JS.seq (JS.region (JO.reg ttOk 4 [] [] [(6, .v (.slice a3 x0.1.length c4)), (8, .v (.slice a7 x1.1.length c8))] _ rfl ⟨(Es rfl), rfl⟩ ?_))))
    obtain ⟨y11, hy12, h⟩ := bindO_some h
    refine JO.call rfl rfl rfl rfl (ok_l_eqIntS x0.1 x1.1 a3 c4 x0.1.length rfl a7 c8 x1.1.length rfl _ hy12) rfl [0, 1] rfl rfl fun _ _ => JO.reg ttOk 1 [] [] [(10, .v (.bool (!y11)))] _ rfl ⟨⟨rfl, trivial⟩, rfl⟩ (JO.done rfl ?_)
    refine JS.cond rfl (fun ht16 => ?_) (fun ht16 => ?_)
    · have h := condT h ht16
      refine JS.rg0 ttOk 1 [(4, .v (.bool false))] ⟨⟨rfl, trivial⟩, rfl⟩ rfl rfl ?_
      cases h
      exact JS.ret ttOk () trivial rfl rfl [] rfl
    have h := condF h ht16
    refine JS.skip (JS.seq (JS.rg0 ttOk 5 [(15, .v (.bool (!(decide (x0.2 = x1.2)))))] ⟨⟨rfl, trivial⟩, rfl⟩ rfl rfl ?_))
    refine JS.cond rfl (fun ht15 => ?_) (fun ht15 => ?_)
    · have h := condT h ht15
      refine JS.rg0 ttOk 1 [(4, .v (.bool false))] ⟨⟨rfl, trivial⟩, rfl⟩ rfl rfl ?_
      cases h
      exact JS.ret ttOk () trivial rfl rfl [] rfl
    have h := condF h ht15
    refine JS.skip (JS.rg0 ttOk 1 [(4, .v (.bool true))] ⟨⟨rfl, trivial⟩, rfl⟩ rfl rfl ?_)
    cases h
    exact JS.ret ttOk () trivial rfl rfl [] rfl

def M_l_eqPiece (x0 : List Int) (x1 : List Int) : Option Bool :=
  (bindO (M_l_eqIntS x0 x1) fun (y11 : Bool) =>
  (bif (!y11) then
  some false
  else
  some true))

theorem ok_l_eqPiece (x0 : List Int) (x1 : List Int) (a3 : Option Addr) (c4 : Nat) (l5 : Nat) (hl6 : x0.length = l5) (a7 : Option Addr) (c8 : Nat) (l9 : Nat) (hl10 : x1.length = l9) (r : Bool) (h : M_l_eqPiece x0 x1 = some r) :
    FC Tryz.prog 237 [.agg #[.slice a3 l5 c4], .agg #[.slice a7 l9 c8]] [⟨(.int .i64), ⟨a3, l5, c4⟩, x0⟩, ⟨(.int .i64), ⟨a7, l9, c8⟩, x1⟩] (fun _ : Unit => True) (fun _ => .bool r) (fun _ => []) :=
  by
    subst hl6
    subst hl10
    refine FC.of (T := TTx) Tryz.call237 Tryz.func237 rfl rfl fun w0 => ?_
    unfold M_l_eqPiece at h
    refine JS.rgB ttOk 3 [] [3, 4] [(2, .bp 3 0), (3, .bp 4 0)] (.new 3 174 [.slice a3 x0.length c4] (.new 4 174 [.slice a7 x1.length c8] .nil)) ⟨(Es rfl), (Bs rfl rfl)⟩ rfl rfl (JS.seq (JS.seq (JS.region (JO.reg ttOk 4 [] [] [(6, .v (.slice a3 x0.length c4)), (8, .v (.slice a7 x1.length c8))] _ rfl ⟨(Es rfl), rfl⟩ ?_))))
    obtain ⟨y11, hy12, h⟩ := bindO_some h
    refine JO.call rfl rfl rfl rfl (ok_l_eqIntS x0 x1 a3 c4 x0.length rfl a7 c8 x1.length rfl _ hy12) rfl [0, 1] rfl rfl fun _ _ => JO.reg ttOk 1 [] [] [(10, .v (.bool (!y11)))] _ rfl ⟨⟨rfl, trivial⟩, rfl⟩ (JO.done rfl ?_)
    refine JS.cond rfl (fun ht14 => ?_) (fun ht14 => ?_)
    · have h := condT h ht14
      refine JS.rg0 ttOk 1 [(4, .v (.bool false))] ⟨⟨rfl, trivial⟩, rfl⟩ rfl rfl ?_
      cases h
      exact JS.ret ttOk () trivial rfl rfl [] rfl
    have h := condF h ht14
    refine JS.skip (JS.rg0 ttOk 1 [(4, .v (.bool true))] ⟨⟨rfl, trivial⟩, rfl⟩ rfl rfl ?_)
    cases h
    exact JS.ret ttOk () trivial rfl rfl [] rfl

def M_l_eqPieceS_L1 (x0 : List (List Int)) (x1 : List (List Int)) (j44 : Unit → Option Bool) (k34 : Int → Option Bool) : Int → Option Bool := fun x11 =>
  (bif (decide (x11 < (x0.length : Int))) then
  (guardO (0 ≤ x11 ∧ x11 < (x0.length : Int)) <|
  (guardO (0 ≤ x11 ∧ x11 < (x1.length : Int)) <|
  (bindO (M_l_eqPiece (at' x0 x11) (at' x1 x11)) fun (y26 : Bool) =>
  (bif (!y26) then
  some false
  else
  k34 (W (x11 + 1))))))
  else
  j44 ())

def M_l_eqPieceS (x0 : List (List Int)) (x1 : List (List Int)) : Option Bool :=
  (bif (!(decide ((x0.length : Int) = (x1.length : Int)))) then
  some false
  else
  (joinO (fun (_ : Unit) =>
  some true) fun j44 =>
  (fixF (M_l_eqPieceS_L1 x0 x1 j44) FUEL 0)))

theorem ok_l_eqPieceS (x0 : List (List Int)) (x1 : List (List Int)) (a3 : Option Addr) (c4 : Nat) (l5 : Nat) (hl6 : x0.length = l5) (a7 : Option Addr) (c8 : Nat) (l9 : Nat) (hl10 : x1.length = l9) (r : Bool) (h : M_l_eqPieceS x0 x1 = some r) :
    FC Tryz.prog 147 [.slice a3 l5 c4, .slice a7 l9 c8] [⟨(.sl (.int .i64)), ⟨a3, l5, c4⟩, x0⟩, ⟨(.sl (.int .i64)), ⟨a7, l9, c8⟩, x1⟩] (fun _ : Unit => True) (fun _ => .bool r) (fun _ => []) :=
  by
    subst hl6
    subst hl10
    refine FC.of (T := TTx) Tryz.call147 Tryz.func147 rfl rfl fun w0 => ?_
    unfold M_l_eqPieceS at h
    refine JS.rg0 ttOk 1 [] ⟨trivial, rfl⟩ rfl rfl (JS.seq (JS.rg0 ttOk 5 [(10, .v (.bool (!(decide ((x0.length : Int) = (x1.length : Int))))))] ⟨⟨rfl, trivial⟩, rfl⟩ rfl rfl ?_))
    refine JS.cond rfl (fun ht64 => ?_) (fun ht64 => ?_)
    · have h := condT h ht64
      refine JS.rg0 ttOk 1 [(4, .v (.bool false))] ⟨⟨rfl, trivial⟩, rfl⟩ rfl rfl ?_
      cases h
      exact JS.ret ttOk () trivial rfl rfl [] rfl
    have h := condF h ht64
    refine JS.skip (JS.seq (JS.rg0 ttOk 1 [(5, .v (.int .i64 0))] ⟨⟨rfl, trivial⟩, rfl⟩ rfl rfl ?_))
    obtain ⟨j44, hj63, h⟩ := joinO_some h
    refine JS.blockJ (ι := Unit) ⟨fun _ => j44 () = some r, fun _ => [], fun _ => .nil, fun _ => [], fun _ => [], fun _ => 0⟩ ?_ ?_
    · refine JS.loop (ι := Nat × Int) ⟨fun z => fixF (M_l_eqPieceS_L1 x0 x1 j44) z.1 z.2 = some r, fun z => [(0, .v (.slice a3 x0.length c4)), (1, .v (.slice a7 x1.length c8)), (5, .v (.int .i64 z.2))], fun z => .nil, fun z => [⟨(.sl (.int .i64)), ⟨a3, x0.length, c4⟩, x0⟩, ⟨(.sl (.int .i64)), ⟨a7, x1.length, c8⟩, x1⟩], fun z => [], fun z => z.1⟩ (FUEL, 0) h (Es rfl) trivial [0, 1] rfl [] rfl ?_
      rintro ⟨n35, x11⟩ h
      obtain ⟨n35, rfl, h⟩ := fixF_some h
      rw [M_l_eqPieceS_L1] at h
      refine JS.seq (JS.rg0 ttOk 4 [(14, .v (.bool (decide (x11 < (x0.length : Int)))))] ⟨⟨rfl, trivial⟩, rfl⟩ rfl rfl ?_)
      refine JS.cond rfl (fun ht62 => ?_) (fun ht62 => ?_)
      · have h := condT h ht62
        refine JS.skip (JS.seq (JS.block (JS.seq ?_)))
        obtain ⟨g13, h⟩ := guardO_some h
        obtain ⟨g20, h⟩ := guardO_some h
        obtain ⟨y26, hy27, h⟩ := bindO_some h
        refine JS.openR 0 rfl (Int.toNat x11) (at' x0 x11) rfl fun a14 c15 ys16 hl17 hy18 => JS.openR 3 rfl (Int.toNat x11) (at' x1 x11) rfl fun a21 c22 ys23 hl24 hy25 => JS.know 4 rfl fun hs59 => JS.know 5 rfl fun hs60 => JS.regionQ rfl (by kernel_rfl) (JQ.reg ttOk 3 [] [(19, .ep ⟨a3, x0.length, c4⟩ (Int.toNat x11 * 1))] rfl ⟨hs59.ix g13, ⟨rfl, trivial⟩⟩ (JQ.loadV ttOk rfl rfl rfl rfl rfl rfl 2 rfl rfl (Int.toNat x11) 0 (Sl.v ⟨a14, (at' x0 x11).length, c15⟩) ⟨hy18 (ltNat g13), rfl⟩ rfl rfl rfl (JQ.reg ttOk 3 [] [(23, .ep ⟨a7, x1.length, c8⟩ (Int.toNat x11 * 1))] rfl ⟨hs60.ix g20, ⟨rfl, trivial⟩⟩ (JQ.loadV ttOk rfl rfl rfl rfl rfl rfl 0 rfl rfl (Int.toNat x11) 0 (Sl.v ⟨a21, (at' x1 x11).length, c22⟩) ⟨hy25 (ltNat g20), rfl⟩ rfl rfl rfl (JQ.call rfl rfl rfl rfl (ok_l_eqPiece (at' x0 x11) (at' x1 x11) a14 c15 ((at' x0 x11).length) rfl a21 c22 ((at' x1 x11).length) rfl _ hy27) rfl [3, 1] rfl rfl (JQ.reg ttOk 1 [] [(26, .v (.bool (!y26)))] rfl ⟨rfl, trivial⟩ (JQ.done rfl ?_)))))))
        refine JS.cond rfl (fun ht61 => ?_) (fun ht61 => ?_)
        · have h := condT h ht61
          refine JS.rg0 ttOk 1 [(4, .v (.bool false))] ⟨⟨rfl, trivial⟩, rfl⟩ rfl rfl ?_
          cases h
          exact JS.ret ttOk () trivial rfl rfl [] rfl
        have h := condF h ht61
        refine JS.skip (JS.endB (JS.re ttOk 3 [(W (x11 + 1))] [] [(5, .v (.int .i64 (W (x11 + 1))))] _ ⟨⟨trivial, rfl⟩, ⟨rfl, trivial⟩, rfl⟩ rfl rfl (JS.endL (n35, (W (x11 + 1))) h (Nat.lt_succ_self _) (Es rfl) trivial [4, 5] rfl [] rfl)))
      have h := condF h ht62
      refine JS.exit rfl (JS.endJ () h trivial trivial [] rfl [] rfl)
    rintro _ h
    subst hj63
    refine JS.rg0 ttOk 1 [(4, .v (.bool true))] ⟨⟨rfl, trivial⟩, rfl⟩ rfl rfl ?_
    cases h
    exact JS.ret ttOk () trivial rfl rfl [] rfl

def M_l_eqRing (x0 : List (List Int)) (x1 : List (List Int)) : Option Bool :=
  (bindO (M_l_eqPieceS x0 x1) fun (y11 : Bool) =>
  (bif (!y11) then
  some false
  else
  some true))

theorem ok_l_eqRing (x0 : List (List Int)) (x1 : List (List Int)) (a3 : Option Addr) (c4 : Nat) (l5 : Nat) (hl6 : x0.length = l5) (a7 : Option Addr) (c8 : Nat) (l9 : Nat) (hl10 : x1.length = l9) (r : Bool) (h : M_l_eqRing x0 x1 = some r) :
    FC Tryz.prog 67 [.agg #[.slice a3 l5 c4], .agg #[.slice a7 l9 c8]] [⟨(.sl (.int .i64)), ⟨a3, l5, c4⟩, x0⟩, ⟨(.sl (.int .i64)), ⟨a7, l9, c8⟩, x1⟩] (fun _ : Unit => True) (fun _ => .bool r) (fun _ => []) :=
  by
    subst hl6
    subst hl10
    refine FC.of (T := TTx) Tryz.call67 Tryz.func67 rfl rfl fun w0 => ?_
    unfold M_l_eqRing at h
    refine JS.rgB ttOk 3 [] [3, 4] [(2, .bp 3 0), (3, .bp 4 0)] (.new 3 41 [.slice a3 x0.length c4] (.new 4 41 [.slice a7 x1.length c8] .nil)) ⟨(Es rfl), (Bs rfl rfl)⟩ rfl rfl (JS.seq (JS.seq (JS.region (JO.reg ttOk 4 [] [] [(6, .v (.slice a3 x0.length c4)), (8, .v (.slice a7 x1.length c8))] _ rfl ⟨(Es rfl), rfl⟩ ?_))))
    obtain ⟨y11, hy12, h⟩ := bindO_some h
    refine JO.call rfl rfl rfl rfl (ok_l_eqPieceS x0 x1 a3 c4 x0.length rfl a7 c8 x1.length rfl _ hy12) rfl [0, 1] rfl rfl fun _ _ => JO.reg ttOk 1 [] [] [(10, .v (.bool (!y11)))] _ rfl ⟨⟨rfl, trivial⟩, rfl⟩ (JO.done rfl ?_)
    refine JS.cond rfl (fun ht14 => ?_) (fun ht14 => ?_)
    · have h := condT h ht14
      refine JS.rg0 ttOk 1 [(4, .v (.bool false))] ⟨⟨rfl, trivial⟩, rfl⟩ rfl rfl ?_
      cases h
      exact JS.ret ttOk () trivial rfl rfl [] rfl
    have h := condF h ht14
    refine JS.skip (JS.rg0 ttOk 1 [(4, .v (.bool true))] ⟨⟨rfl, trivial⟩, rfl⟩ rfl rfl ?_)
    cases h
    exact JS.ret ttOk () trivial rfl rfl [] rfl

def M_l_eqLineS_L1 (x0 : List (List Int × Int)) (x1 : List (List Int × Int)) (j44 : Unit → Option Bool) (k34 : Int → Option Bool) : Int → Option Bool := fun x11 =>
  (bif (decide (x11 < (x0.length : Int))) then
  (guardO (0 ≤ x11 ∧ x11 < (x0.length : Int)) <|
  (guardO (0 ≤ x11 ∧ x11 < (x1.length : Int)) <|
  (bindO (M_l_eqLine ((at' x0 x11).1, (at' x0 x11).2) ((at' x1 x11).1, (at' x1 x11).2)) fun (y26 : Bool) =>
  (bif (!y26) then
  some false
  else
  k34 (W (x11 + 1))))))
  else
  j44 ())

def M_l_eqLineS (x0 : List (List Int × Int)) (x1 : List (List Int × Int)) : Option Bool :=
  (bif (!(decide ((x0.length : Int) = (x1.length : Int)))) then
  some false
  else
  (joinO (fun (_ : Unit) =>
  some true) fun j44 =>
  (fixF (M_l_eqLineS_L1 x0 x1 j44) FUEL 0)))

theorem ok_l_eqLineS (x0 : List (List Int × Int)) (x1 : List (List Int × Int)) (a3 : Option Addr) (c4 : Nat) (l5 : Nat) (hl6 : x0.length = l5) (a7 : Option Addr) (c8 : Nat) (l9 : Nat) (hl10 : x1.length = l9) (r : Bool) (h : M_l_eqLineS x0 x1 = some r) :
    FC Tryz.prog 148 [.slice a3 l5 c4, .slice a7 l9 c8] [⟨(.pair (.sl (.int .i64)) (.int .i64)), ⟨a3, l5, c4⟩, x0⟩, ⟨(.pair (.sl (.int .i64)) (.int .i64)), ⟨a7, l9, c8⟩, x1⟩] (fun _ : Unit => True) (fun _ => .bool r) (fun _ => []) :=
  by
    subst hl6
    subst hl10
    refine FC.of (T := TTx) Tryz.call148 Tryz.func148 rfl rfl fun w0 => ?_
    unfold M_l_eqLineS at h
    refine JS.rg0 ttOk 1 [] ⟨trivial, rfl⟩ rfl rfl (JS.seq (JS.rg0 ttOk 5 [(10, .v (.bool (!(decide ((x0.length : Int) = (x1.length : Int))))))] ⟨⟨rfl, trivial⟩, rfl⟩ rfl rfl ?_))
    refine JS.cond rfl (fun ht64 => ?_) (fun ht64 => ?_)
    · have h := condT h ht64
      refine JS.rg0 ttOk 1 [(4, .v (.bool false))] ⟨⟨rfl, trivial⟩, rfl⟩ rfl rfl ?_
      cases h
      exact JS.ret ttOk () trivial rfl rfl [] rfl
    have h := condF h ht64
    refine JS.skip (JS.seq (JS.rg0 ttOk 1 [(5, .v (.int .i64 0))] ⟨⟨rfl, trivial⟩, rfl⟩ rfl rfl ?_))
    obtain ⟨j44, hj63, h⟩ := joinO_some h
    refine JS.blockJ (ι := Unit) ⟨fun _ => j44 () = some r, fun _ => [], fun _ => .nil, fun _ => [], fun _ => [], fun _ => 0⟩ ?_ ?_
    · refine JS.loop (ι := Nat × Int) ⟨fun z => fixF (M_l_eqLineS_L1 x0 x1 j44) z.1 z.2 = some r, fun z => [(0, .v (.slice a3 x0.length c4)), (1, .v (.slice a7 x1.length c8)), (5, .v (.int .i64 z.2))], fun z => .nil, fun z => [⟨(.pair (.sl (.int .i64)) (.int .i64)), ⟨a3, x0.length, c4⟩, x0⟩, ⟨(.pair (.sl (.int .i64)) (.int .i64)), ⟨a7, x1.length, c8⟩, x1⟩], fun z => [], fun z => z.1⟩ (FUEL, 0) h (Es rfl) trivial [0, 1] rfl [] rfl ?_
      rintro ⟨n35, x11⟩ h
      obtain ⟨n35, rfl, h⟩ := fixF_some h
      rw [M_l_eqLineS_L1] at h
      refine JS.seq (JS.rg0 ttOk 4 [(14, .v (.bool (decide (x11 < (x0.length : Int)))))] ⟨⟨rfl, trivial⟩, rfl⟩ rfl rfl ?_)
      refine JS.cond rfl (fun ht62 => ?_) (fun ht62 => ?_)
      · have h := condT h ht62
        refine JS.skip (JS.seq (JS.block (JS.seq ?_)))
        obtain ⟨g13, h⟩ := guardO_some h
        obtain ⟨g20, h⟩ := guardO_some h
        obtain ⟨y26, hy27, h⟩ := bindO_some h
        refine JS.openR 0 rfl (Int.toNat x11) (at' x0 x11) rfl fun a14 c15 ys16 hl17 hy18 => JS.openR 3 rfl (Int.toNat x11) (at' x1 x11) rfl fun a21 c22 ys23 hl24 hy25 => JS.know 4 rfl fun hs59 => JS.know 5 rfl fun hs60 => JS.regionQ rfl (by kernel_rfl) (JQ.reg ttOk 3 [] [(19, .ep ⟨a3, x0.length, c4⟩ (Int.toNat x11 * 2))] rfl ⟨hs59.ix g13, ⟨rfl, trivial⟩⟩ (JQ.loadV ttOk rfl rfl rfl rfl rfl rfl 2 rfl rfl (Int.toNat x11) 0 ((Sl.v ⟨a14, ((at' x0 x11).1).length, c15⟩), (at' x0 x11).2) ⟨hy18 (ltNat g13), rfl⟩ rfl rfl rfl (JQ.reg ttOk 3 [] [(23, .ep ⟨a7, x1.length, c8⟩ (Int.toNat x11 * 2))] rfl ⟨hs60.ix g20, ⟨rfl, trivial⟩⟩ (JQ.loadV ttOk rfl rfl rfl rfl rfl rfl 0 rfl rfl (Int.toNat x11) 0 ((Sl.v ⟨a21, ((at' x1 x11).1).length, c22⟩), (at' x1 x11).2) ⟨hy25 (ltNat g20), rfl⟩ rfl rfl rfl (JQ.call rfl rfl rfl rfl (ok_l_eqLine ((at' x0 x11).1, (at' x0 x11).2) ((at' x1 x11).1, (at' x1 x11).2) a14 c15 (((at' x0 x11).1).length) rfl a21 c22 (((at' x1 x11).1).length) rfl _ hy27) rfl [3, 1] rfl rfl (JQ.reg ttOk 1 [] [(26, .v (.bool (!y26)))] rfl ⟨rfl, trivial⟩ (JQ.done rfl ?_)))))))
        refine JS.cond rfl (fun ht61 => ?_) (fun ht61 => ?_)
        · have h := condT h ht61
          refine JS.rg0 ttOk 1 [(4, .v (.bool false))] ⟨⟨rfl, trivial⟩, rfl⟩ rfl rfl ?_
          cases h
          exact JS.ret ttOk () trivial rfl rfl [] rfl
        have h := condF h ht61
        refine JS.skip (JS.endB (JS.re ttOk 3 [(W (x11 + 1))] [] [(5, .v (.int .i64 (W (x11 + 1))))] _ ⟨⟨trivial, rfl⟩, ⟨rfl, trivial⟩, rfl⟩ rfl rfl (JS.endL (n35, (W (x11 + 1))) h (Nat.lt_succ_self _) (Es rfl) trivial [4, 5] rfl [] rfl)))
      have h := condF h ht62
      refine JS.exit rfl (JS.endJ () h trivial trivial [] rfl [] rfl)
    rintro _ h
    subst hj63
    refine JS.rg0 ttOk 1 [(4, .v (.bool true))] ⟨⟨rfl, trivial⟩, rfl⟩ rfl rfl ?_
    cases h
    exact JS.ret ttOk () trivial rfl rfl [] rfl

def M_l_eqUndo (x0 : List (List Int × Int)) (x1 : List (List Int × Int)) : Option Bool :=
  (bindO (M_l_eqLineS x0 x1) fun (y11 : Bool) =>
  (bif (!y11) then
  some false
  else
  some true))

theorem ok_l_eqUndo (x0 : List (List Int × Int)) (x1 : List (List Int × Int)) (a3 : Option Addr) (c4 : Nat) (l5 : Nat) (hl6 : x0.length = l5) (a7 : Option Addr) (c8 : Nat) (l9 : Nat) (hl10 : x1.length = l9) (r : Bool) (h : M_l_eqUndo x0 x1 = some r) :
    FC Tryz.prog 68 [.agg #[.slice a3 l5 c4], .agg #[.slice a7 l9 c8]] [⟨(.pair (.sl (.int .i64)) (.int .i64)), ⟨a3, l5, c4⟩, x0⟩, ⟨(.pair (.sl (.int .i64)) (.int .i64)), ⟨a7, l9, c8⟩, x1⟩] (fun _ : Unit => True) (fun _ => .bool r) (fun _ => []) :=
  by
    subst hl6
    subst hl10
    refine FC.of (T := TTx) Tryz.call68 Tryz.func68 rfl rfl fun w0 => ?_
    unfold M_l_eqUndo at h
    refine JS.rgB ttOk 3 [] [3, 4] [(2, .bp 3 0), (3, .bp 4 0)] (.new 3 44 [.slice a3 x0.length c4] (.new 4 44 [.slice a7 x1.length c8] .nil)) ⟨(Es rfl), (Bs rfl rfl)⟩ rfl rfl (JS.seq (JS.seq (JS.region (JO.reg ttOk 4 [] [] [(6, .v (.slice a3 x0.length c4)), (8, .v (.slice a7 x1.length c8))] _ rfl ⟨(Es rfl), rfl⟩ ?_))))
    obtain ⟨y11, hy12, h⟩ := bindO_some h
    refine JO.call rfl rfl rfl rfl (ok_l_eqLineS x0 x1 a3 c4 x0.length rfl a7 c8 x1.length rfl _ hy12) rfl [0, 1] rfl rfl fun _ _ => JO.reg ttOk 1 [] [] [(10, .v (.bool (!y11)))] _ rfl ⟨⟨rfl, trivial⟩, rfl⟩ (JO.done rfl ?_)
    refine JS.cond rfl (fun ht14 => ?_) (fun ht14 => ?_)
    · have h := condT h ht14
      refine JS.rg0 ttOk 1 [(4, .v (.bool false))] ⟨⟨rfl, trivial⟩, rfl⟩ rfl rfl ?_
      cases h
      exact JS.ret ttOk () trivial rfl rfl [] rfl
    have h := condF h ht14
    refine JS.skip (JS.rg0 ttOk 1 [(4, .v (.bool true))] ⟨⟨rfl, trivial⟩, rfl⟩ rfl rfl ?_)
    cases h
    exact JS.ret ttOk () trivial rfl rfl [] rfl

def M_l_eqEd (x0 : Bool × Int × (List Int × Int) × Int × Int × Int × Int × Int × Int × Int × List (List Int) × (List (List Int × Int)) × Int × (List Int × Int) × List Int × Int × List Int × Int) (x1 : Bool × Int × (List Int × Int) × Int × Int × Int × Int × Int × Int × Int × List (List Int) × (List (List Int × Int)) × Int × (List Int × Int) × List Int × Int × List Int × Int) : Option Bool :=
  (bif (!(x0.1 == x1.1)) then
  some false
  else
  (bif (!(decide (x0.2.1 = x1.2.1))) then
  some false
  else
  (bindO (M_l_eqLine x0.2.2.1 x1.2.2.1) fun (y51 : Bool) =>
  (bif (!y51) then
  some false
  else
  (bif (!(decide (x0.2.2.2.1 = x1.2.2.2.1))) then
  some false
  else
  (bif (!(decide (x0.2.2.2.2.1 = x1.2.2.2.2.1))) then
  some false
  else
  (bif (!(decide (x0.2.2.2.2.2.1 = x1.2.2.2.2.2.1))) then
  some false
  else
  (bif (!(decide (x0.2.2.2.2.2.2.1 = x1.2.2.2.2.2.2.1))) then
  some false
  else
  (bif (!(decide (x0.2.2.2.2.2.2.2.1 = x1.2.2.2.2.2.2.2.1))) then
  some false
  else
  (bif (!(decide (x0.2.2.2.2.2.2.2.2.1 = x1.2.2.2.2.2.2.2.2.1))) then
  some false
  else
  (bif (!(decide (x0.2.2.2.2.2.2.2.2.2.1 = x1.2.2.2.2.2.2.2.2.2.1))) then
  some false
  else
  (bindO (M_l_eqRing x0.2.2.2.2.2.2.2.2.2.2.1 x1.2.2.2.2.2.2.2.2.2.2.1) fun (y53 : Bool) =>
  (bif (!y53) then
  some false
  else
  (bindO (M_l_eqUndo x0.2.2.2.2.2.2.2.2.2.2.2.1 x1.2.2.2.2.2.2.2.2.2.2.2.1) fun (y55 : Bool) =>
  (bif (!y55) then
  some false
  else
  (bif (!(decide (x0.2.2.2.2.2.2.2.2.2.2.2.2.1 = x1.2.2.2.2.2.2.2.2.2.2.2.2.1))) then
  some false
  else
  (bindO (M_l_eqLine x0.2.2.2.2.2.2.2.2.2.2.2.2.2.1 x1.2.2.2.2.2.2.2.2.2.2.2.2.2.1) fun (y57 : Bool) =>
  (bif (!y57) then
  some false
  else
  (bindO (M_l_eqIntS x0.2.2.2.2.2.2.2.2.2.2.2.2.2.2.1 x1.2.2.2.2.2.2.2.2.2.2.2.2.2.2.1) fun (y59 : Bool) =>
  (bif (!y59) then
  some false
  else
  (bif (!(decide (x0.2.2.2.2.2.2.2.2.2.2.2.2.2.2.2.1 = x1.2.2.2.2.2.2.2.2.2.2.2.2.2.2.2.1))) then
  some false
  else
  (bindO (M_l_eqLine x0.2.2.2.2.2.2.2.2.2.2.2.2.2.2.2.2 x1.2.2.2.2.2.2.2.2.2.2.2.2.2.2.2.2) fun (y61 : Bool) =>
  (bif (!y61) then
  some false
  else
  some true)))))))))))))))))))))))

theorem ok_l_eqEd (x0 : Bool × Int × (List Int × Int) × Int × Int × Int × Int × Int × Int × Int × List (List Int) × (List (List Int × Int)) × Int × (List Int × Int) × List Int × Int × List Int × Int) (x1 : Bool × Int × (List Int × Int) × Int × Int × Int × Int × Int × Int × Int × List (List Int) × (List (List Int × Int)) × Int × (List Int × Int) × List Int × Int × List Int × Int) (a3 : Option Addr) (c4 : Nat) (l5 : Nat) (hl6 : x0.2.2.1.1.length = l5) (a7 : Option Addr) (c8 : Nat) (l9 : Nat) (hl10 : x0.2.2.2.2.2.2.2.2.2.2.1.length = l9) (a11 : Option Addr) (c12 : Nat) (l13 : Nat) (hl14 : x0.2.2.2.2.2.2.2.2.2.2.2.1.length = l13) (a15 : Option Addr) (c16 : Nat) (l17 : Nat) (hl18 : x0.2.2.2.2.2.2.2.2.2.2.2.2.2.1.1.length = l17) (a19 : Option Addr) (c20 : Nat) (l21 : Nat) (hl22 : x0.2.2.2.2.2.2.2.2.2.2.2.2.2.2.1.length = l21) (a23 : Option Addr) (c24 : Nat) (l25 : Nat) (hl26 : x0.2.2.2.2.2.2.2.2.2.2.2.2.2.2.2.2.1.length = l25) (a27 : Option Addr) (c28 : Nat) (l29 : Nat) (hl30 : x1.2.2.1.1.length = l29) (a31 : Option Addr) (c32 : Nat) (l33 : Nat) (hl34 : x1.2.2.2.2.2.2.2.2.2.2.1.length = l33) (a35 : Option Addr) (c36 : Nat) (l37 : Nat) (hl38 : x1.2.2.2.2.2.2.2.2.2.2.2.1.length = l37) (a39 : Option Addr) (c40 : Nat) (l41 : Nat) (hl42 : x1.2.2.2.2.2.2.2.2.2.2.2.2.2.1.1.length = l41) (a43 : Option Addr) (c44 : Nat) (l45 : Nat) (hl46 : x1.2.2.2.2.2.2.2.2.2.2.2.2.2.2.1.length = l45) (a47 : Option Addr) (c48 : Nat) (l49 : Nat) (hl50 : x1.2.2.2.2.2.2.2.2.2.2.2.2.2.2.2.2.1.length = l49) (r : Bool) (h : M_l_eqEd x0 x1 = some r) :
    FC Tryz.prog 17 [.agg #[.bool x0.1, .int .i64 x0.2.1, .slice a3 l5 c4, .int .i64 x0.2.2.1.2, .int .i64 x0.2.2.2.1, .int .i64 x0.2.2.2.2.1, .int .i64 x0.2.2.2.2.2.1, .int .i64 x0.2.2.2.2.2.2.1, .int .i64 x0.2.2.2.2.2.2.2.1, .int .i64 x0.2.2.2.2.2.2.2.2.1, .int .i64 x0.2.2.2.2.2.2.2.2.2.1, .slice a7 l9 c8, .slice a11 l13 c12, .int .i64 x0.2.2.2.2.2.2.2.2.2.2.2.2.1, .slice a15 l17 c16, .int .i64 x0.2.2.2.2.2.2.2.2.2.2.2.2.2.1.2, .slice a19 l21 c20, .int .i64 x0.2.2.2.2.2.2.2.2.2.2.2.2.2.2.2.1, .slice a23 l25 c24, .int .i64 x0.2.2.2.2.2.2.2.2.2.2.2.2.2.2.2.2.2], .agg #[.bool x1.1, .int .i64 x1.2.1, .slice a27 l29 c28, .int .i64 x1.2.2.1.2, .int .i64 x1.2.2.2.1, .int .i64 x1.2.2.2.2.1, .int .i64 x1.2.2.2.2.2.1, .int .i64 x1.2.2.2.2.2.2.1, .int .i64 x1.2.2.2.2.2.2.2.1, .int .i64 x1.2.2.2.2.2.2.2.2.1, .int .i64 x1.2.2.2.2.2.2.2.2.2.1, .slice a31 l33 c32, .slice a35 l37 c36, .int .i64 x1.2.2.2.2.2.2.2.2.2.2.2.2.1, .slice a39 l41 c40, .int .i64 x1.2.2.2.2.2.2.2.2.2.2.2.2.2.1.2, .slice a43 l45 c44, .int .i64 x1.2.2.2.2.2.2.2.2.2.2.2.2.2.2.2.1, .slice a47 l49 c48, .int .i64 x1.2.2.2.2.2.2.2.2.2.2.2.2.2.2.2.2.2]] [⟨(.int .i64), ⟨a3, l5, c4⟩, x0.2.2.1.1⟩, ⟨(.sl (.int .i64)), ⟨a7, l9, c8⟩, x0.2.2.2.2.2.2.2.2.2.2.1⟩, ⟨(.pair (.sl (.int .i64)) (.int .i64)), ⟨a11, l13, c12⟩, x0.2.2.2.2.2.2.2.2.2.2.2.1⟩, ⟨(.int .i64), ⟨a15, l17, c16⟩, x0.2.2.2.2.2.2.2.2.2.2.2.2.2.1.1⟩, ⟨(.int .i64), ⟨a19, l21, c20⟩, x0.2.2.2.2.2.2.2.2.2.2.2.2.2.2.1⟩, ⟨(.int .i64), ⟨a23, l25, c24⟩, x0.2.2.2.2.2.2.2.2.2.2.2.2.2.2.2.2.1⟩, ⟨(.int .i64), ⟨a27, l29, c28⟩, x1.2.2.1.1⟩, ⟨(.sl (.int .i64)), ⟨a31, l33, c32⟩, x1.2.2.2.2.2.2.2.2.2.2.1⟩, ⟨(.pair (.sl (.int .i64)) (.int .i64)), ⟨a35, l37, c36⟩, x1.2.2.2.2.2.2.2.2.2.2.2.1⟩, ⟨(.int .i64), ⟨a39, l41, c40⟩, x1.2.2.2.2.2.2.2.2.2.2.2.2.2.1.1⟩, ⟨(.int .i64), ⟨a43, l45, c44⟩, x1.2.2.2.2.2.2.2.2.2.2.2.2.2.2.1⟩, ⟨(.int .i64), ⟨a47, l49, c48⟩, x1.2.2.2.2.2.2.2.2.2.2.2.2.2.2.2.2.1⟩] (fun _ : Unit => True) (fun _ => .bool r) (fun _ => []) :=
  by
    subst hl6
    subst hl10
    subst hl14
    subst hl18
    subst hl22
    subst hl26
    subst hl30
    subst hl34
    subst hl38
    subst hl42
    subst hl46
    subst hl50
    refine FC.of (T := TTx) Tryz.call17 Tryz.func17 rfl rfl fun w0 => ?_
    unfold M_l_eqEd at h
    refine JS.rgB ttOk 3 [] [13, 14] [(2, .bp 13 0), (3, .bp 14 0)] (.new 13 46 (cl46 x0 a3 c4 a7 c8 a11 c12 a15 c16 a19 c20 a23 c24) (.new 14 46 (cl46 x1 a27 c28 a31 c32 a35 c36 a39 c40 a43 c44 a47 c48) .nil)) ⟨(Es rfl), (Bs rfl rfl)⟩ rfl rfl (JS.seq (JS.rg0 ttOk 5 [(9, .v (.bool (!(x0.1 == x1.1))))] ⟨⟨rfl, trivial⟩, rfl⟩ rfl rfl ?_))
    refine JS.cond rfl (fun ht96 => ?_) (fun ht96 => ?_)
    · have h := condT h ht96
      refine JS.rg0 ttOk 1 [(4, .v (.bool false))] ⟨⟨rfl, trivial⟩, rfl⟩ rfl rfl ?_
      cases h
      exact JS.ret ttOk () trivial rfl rfl [] rfl
    have h := condF h ht96
    refine JS.skip (JS.seq (JS.rg0 ttOk 5 [(14, .v (.bool (!(decide (x0.2.1 = x1.2.1)))))] ⟨⟨rfl, trivial⟩, rfl⟩ rfl rfl ?_))
    refine JS.cond rfl (fun ht95 => ?_) (fun ht95 => ?_)
    · have h := condT h ht95
      refine JS.rg0 ttOk 1 [(4, .v (.bool false))] ⟨⟨rfl, trivial⟩, rfl⟩ rfl rfl ?_
      cases h
      exact JS.ret ttOk () trivial rfl rfl [] rfl
    have h := condF h ht95
    refine JS.skip (JS.seq (JS.seq (JS.region (JO.reg ttOk 4 [] [] [(16, .v (.agg #[.slice a3 x0.2.2.1.1.length c4, .int .i64 x0.2.2.1.2])), (18, .v (.agg #[.slice a27 x1.2.2.1.1.length c28, .int .i64 x1.2.2.1.2]))] _ rfl ⟨(Es rfl), rfl⟩ ?_))))
    obtain ⟨y51, hy52, h⟩ := bindO_some h
    refine JO.call rfl rfl rfl rfl (ok_l_eqLine x0.2.2.1 x1.2.2.1 a3 c4 x0.2.2.1.1.length rfl a27 c28 x1.2.2.1.1.length rfl _ hy52) rfl [0, 6] rfl rfl fun _ _ => JO.reg ttOk 1 [] [] [(20, .v (.bool (!y51)))] _ rfl ⟨⟨rfl, trivial⟩, rfl⟩ (JO.done rfl ?_)
    refine JS.cond rfl (fun ht94 => ?_) (fun ht94 => ?_)
    · have h := condT h ht94
      refine JS.rg0 ttOk 1 [(4, .v (.bool false))] ⟨⟨rfl, trivial⟩, rfl⟩ rfl rfl ?_
      cases h
      exact JS.ret ttOk () trivial rfl rfl [] rfl
    have h := condF h ht94
    refine JS.skip (JS.seq (JS.rg0 ttOk 5 [(25, .v (.bool (!(decide (x0.2.2.2.1 = x1.2.2.2.1)))))] ⟨⟨rfl, trivial⟩, rfl⟩ rfl rfl ?_))
    refine JS.cond rfl (fun ht93 => ?_) (fun ht93 => ?_)
    · have h := condT h ht93
      refine JS.rg0 ttOk 1 [(4, .v (.bool false))] ⟨⟨rfl, trivial⟩, rfl⟩ rfl rfl ?_
      cases h
      exact JS.ret ttOk () trivial rfl rfl [] rfl
    have h := condF h ht93
    refine JS.skip (JS.seq (JS.rg0 ttOk 5 [(30, .v (.bool (!(decide (x0.2.2.2.2.1 = x1.2.2.2.2.1)))))] ⟨⟨rfl, trivial⟩, rfl⟩ rfl rfl ?_))
    refine JS.cond rfl (fun ht92 => ?_) (fun ht92 => ?_)
    · have h := condT h ht92
      refine JS.rg0 ttOk 1 [(4, .v (.bool false))] ⟨⟨rfl, trivial⟩, rfl⟩ rfl rfl ?_
      cases h
      exact JS.ret ttOk () trivial rfl rfl [] rfl
    have h := condF h ht92
    refine JS.skip (JS.seq (JS.rg0 ttOk 5 [(35, .v (.bool (!(decide (x0.2.2.2.2.2.1 = x1.2.2.2.2.2.1)))))] ⟨⟨rfl, trivial⟩, rfl⟩ rfl rfl ?_))
    refine JS.cond rfl (fun ht91 => ?_) (fun ht91 => ?_)
    · have h := condT h ht91
      refine JS.rg0 ttOk 1 [(4, .v (.bool false))] ⟨⟨rfl, trivial⟩, rfl⟩ rfl rfl ?_
      cases h
      exact JS.ret ttOk () trivial rfl rfl [] rfl
    have h := condF h ht91
    refine JS.skip (JS.seq (JS.rg0 ttOk 5 [(40, .v (.bool (!(decide (x0.2.2.2.2.2.2.1 = x1.2.2.2.2.2.2.1)))))] ⟨⟨rfl, trivial⟩, rfl⟩ rfl rfl ?_))
    refine JS.cond rfl (fun ht90 => ?_) (fun ht90 => ?_)
    · have h := condT h ht90
      refine JS.rg0 ttOk 1 [(4, .v (.bool false))] ⟨⟨rfl, trivial⟩, rfl⟩ rfl rfl ?_
      cases h
      exact JS.ret ttOk () trivial rfl rfl [] rfl
    have h := condF h ht90
    refine JS.skip (JS.seq (JS.rg0 ttOk 5 [(45, .v (.bool (!(decide (x0.2.2.2.2.2.2.2.1 = x1.2.2.2.2.2.2.2.1)))))] ⟨⟨rfl, trivial⟩, rfl⟩ rfl rfl ?_))
    refine JS.cond rfl (fun ht89 => ?_) (fun ht89 => ?_)
    · have h := condT h ht89
      refine JS.rg0 ttOk 1 [(4, .v (.bool false))] ⟨⟨rfl, trivial⟩, rfl⟩ rfl rfl ?_
      cases h
      exact JS.ret ttOk () trivial rfl rfl [] rfl
    have h := condF h ht89
    refine JS.skip (JS.seq (JS.rg0 ttOk 5 [(50, .v (.bool (!(decide (x0.2.2.2.2.2.2.2.2.1 = x1.2.2.2.2.2.2.2.2.1)))))] ⟨⟨rfl, trivial⟩, rfl⟩ rfl rfl ?_))
    refine JS.cond rfl (fun ht88 => ?_) (fun ht88 => ?_)
    · have h := condT h ht88
      refine JS.rg0 ttOk 1 [(4, .v (.bool false))] ⟨⟨rfl, trivial⟩, rfl⟩ rfl rfl ?_
      cases h
      exact JS.ret ttOk () trivial rfl rfl [] rfl
    have h := condF h ht88
    refine JS.skip (JS.seq (JS.rg0 ttOk 5 [(55, .v (.bool (!(decide (x0.2.2.2.2.2.2.2.2.2.1 = x1.2.2.2.2.2.2.2.2.2.1)))))] ⟨⟨rfl, trivial⟩, rfl⟩ rfl rfl ?_))
    refine JS.cond rfl (fun ht87 => ?_) (fun ht87 => ?_)
    · have h := condT h ht87
      refine JS.rg0 ttOk 1 [(4, .v (.bool false))] ⟨⟨rfl, trivial⟩, rfl⟩ rfl rfl ?_
      cases h
      exact JS.ret ttOk () trivial rfl rfl [] rfl
    have h := condF h ht87
    refine JS.skip (JS.seq (JS.seq (JS.region (JO.reg ttOk 4 [] [] [(57, .v (.agg #[.slice a7 x0.2.2.2.2.2.2.2.2.2.2.1.length c8])), (59, .v (.agg #[.slice a31 x1.2.2.2.2.2.2.2.2.2.2.1.length c32]))] _ rfl ⟨(Es rfl), rfl⟩ ?_))))
    obtain ⟨y53, hy54, h⟩ := bindO_some h
    refine JO.call rfl rfl rfl rfl (ok_l_eqRing x0.2.2.2.2.2.2.2.2.2.2.1 x1.2.2.2.2.2.2.2.2.2.2.1 a7 c8 x0.2.2.2.2.2.2.2.2.2.2.1.length rfl a31 c32 x1.2.2.2.2.2.2.2.2.2.2.1.length rfl _ hy54) rfl [1, 7] rfl rfl fun _ _ => JO.reg ttOk 1 [] [] [(61, .v (.bool (!y53)))] _ rfl ⟨⟨rfl, trivial⟩, rfl⟩ (JO.done rfl ?_)
    refine JS.cond rfl (fun ht86 => ?_) (fun ht86 => ?_)
    · have h := condT h ht86
      refine JS.rg0 ttOk 1 [(4, .v (.bool false))] ⟨⟨rfl, trivial⟩, rfl⟩ rfl rfl ?_
      cases h
      exact JS.ret ttOk () trivial rfl rfl [] rfl
    have h := condF h ht86
    refine JS.skip (JS.seq (JS.seq (JS.region (JO.reg ttOk 4 [] [] [(63, .v (.agg #[.slice a11 x0.2.2.2.2.2.2.2.2.2.2.2.1.length c12])), (65, .v (.agg #[.slice a35 x1.2.2.2.2.2.2.2.2.2.2.2.1.length c36]))] _ rfl ⟨(Es rfl), rfl⟩ ?_))))
    obtain ⟨y55, hy56, h⟩ := bindO_some h
    refine JO.call rfl rfl rfl rfl (ok_l_eqUndo x0.2.2.2.2.2.2.2.2.2.2.2.1 x1.2.2.2.2.2.2.2.2.2.2.2.1 a11 c12 x0.2.2.2.2.2.2.2.2.2.2.2.1.length rfl a35 c36 x1.2.2.2.2.2.2.2.2.2.2.2.1.length rfl _ hy56) rfl [2, 8] rfl rfl fun _ _ => JO.reg ttOk 1 [] [] [(67, .v (.bool (!y55)))] _ rfl ⟨⟨rfl, trivial⟩, rfl⟩ (JO.done rfl ?_)
    refine JS.cond rfl (fun ht85 => ?_) (fun ht85 => ?_)
    · have h := condT h ht85
      refine JS.rg0 ttOk 1 [(4, .v (.bool false))] ⟨⟨rfl, trivial⟩, rfl⟩ rfl rfl ?_
      cases h
      exact JS.ret ttOk () trivial rfl rfl [] rfl
    have h := condF h ht85
    refine JS.skip (JS.seq (JS.rg0 ttOk 5 [(72, .v (.bool (!(decide (x0.2.2.2.2.2.2.2.2.2.2.2.2.1 = x1.2.2.2.2.2.2.2.2.2.2.2.2.1)))))] ⟨⟨rfl, trivial⟩, rfl⟩ rfl rfl ?_))
    refine JS.cond rfl (fun ht84 => ?_) (fun ht84 => ?_)
    · have h := condT h ht84
      refine JS.rg0 ttOk 1 [(4, .v (.bool false))] ⟨⟨rfl, trivial⟩, rfl⟩ rfl rfl ?_
      cases h
      exact JS.ret ttOk () trivial rfl rfl [] rfl
    have h := condF h ht84
    refine JS.skip (JS.seq (JS.seq (JS.region (JO.reg ttOk 4 [] [] [(74, .v (.agg #[.slice a15 x0.2.2.2.2.2.2.2.2.2.2.2.2.2.1.1.length c16, .int .i64 x0.2.2.2.2.2.2.2.2.2.2.2.2.2.1.2])), (76, .v (.agg #[.slice a39 x1.2.2.2.2.2.2.2.2.2.2.2.2.2.1.1.length c40, .int .i64 x1.2.2.2.2.2.2.2.2.2.2.2.2.2.1.2]))] _ rfl ⟨(Es rfl), rfl⟩ ?_))))
    obtain ⟨y57, hy58, h⟩ := bindO_some h
    refine JO.call rfl rfl rfl rfl (ok_l_eqLine x0.2.2.2.2.2.2.2.2.2.2.2.2.2.1 x1.2.2.2.2.2.2.2.2.2.2.2.2.2.1 a15 c16 x0.2.2.2.2.2.2.2.2.2.2.2.2.2.1.1.length rfl a39 c40 x1.2.2.2.2.2.2.2.2.2.2.2.2.2.1.1.length rfl _ hy58) rfl [3, 9] rfl rfl fun _ _ => JO.reg ttOk 1 [] [] [(78, .v (.bool (!y57)))] _ rfl ⟨⟨rfl, trivial⟩, rfl⟩ (JO.done rfl ?_)
    refine JS.cond rfl (fun ht83 => ?_) (fun ht83 => ?_)
    · have h := condT h ht83
      refine JS.rg0 ttOk 1 [(4, .v (.bool false))] ⟨⟨rfl, trivial⟩, rfl⟩ rfl rfl ?_
      cases h
      exact JS.ret ttOk () trivial rfl rfl [] rfl
    have h := condF h ht83
    refine JS.skip (JS.seq (JS.seq (JS.region (JO.reg ttOk 4 [] [] [(80, .v (.slice a19 x0.2.2.2.2.2.2.2.2.2.2.2.2.2.2.1.length c20)), (82, .v (.slice a43 x1.2.2.2.2.2.2.2.2.2.2.2.2.2.2.1.length c44))] _ rfl ⟨(Es rfl), rfl⟩ ?_))))
    obtain ⟨y59, hy60, h⟩ := bindO_some h
    refine JO.call rfl rfl rfl rfl (ok_l_eqIntS x0.2.2.2.2.2.2.2.2.2.2.2.2.2.2.1 x1.2.2.2.2.2.2.2.2.2.2.2.2.2.2.1 a19 c20 x0.2.2.2.2.2.2.2.2.2.2.2.2.2.2.1.length rfl a43 c44 x1.2.2.2.2.2.2.2.2.2.2.2.2.2.2.1.length rfl _ hy60) rfl [4, 10] rfl rfl fun _ _ => JO.reg ttOk 1 [] [] [(84, .v (.bool (!y59)))] _ rfl ⟨⟨rfl, trivial⟩, rfl⟩ (JO.done rfl ?_)
    refine JS.cond rfl (fun ht82 => ?_) (fun ht82 => ?_)
    · have h := condT h ht82
      refine JS.rg0 ttOk 1 [(4, .v (.bool false))] ⟨⟨rfl, trivial⟩, rfl⟩ rfl rfl ?_
      cases h
      exact JS.ret ttOk () trivial rfl rfl [] rfl
    have h := condF h ht82
    refine JS.skip (JS.seq (JS.rg0 ttOk 5 [(89, .v (.bool (!(decide (x0.2.2.2.2.2.2.2.2.2.2.2.2.2.2.2.1 = x1.2.2.2.2.2.2.2.2.2.2.2.2.2.2.2.1)))))] ⟨⟨rfl, trivial⟩, rfl⟩ rfl rfl ?_))
    refine JS.cond rfl (fun ht81 => ?_) (fun ht81 => ?_)
    · have h := condT h ht81
      refine JS.rg0 ttOk 1 [(4, .v (.bool false))] ⟨⟨rfl, trivial⟩, rfl⟩ rfl rfl ?_
      cases h
      exact JS.ret ttOk () trivial rfl rfl [] rfl
    have h := condF h ht81
    refine JS.skip (JS.seq (JS.seq (JS.region (JO.reg ttOk 4 [] [] [(91, .v (.agg #[.slice a23 x0.2.2.2.2.2.2.2.2.2.2.2.2.2.2.2.2.1.length c24, .int .i64 x0.2.2.2.2.2.2.2.2.2.2.2.2.2.2.2.2.2])), (93, .v (.agg #[.slice a47 x1.2.2.2.2.2.2.2.2.2.2.2.2.2.2.2.2.1.length c48, .int .i64 x1.2.2.2.2.2.2.2.2.2.2.2.2.2.2.2.2.2]))] _ rfl ⟨(Es rfl), rfl⟩ ?_))))
    obtain ⟨y61, hy62, h⟩ := bindO_some h
    refine JO.call rfl rfl rfl rfl (ok_l_eqLine x0.2.2.2.2.2.2.2.2.2.2.2.2.2.2.2.2 x1.2.2.2.2.2.2.2.2.2.2.2.2.2.2.2.2 a23 c24 x0.2.2.2.2.2.2.2.2.2.2.2.2.2.2.2.2.1.length rfl a47 c48 x1.2.2.2.2.2.2.2.2.2.2.2.2.2.2.2.2.1.length rfl _ hy62) rfl [5, 11] rfl rfl fun _ _ => JO.reg ttOk 1 [] [] [(95, .v (.bool (!y61)))] _ rfl ⟨⟨rfl, trivial⟩, rfl⟩ (JO.done rfl ?_)
    refine JS.cond rfl (fun ht80 => ?_) (fun ht80 => ?_)
    · have h := condT h ht80
      refine JS.rg0 ttOk 1 [(4, .v (.bool false))] ⟨⟨rfl, trivial⟩, rfl⟩ rfl rfl ?_
      cases h
      exact JS.ret ttOk () trivial rfl rfl [] rfl
    have h := condF h ht80
    refine JS.skip (JS.rg0 ttOk 1 [(4, .v (.bool true))] ⟨⟨rfl, trivial⟩, rfl⟩ rfl rfl ?_)
    cases h
    exact JS.ret ttOk () trivial rfl rfl [] rfl

def M_l_eqStringS_L1 (x0 : List (List UInt8)) (x1 : List (List UInt8)) (j28 : Unit → Option Bool) (k20 : Int → Option Bool) : Int → Option Bool := fun x11 =>
  (bif (decide (x11 < (x0.length : Int))) then
  (guardO (0 ≤ x11 ∧ x11 < (x0.length : Int)) <|
  (guardO (0 ≤ x11 ∧ x11 < (x1.length : Int)) <|
  (bif (!(decide ((at' x0 x11) = (at' x1 x11)))) then
  some false
  else
  k20 (W (x11 + 1)))))
  else
  j28 ())

def M_l_eqStringS (x0 : List (List UInt8)) (x1 : List (List UInt8)) : Option Bool :=
  (bif (!(decide ((x0.length : Int) = (x1.length : Int)))) then
  some false
  else
  (joinO (fun (_ : Unit) =>
  some true) fun j28 =>
  (fixF (M_l_eqStringS_L1 x0 x1 j28) FUEL 0)))

theorem ok_l_eqStringS (x0 : List (List UInt8)) (x1 : List (List UInt8)) (a3 : Option Addr) (c4 : Nat) (l5 : Nat) (hl6 : x0.length = l5) (a7 : Option Addr) (c8 : Nat) (l9 : Nat) (hl10 : x1.length = l9) (r : Bool) (h : M_l_eqStringS x0 x1 = some r) :
    FC Tryz.prog 69 [.slice a3 l5 c4, .slice a7 l9 c8] [⟨.str, ⟨a3, l5, c4⟩, x0⟩, ⟨.str, ⟨a7, l9, c8⟩, x1⟩] (fun _ : Unit => True) (fun _ => .bool r) (fun _ => []) :=
  by
    subst hl6
    subst hl10
    refine FC.of (T := TTx) Tryz.call69 Tryz.func69 rfl rfl fun w0 => ?_
    unfold M_l_eqStringS at h
    refine JS.rg0 ttOk 1 [] ⟨trivial, rfl⟩ rfl rfl (JS.seq (JS.rg0 ttOk 5 [(10, .v (.bool (!(decide ((x0.length : Int) = (x1.length : Int))))))] ⟨⟨rfl, trivial⟩, rfl⟩ rfl rfl ?_))
    refine JS.cond rfl (fun ht44 => ?_) (fun ht44 => ?_)
    · have h := condT h ht44
      refine JS.rg0 ttOk 1 [(4, .v (.bool false))] ⟨⟨rfl, trivial⟩, rfl⟩ rfl rfl ?_
      cases h
      exact JS.ret ttOk () trivial rfl rfl [] rfl
    have h := condF h ht44
    refine JS.skip (JS.seq (JS.rg0 ttOk 1 [(5, .v (.int .i64 0))] ⟨⟨rfl, trivial⟩, rfl⟩ rfl rfl ?_))
    obtain ⟨j28, hj43, h⟩ := joinO_some h
    refine JS.blockJ (ι := Unit) ⟨fun _ => j28 () = some r, fun _ => [], fun _ => .nil, fun _ => [], fun _ => [], fun _ => 0⟩ ?_ ?_
    · refine JS.loop (ι := Nat × Int) ⟨fun z => fixF (M_l_eqStringS_L1 x0 x1 j28) z.1 z.2 = some r, fun z => [(0, .v (.slice a3 x0.length c4)), (1, .v (.slice a7 x1.length c8)), (5, .v (.int .i64 z.2))], fun z => .nil, fun z => [⟨.str, ⟨a3, x0.length, c4⟩, x0⟩, ⟨.str, ⟨a7, x1.length, c8⟩, x1⟩], fun z => [], fun z => z.1⟩ (FUEL, 0) h (Es rfl) trivial [0, 1] rfl [] rfl ?_
      rintro ⟨n21, x11⟩ h
      obtain ⟨n21, rfl, h⟩ := fixF_some h
      rw [M_l_eqStringS_L1] at h
      refine JS.seq (JS.rg0 ttOk 4 [(14, .v (.bool (decide (x11 < (x0.length : Int)))))] ⟨⟨rfl, trivial⟩, rfl⟩ rfl rfl ?_)
      refine JS.cond rfl (fun ht42 => ?_) (fun ht42 => ?_)
      · have h := condT h ht42
        refine JS.skip (JS.seq (JS.block (JS.seq ?_)))
        obtain ⟨g13, h⟩ := guardO_some h
        obtain ⟨g15, h⟩ := guardO_some h
        refine JS.know 0 rfl fun hs39 => JS.know 1 rfl fun hs40 => JS.regionQ rfl (by kernel_rfl) (JQ.reg ttOk 3 [] [(19, .ep ⟨a3, x0.length, c4⟩ (Int.toNat x11 * 1))] rfl ⟨hs39.ix g13, ⟨rfl, trivial⟩⟩ (JQ.load ttOk rfl rfl rfl rfl rfl rfl rfl 0 rfl rfl (Int.toNat x11) 0 (at' x0 x11) ⟨at_some g13, rfl⟩ rfl rfl (JQ.reg ttOk 3 [] [(23, .ep ⟨a7, x1.length, c8⟩ (Int.toNat x11 * 1))] rfl ⟨hs40.ix g15, ⟨rfl, trivial⟩⟩ (JQ.load ttOk rfl rfl rfl rfl rfl rfl rfl 1 rfl rfl (Int.toNat x11) 0 (at' x1 x11) ⟨at_some g15, rfl⟩ rfl rfl (JQ.reg ttOk 1 [] [(25, .v (.bool (!(decide ((at' x0 x11) = (at' x1 x11))))))] rfl ⟨rfl, trivial⟩ (JQ.done rfl ?_))))))
        refine JS.cond rfl (fun ht41 => ?_) (fun ht41 => ?_)
        · have h := condT h ht41
          refine JS.rg0 ttOk 1 [(4, .v (.bool false))] ⟨⟨rfl, trivial⟩, rfl⟩ rfl rfl ?_
          cases h
          exact JS.ret ttOk () trivial rfl rfl [] rfl
        have h := condF h ht41
        refine JS.skip (JS.endB (JS.re ttOk 3 [(W (x11 + 1))] [] [(5, .v (.int .i64 (W (x11 + 1))))] _ ⟨⟨trivial, rfl⟩, ⟨rfl, trivial⟩, rfl⟩ rfl rfl (JS.endL (n21, (W (x11 + 1))) h (Nat.lt_succ_self _) (Es rfl) trivial [0, 1] rfl [] rfl)))
      have h := condF h ht42
      refine JS.exit rfl (JS.endJ () h trivial trivial [] rfl [] rfl)
    rintro _ h
    subst hj43
    refine JS.rg0 ttOk 1 [(4, .v (.bool true))] ⟨⟨rfl, trivial⟩, rfl⟩ rfl rfl ?_
    cases h
    exact JS.ret ttOk () trivial rfl rfl [] rfl

def M_l_eqHist (x0 : Int × List (List UInt8)) (x1 : Int × List (List UInt8)) : Option Bool :=
  (bif (!(decide (x0.1 = x1.1))) then
  some false
  else
  (bindO (M_l_eqStringS x0.2 x1.2) fun (y11 : Bool) =>
  (bif (!y11) then
  some false
  else
  some true)))

theorem ok_l_eqHist (x0 : Int × List (List UInt8)) (x1 : Int × List (List UInt8)) (a3 : Option Addr) (c4 : Nat) (l5 : Nat) (hl6 : x0.2.length = l5) (a7 : Option Addr) (c8 : Nat) (l9 : Nat) (hl10 : x1.2.length = l9) (r : Bool) (h : M_l_eqHist x0 x1 = some r) :
    FC Tryz.prog 18 [.agg #[.int .i64 x0.1, .slice a3 l5 c4], .agg #[.int .i64 x1.1, .slice a7 l9 c8]] [⟨.str, ⟨a3, l5, c4⟩, x0.2⟩, ⟨.str, ⟨a7, l9, c8⟩, x1.2⟩] (fun _ : Unit => True) (fun _ => .bool r) (fun _ => []) :=
  by
    subst hl6
    subst hl10
    refine FC.of (T := TTx) Tryz.call18 Tryz.func18 rfl rfl fun w0 => ?_
    unfold M_l_eqHist at h
    refine JS.rgB ttOk 3 [] [3, 4] [(2, .bp 3 0), (3, .bp 4 0)] (.new 3 50 [.int .i64 x0.1, .slice a3 x0.2.length c4] (.new 4 50 [.int .i64 x1.1, .slice a7 x1.2.length c8] .nil)) ⟨(Es rfl), (Bs rfl rfl)⟩ rfl rfl (JS.seq (JS.rg0 ttOk 5 [(9, .v (.bool (!(decide (x0.1 = x1.1)))))] ⟨⟨rfl, trivial⟩, rfl⟩ rfl rfl ?_))
    refine JS.cond rfl (fun ht16 => ?_) (fun ht16 => ?_)
    · have h := condT h ht16
      refine JS.rg0 ttOk 1 [(4, .v (.bool false))] ⟨⟨rfl, trivial⟩, rfl⟩ rfl rfl ?_
      cases h
      exact JS.ret ttOk () trivial rfl rfl [] rfl
    have h := condF h ht16
    refine JS.skip (JS.seq (JS.seq (JS.region (JO.reg ttOk 4 [] [] [(11, .v (.slice a3 x0.2.length c4)), (13, .v (.slice a7 x1.2.length c8))] _ rfl ⟨(Es rfl), rfl⟩ ?_))))
    obtain ⟨y11, hy12, h⟩ := bindO_some h
    refine JO.call rfl rfl rfl rfl (ok_l_eqStringS x0.2 x1.2 a3 c4 x0.2.length rfl a7 c8 x1.2.length rfl _ hy12) rfl [0, 1] rfl rfl fun _ _ => JO.reg ttOk 1 [] [] [(15, .v (.bool (!y11)))] _ rfl ⟨⟨rfl, trivial⟩, rfl⟩ (JO.done rfl ?_)
    refine JS.cond rfl (fun ht15 => ?_) (fun ht15 => ?_)
    · have h := condT h ht15
      refine JS.rg0 ttOk 1 [(4, .v (.bool false))] ⟨⟨rfl, trivial⟩, rfl⟩ rfl rfl ?_
      cases h
      exact JS.ret ttOk () trivial rfl rfl [] rfl
    have h := condF h ht15
    refine JS.skip (JS.rg0 ttOk 1 [(4, .v (.bool true))] ⟨⟨rfl, trivial⟩, rfl⟩ rfl rfl ?_)
    cases h
    exact JS.ret ttOk () trivial rfl rfl [] rfl

def M_l_markIntS_L1 (x0 : List Int) (j19 : (List Int × Int) → Option (Int × List Int)) (k13 : (List Int × Int × Int) → Option (Int × List Int)) : (List Int × Int × Int) → Option (Int × List Int) := fun (x7, x8, x9) =>
  (bif (decide (x9 < (x0.length : Int))) then
  (guardO (0 ≤ x9 ∧ x9 < (x0.length : Int)) <|
  k13 ((List.set x7 (Int.toNat x9) x8), (W (x8 + 1)), (W (x9 + 1))))
  else
  j19 (x7, x8))

def M_l_markIntS (x0 : List Int) (x1 : Int) : Option (Int × List Int) :=
  (joinO (fun ((x17, x18) : List Int × Int) =>
  some (x18, x17)) fun j19 =>
  (fixF (M_l_markIntS_L1 x0 j19) FUEL (x0, x1, 0)))

theorem ok_l_markIntS (x0 : List Int) (x1 : Int) (a3 : Option Addr) (c4 : Nat) (l5 : Nat) (hl6 : x0.length = l5) (r : Int × List Int) (h : M_l_markIntS x0 x1 = some r) :
    FX Tryz.prog 22 [.slice a3 l5 c4, .int .i64 x1] [] [⟨(.int .i64), ⟨a3, l5, c4⟩, x0⟩] (fun _ : Unit => True) (fun _ => .int .i64 r.1) (fun _ => [⟨(.int .i64), ⟨a3, l5, c4⟩, r.2⟩]) :=
  by
    subst hl6
    refine FX.of (T := TTx) Tryz.call22 Tryz.func22 rfl rfl fun w0 L0 => ?_
    unfold M_l_markIntS at h
    refine JS.rg0 ttOk 1 [] ⟨trivial, rfl⟩ rfl rfl (JS.seq (JS.rg0 ttOk 1 [(5, .v (.int .i64 0))] ⟨⟨rfl, trivial⟩, rfl⟩ rfl rfl ?_))
    obtain ⟨j19, hj27, h⟩ := joinO_some h
    refine JS.blockJ (ι := List Int × Int) ⟨fun z => j19 (z.1, z.2) = some r, fun z => [(1, .v (.int .i64 z.2))], fun z => .nil, fun z => [], fun z => [⟨(.int .i64), ⟨a3, x0.length, c4⟩, z.1⟩], fun z => 0⟩ ?_ ?_
    · refine JS.loop (ι := Nat × List Int × Int × Int) ⟨fun z => fixF (M_l_markIntS_L1 x0 j19) z.1 (z.2.1, z.2.2.1, z.2.2.2) = some r, fun z => [(0, .v (.slice a3 x0.length c4)), (1, .v (.int .i64 z.2.2.1)), (5, .v (.int .i64 z.2.2.2))], fun z => .nil, fun z => [], fun z => [⟨(.int .i64), ⟨a3, x0.length, c4⟩, z.2.1⟩], fun z => z.1⟩ (FUEL, x0, x1, 0) h (Es rfl) trivial [] rfl [0] rfl ?_
      rintro ⟨n14, x7, x8, x9⟩ h
      obtain ⟨n14, rfl, h⟩ := fixF_some h
      rw [M_l_markIntS_L1] at h
      refine JS.know 0 rfl fun hs24 => JS.seq (JS.rg0 ttOk 4 [(9, .v (.bool (decide (x9 < (x0.length : Int)))))] ⟨⟨rfl, trivial⟩, rfl⟩ rfl rfl ?_)
      refine JS.cond rfl (fun ht25 => ?_) (fun ht25 => ?_)
      · have h := condT h ht25
        refine JS.skip (JS.seq (JS.block (JS.seq (JS.region ?_))))
        obtain ⟨g11, h⟩ := guardO_some h
        refine JO.reg ttOk 4 [] [] [(14, .v (.int .i64 x8)), (15, .ep ⟨a3, x0.length, c4⟩ (Int.toNat x9 * 1))] _ rfl ⟨(hs24.cast hs24.len.symm).ix g11, (Es rfl), rfl⟩ (JO.storeE ttOk rfl rfl rfl rfl rfl rfl rfl rfl rfl [0] (fs := []) rfl (Int.toNat x9) 0 (at' x7 x9) x8 ⟨at_someL hs24.len.symm g11, rfl⟩ ⟨rfl, rfl, rfl⟩ (JO.done rfl (JS.re ttOk 3 [(W (x8 + 1))] [] [(1, .v (.int .i64 (W (x8 + 1))))] _ ⟨⟨trivial, rfl⟩, ⟨rfl, trivial⟩, rfl⟩ rfl rfl (JS.endB (JS.re ttOk 3 [(W (x9 + 1))] [] [(5, .v (.int .i64 (W (x9 + 1))))] _ ⟨⟨trivial, rfl⟩, ⟨rfl, trivial⟩, rfl⟩ rfl rfl (JS.endL (n14, (List.set x7 (Int.toNat x9) x8), (W (x8 + 1)), (W (x9 + 1))) h (Nat.lt_succ_self _) (Es rfl) trivial [] rfl [0] rfl))))))
      have h := condF h ht25
      refine JS.exit rfl (JS.endJ (x7, x8) h ⟨rfl, trivial⟩ trivial [] rfl [0] rfl)
    rintro ⟨x17, x18⟩ h
    subst hj27
    refine JS.know 0 rfl fun hs26 => JS.rg0 ttOk 2 [(4, .v (.int .i64 x18))] ⟨⟨rfl, trivial⟩, rfl⟩ rfl rfl ?_
    cases h
    exact JS.retX ttOk () trivial rfl rfl [0] rfl

def M_l_markLine (x0 : List Int × Int) (x1 : Int) : Option (Int × List Int) :=
  (bindO (M_l_markIntS x0.1 x1) fun (y7, y8) =>
  some (y7, y8))

theorem ok_l_markLine (x0 : List Int × Int) (x1 : Int) (a3 : Option Addr) (c4 : Nat) (l5 : Nat) (hl6 : x0.1.length = l5) (r : Int × List Int) (h : M_l_markLine x0 x1 = some r) :
    FX Tryz.prog 70 [.agg #[.slice a3 l5 c4, .int .i64 x0.2], .int .i64 x1] [] [⟨(.int .i64), ⟨a3, l5, c4⟩, x0.1⟩] (fun _ : Unit => True) (fun _ => .int .i64 r.1) (fun _ => [⟨(.int .i64), ⟨a3, l5, c4⟩, r.2⟩]) :=
  by
    subst hl6
    refine FX.of (T := TTx) Tryz.call70 Tryz.func70 rfl rfl fun w0 L0 => ?_
    unfold M_l_markLine at h
    refine JS.rgB ttOk 2 [] [2] [(2, .bp 2 0)] (.new 2 38 [.slice a3 x0.1.length c4, .int .i64 x0.2] .nil) ⟨⟨rfl, trivial⟩, (Bs rfl rfl)⟩ rfl rfl (JS.seq (JS.region (JO.reg ttOk 3 [] [] [(6, .v (.slice a3 x0.1.length c4)), (7, .v (.int .i64 x1))] _ rfl ⟨(Es rfl), rfl⟩ ?_)))
    obtain ⟨⟨y7, y8⟩, hy9, h⟩ := bindO_some h
    refine JO.callX rfl rfl rfl rfl (ok_l_markIntS x0.1 x1 a3 c4 x0.1.length rfl _ hy9) rfl [0] rfl [] rfl rfl fun _ _ => JO.know 0 rfl fun hs10 => JO.reg ttOk 1 [] [] [(1, .v (.int .i64 y7))] _ rfl ⟨⟨rfl, trivial⟩, rfl⟩ (JO.done rfl (JS.rg0 ttOk 2 [(4, .v (.int .i64 y7))] ⟨⟨rfl, trivial⟩, rfl⟩ rfl rfl ?_))
    cases h
    exact JS.retX ttOk () trivial rfl rfl [0] rfl

def M_l_markPieceS_L1 (x0 : List (List Int)) (j27 : (List (List Int) × Int) → Option (Int × List (List Int))) (k21 : (List (List Int) × Int × Int) → Option (Int × List (List Int))) : (List (List Int) × Int × Int) → Option (Int × List (List Int)) := fun (x7, x8, x9) =>
  (bif (decide (x9 < (x0.length : Int))) then
  (guardO (0 ≤ x9 ∧ x9 < (x0.length : Int)) <|
  (bindO (M_l_markIntS (at' x7 x9) x8) fun (y16, y17) =>
  k21 ((List.set x7 (Int.toNat x9) y17), y16, (W (x9 + 1)))))
  else
  j27 (x7, x8))

def M_l_markPieceS (x0 : List (List Int)) (x1 : Int) : Option (Int × List (List Int)) :=
  (joinO (fun ((x25, x26) : List (List Int) × Int) =>
  some (x26, x25)) fun j27 =>
  (fixF (M_l_markPieceS_L1 x0 j27) FUEL (x0, x1, 0)))

theorem ok_l_markPieceS (x0 : List (List Int)) (x1 : Int) (a3 : Option Addr) (c4 : Nat) (l5 : Nat) (hl6 : x0.length = l5) (r : Int × List (List Int)) (h : M_l_markPieceS x0 x1 = some r) :
    FX Tryz.prog 149 [.slice a3 l5 c4, .int .i64 x1] [] [⟨(.sl (.int .i64)), ⟨a3, l5, c4⟩, x0⟩] (fun _ : Unit => True) (fun _ => .int .i64 r.1) (fun _ => [⟨(.sl (.int .i64)), ⟨a3, l5, c4⟩, r.2⟩]) :=
  by
    subst hl6
    refine FX.of (T := TTx) Tryz.call149 Tryz.func149 rfl rfl fun w0 L0 => ?_
    unfold M_l_markPieceS at h
    refine JS.rg0 ttOk 1 [] ⟨trivial, rfl⟩ rfl rfl (JS.seq (JS.rg0 ttOk 1 [(5, .v (.int .i64 0))] ⟨⟨rfl, trivial⟩, rfl⟩ rfl rfl ?_))
    obtain ⟨j27, hj35, h⟩ := joinO_some h
    refine JS.blockJ (ι := List (List Int) × Int) ⟨fun z => j27 (z.1, z.2) = some r, fun z => [(1, .v (.int .i64 z.2))], fun z => .nil, fun z => [], fun z => [⟨(.sl (.int .i64)), ⟨a3, x0.length, c4⟩, z.1⟩], fun z => 0⟩ ?_ ?_
    · refine JS.loop (ι := Nat × List (List Int) × Int × Int) ⟨fun z => fixF (M_l_markPieceS_L1 x0 j27) z.1 (z.2.1, z.2.2.1, z.2.2.2) = some r, fun z => [(0, .v (.slice a3 x0.length c4)), (1, .v (.int .i64 z.2.2.1)), (5, .v (.int .i64 z.2.2.2))], fun z => .nil, fun z => [], fun z => [⟨(.sl (.int .i64)), ⟨a3, x0.length, c4⟩, z.2.1⟩], fun z => z.1⟩ (FUEL, x0, x1, 0) h (Es rfl) trivial [] rfl [0] rfl ?_
      rintro ⟨n22, x7, x8, x9⟩ h
      obtain ⟨n22, rfl, h⟩ := fixF_some h
      rw [M_l_markPieceS_L1] at h
      refine JS.know 0 rfl fun hs32 => JS.seq (JS.rg0 ttOk 4 [(9, .v (.bool (decide (x9 < (x0.length : Int)))))] ⟨⟨rfl, trivial⟩, rfl⟩ rfl rfl ?_)
      refine JS.cond rfl (fun ht33 => ?_) (fun ht33 => ?_)
      · have h := condT h ht33
        refine JS.skip (JS.seq (JS.block (JS.region ?_)))
        obtain ⟨g11, h⟩ := guardO_some h
        refine JO.reg ttOk 4 [] [] [(15, .ep ⟨a3, x0.length, c4⟩ (Int.toNat x9 * 1))] _ rfl ⟨(hs32.cast hs32.len.symm).ix g11, (hs32.cast hs32.len.symm).fa g11, ⟨rfl, trivial⟩, rfl⟩ (JO.lend [0] rfl (Int.toNat x9) (at' x7 x9) rfl fun a12 c13 l14 hl15 => ?_)
        obtain rfl : ([.slice a12 (at' x7 x9).length c13] : List Value) = l14 := Option.some.inj hl15
        refine JO.loadV ttOk rfl rfl rfl rfl rfl rfl 0 rfl rfl (Int.toNat x9) 0 (Sum.inr [.slice a12 (at' x7 x9).length c13]) ⟨lentL_at (at_someL hs32.len.symm g11), rfl⟩ rfl rfl rfl (JO.reg ttOk 1 [] [] [(17, .v (.int .i64 x8))] _ rfl ⟨⟨rfl, trivial⟩, rfl⟩ ?_)
        obtain ⟨⟨y16, y17⟩, hy18, h⟩ := bindO_some h
        refine JO.callX rfl rfl rfl rfl (ok_l_markIntS (at' x7 x9) x8 a12 c13 ((at' x7 x9).length) rfl _ hy18) rfl [1] rfl [] rfl rfl fun _ _ => JO.know 0 rfl fun hs19 => JO.reg ttOk 1 [] [] [(1, .v (.int .i64 y16))] _ rfl ⟨⟨rfl, trivial⟩, rfl⟩ (JO.unlend [1, 0] rfl y17 ⟨rfl, rfl, rfl⟩ (JO.done rfl (JS.endB (JS.re ttOk 3 [(W (x9 + 1))] [] [(5, .v (.int .i64 (W (x9 + 1))))] _ ⟨⟨trivial, rfl⟩, ⟨rfl, trivial⟩, rfl⟩ rfl rfl (JS.endL (n22, (List.set x7 (Int.toNat x9) y17), y16, (W (x9 + 1))) h (Nat.lt_succ_self _) (Es rfl) trivial [] rfl [0] rfl)))))
      have h := condF h ht33
      refine JS.exit rfl (JS.endJ (x7, x8) h ⟨rfl, trivial⟩ trivial [] rfl [0] rfl)
    rintro ⟨x25, x26⟩ h
    subst hj35
    refine JS.know 0 rfl fun hs34 => JS.rg0 ttOk 2 [(4, .v (.int .i64 x26))] ⟨⟨rfl, trivial⟩, rfl⟩ rfl rfl ?_
    cases h
    exact JS.retX ttOk () trivial rfl rfl [0] rfl

def M_l_markRing (x0 : List (List Int)) (x1 : Int) : Option (Int × List (List Int)) :=
  (bindO (M_l_markPieceS x0 x1) fun (y7, y8) =>
  some (y7, y8))

theorem ok_l_markRing (x0 : List (List Int)) (x1 : Int) (a3 : Option Addr) (c4 : Nat) (l5 : Nat) (hl6 : x0.length = l5) (r : Int × List (List Int)) (h : M_l_markRing x0 x1 = some r) :
    FX Tryz.prog 71 [.agg #[.slice a3 l5 c4], .int .i64 x1] [] [⟨(.sl (.int .i64)), ⟨a3, l5, c4⟩, x0⟩] (fun _ : Unit => True) (fun _ => .int .i64 r.1) (fun _ => [⟨(.sl (.int .i64)), ⟨a3, l5, c4⟩, r.2⟩]) :=
  by
    subst hl6
    refine FX.of (T := TTx) Tryz.call71 Tryz.func71 rfl rfl fun w0 L0 => ?_
    unfold M_l_markRing at h
    refine JS.rgB ttOk 2 [] [2] [(2, .bp 2 0)] (.new 2 41 [.slice a3 x0.length c4] .nil) ⟨⟨rfl, trivial⟩, (Bs rfl rfl)⟩ rfl rfl (JS.seq (JS.region (JO.reg ttOk 3 [] [] [(6, .v (.slice a3 x0.length c4)), (7, .v (.int .i64 x1))] _ rfl ⟨(Es rfl), rfl⟩ ?_)))
    obtain ⟨⟨y7, y8⟩, hy9, h⟩ := bindO_some h
    refine JO.callX rfl rfl rfl rfl (ok_l_markPieceS x0 x1 a3 c4 x0.length rfl _ hy9) rfl [0] rfl [] rfl rfl fun _ _ => JO.know 0 rfl fun hs10 => JO.reg ttOk 1 [] [] [(1, .v (.int .i64 y7))] _ rfl ⟨⟨rfl, trivial⟩, rfl⟩ (JO.done rfl (JS.rg0 ttOk 2 [(4, .v (.int .i64 y7))] ⟨⟨rfl, trivial⟩, rfl⟩ rfl rfl ?_))
    cases h
    exact JS.retX ttOk () trivial rfl rfl [0] rfl

def M_l_markLineS_L1 (x0 : List (List Int × Int)) (j28 : ((List (List Int × Int)) × Int) → Option (Int × List (List Int × Int))) (k22 : ((List (List Int × Int)) × Int × Int) → Option (Int × List (List Int × Int))) : ((List (List Int × Int)) × Int × Int) → Option (Int × List (List Int × Int)) := fun (x7, x8, x9) =>
  (bif (decide (x9 < (x0.length : Int))) then
  (guardO (0 ≤ x9 ∧ x9 < (x0.length : Int)) <|
  (bindO (M_l_markIntS ((at' x7 x9).1) x8) fun (y16, y17) =>
  (guardO (0 ≤ x9 ∧ x9 < (x0.length : Int)) <|
  k22 ((List.set (List.set x7 (Int.toNat x9) (y17, (at' x7 x9).2)) (Int.toNat x9) ((at' (List.set x7 (Int.toNat x9) (y17, (at' x7 x9).2)) x9).1, y16)), (W (y16 + 1)), (W (x9 + 1))))))
  else
  j28 (x7, x8))

def M_l_markLineS (x0 : List (List Int × Int)) (x1 : Int) : Option (Int × List (List Int × Int)) :=
  (joinO (fun ((x26, x27) : (List (List Int × Int)) × Int) =>
  some (x27, x26)) fun j28 =>
  (fixF (M_l_markLineS_L1 x0 j28) FUEL (x0, x1, 0)))

theorem ok_l_markLineS (x0 : List (List Int × Int)) (x1 : Int) (a3 : Option Addr) (c4 : Nat) (l5 : Nat) (hl6 : x0.length = l5) (r : Int × List (List Int × Int)) (h : M_l_markLineS x0 x1 = some r) :
    FX Tryz.prog 150 [.slice a3 l5 c4, .int .i64 x1] [] [⟨(.pair (.sl (.int .i64)) (.int .i64)), ⟨a3, l5, c4⟩, x0⟩] (fun _ : Unit => True) (fun _ => .int .i64 r.1) (fun _ => [⟨(.pair (.sl (.int .i64)) (.int .i64)), ⟨a3, l5, c4⟩, r.2⟩]) :=
  by
    subst hl6
    refine FX.of (T := TTx) Tryz.call150 Tryz.func150 rfl rfl fun w0 L0 => ?_
    unfold M_l_markLineS at h
    refine JS.rg0 ttOk 1 [] ⟨trivial, rfl⟩ rfl rfl (JS.seq (JS.rg0 ttOk 1 [(5, .v (.int .i64 0))] ⟨⟨rfl, trivial⟩, rfl⟩ rfl rfl ?_))
    obtain ⟨j28, hj36, h⟩ := joinO_some h
    refine JS.blockJ (ι := (List (List Int × Int)) × Int) ⟨fun z => j28 (z.1, z.2) = some r, fun z => [(1, .v (.int .i64 z.2))], fun z => .nil, fun z => [], fun z => [⟨(.pair (.sl (.int .i64)) (.int .i64)), ⟨a3, x0.length, c4⟩, z.1⟩], fun z => 0⟩ ?_ ?_
    · refine JS.loop (ι := Nat × (List (List Int × Int)) × Int × Int) ⟨fun z => fixF (M_l_markLineS_L1 x0 j28) z.1 (z.2.1, z.2.2.1, z.2.2.2) = some r, fun z => [(0, .v (.slice a3 x0.length c4)), (1, .v (.int .i64 z.2.2.1)), (5, .v (.int .i64 z.2.2.2))], fun z => .nil, fun z => [], fun z => [⟨(.pair (.sl (.int .i64)) (.int .i64)), ⟨a3, x0.length, c4⟩, z.2.1⟩], fun z => z.1⟩ (FUEL, x0, x1, 0) h (Es rfl) trivial [] rfl [0] rfl ?_
      rintro ⟨n23, x7, x8, x9⟩ h
      obtain ⟨n23, rfl, h⟩ := fixF_some h
      rw [M_l_markLineS_L1] at h
      refine JS.know 0 rfl fun hs33 => JS.seq (JS.rg0 ttOk 4 [(9, .v (.bool (decide (x9 < (x0.length : Int)))))] ⟨⟨rfl, trivial⟩, rfl⟩ rfl rfl ?_)
      refine JS.cond rfl (fun ht34 => ?_) (fun ht34 => ?_)
      · have h := condT h ht34
        refine JS.skip (JS.seq (JS.block (JS.seq (JS.region ?_))))
        obtain ⟨g11, h⟩ := guardO_some h
        refine JO.reg ttOk 4 [] [] [(15, .ep ⟨a3, x0.length, c4⟩ (Int.toNat x9 * 2))] _ rfl ⟨(hs33.cast hs33.len.symm).ix g11, (hs33.cast hs33.len.symm).fa g11, ⟨rfl, trivial⟩, rfl⟩ (JO.lend [0] rfl (Int.toNat x9) (at' x7 x9) rfl fun a12 c13 l14 hl15 => ?_)
        obtain rfl : ([.slice a12 ((at' x7 x9).1).length c13, .int .i64 (at' x7 x9).2] : List Value) = l14 := Option.some.inj hl15
        refine JO.loadV ttOk rfl rfl rfl rfl rfl rfl 0 rfl rfl (Int.toNat x9) 0 (Sum.inr [.slice a12 ((at' x7 x9).1).length c13, .int .i64 (at' x7 x9).2]) ⟨lentL_at (at_someL hs33.len.symm g11), rfl⟩ rfl rfl rfl (JO.reg ttOk 1 [] [] [(17, .v (.int .i64 x8))] _ rfl ⟨⟨rfl, trivial⟩, rfl⟩ ?_)
        obtain ⟨⟨y16, y17⟩, hy18, h⟩ := bindO_some h
        refine JO.callX rfl rfl rfl rfl (ok_l_markIntS ((at' x7 x9).1) x8 a12 c13 (((at' x7 x9).1).length) rfl _ hy18) rfl [1] rfl [] rfl rfl fun _ _ => JO.know 0 rfl fun hs19 => JO.reg ttOk 1 [] [] [(1, .v (.int .i64 y16))] _ rfl ⟨⟨rfl, trivial⟩, rfl⟩ (JO.unlend [1, 0] rfl (y17, (at' x7 x9).2) ⟨rfl, rfl, rfl⟩ (JO.done rfl (JS.seq (JS.region ?_))))
        obtain ⟨g20, h⟩ := guardO_some h
        refine JO.reg ttOk 5 [] [] [(21, .v (.int .i64 y16)), (23, .ep ⟨a3, x0.length, c4⟩ (Int.toNat x9 * 2 + 1))] _ rfl ⟨(hs33.cast hs33.len.symm).ix g20, (hs33.cast hs33.len.symm).fa g20, (Es rfl), rfl⟩ (JO.storeE ttOk rfl rfl rfl rfl rfl rfl rfl rfl rfl [0] (fs := []) rfl (Int.toNat x9) 1 (at' (List.set x7 (Int.toNat x9) (y17, (at' x7 x9).2)) x9) ((at' (List.set x7 (Int.toNat x9) (y17, (at' x7 x9).2)) x9).1, y16) ⟨at_someL (List.length_set.trans hs33.len.symm) g20, rfl⟩ ⟨⟨rfl, rfl, rfl⟩, rfl⟩ (JO.done rfl (JS.re ttOk 3 [(W (y16 + 1))] [] [(1, .v (.int .i64 (W (y16 + 1))))] _ ⟨⟨trivial, rfl⟩, ⟨rfl, trivial⟩, rfl⟩ rfl rfl (JS.endB (JS.re ttOk 3 [(W (x9 + 1))] [] [(5, .v (.int .i64 (W (x9 + 1))))] _ ⟨⟨trivial, rfl⟩, ⟨rfl, trivial⟩, rfl⟩ rfl rfl (JS.endL (n23, (List.set (List.set x7 (Int.toNat x9) (y17, (at' x7 x9).2)) (Int.toNat x9) ((at' (List.set x7 (Int.toNat x9) (y17, (at' x7 x9).2)) x9).1, y16)), (W (y16 + 1)), (W (x9 + 1))) h (Nat.lt_succ_self _) (Es rfl) trivial [] rfl [0] rfl))))))
      have h := condF h ht34
      refine JS.exit rfl (JS.endJ (x7, x8) h ⟨rfl, trivial⟩ trivial [] rfl [0] rfl)
    rintro ⟨x26, x27⟩ h
    subst hj36
    refine JS.know 0 rfl fun hs35 => JS.rg0 ttOk 2 [(4, .v (.int .i64 x27))] ⟨⟨rfl, trivial⟩, rfl⟩ rfl rfl ?_
    cases h
    exact JS.retX ttOk () trivial rfl rfl [0] rfl

def M_l_markUndo (x0 : List (List Int × Int)) (x1 : Int) : Option (Int × List (List Int × Int)) :=
  (bindO (M_l_markLineS x0 x1) fun (y7, y8) =>
  some (y7, y8))

theorem ok_l_markUndo (x0 : List (List Int × Int)) (x1 : Int) (a3 : Option Addr) (c4 : Nat) (l5 : Nat) (hl6 : x0.length = l5) (r : Int × List (List Int × Int)) (h : M_l_markUndo x0 x1 = some r) :
    FX Tryz.prog 72 [.agg #[.slice a3 l5 c4], .int .i64 x1] [] [⟨(.pair (.sl (.int .i64)) (.int .i64)), ⟨a3, l5, c4⟩, x0⟩] (fun _ : Unit => True) (fun _ => .int .i64 r.1) (fun _ => [⟨(.pair (.sl (.int .i64)) (.int .i64)), ⟨a3, l5, c4⟩, r.2⟩]) :=
  by
    subst hl6
    refine FX.of (T := TTx) Tryz.call72 Tryz.func72 rfl rfl fun w0 L0 => ?_
    unfold M_l_markUndo at h
    refine JS.rgB ttOk 2 [] [2] [(2, .bp 2 0)] (.new 2 44 [.slice a3 x0.length c4] .nil) ⟨⟨rfl, trivial⟩, (Bs rfl rfl)⟩ rfl rfl (JS.seq (JS.region (JO.reg ttOk 3 [] [] [(6, .v (.slice a3 x0.length c4)), (7, .v (.int .i64 x1))] _ rfl ⟨(Es rfl), rfl⟩ ?_)))
    obtain ⟨⟨y7, y8⟩, hy9, h⟩ := bindO_some h
    refine JO.callX rfl rfl rfl rfl (ok_l_markLineS x0 x1 a3 c4 x0.length rfl _ hy9) rfl [0] rfl [] rfl rfl fun _ _ => JO.know 0 rfl fun hs10 => JO.reg ttOk 1 [] [] [(1, .v (.int .i64 y7))] _ rfl ⟨⟨rfl, trivial⟩, rfl⟩ (JO.done rfl (JS.rg0 ttOk 2 [(4, .v (.int .i64 y7))] ⟨⟨rfl, trivial⟩, rfl⟩ rfl rfl ?_))
    cases h
    exact JS.retX ttOk () trivial rfl rfl [0] rfl

def M_l_markEd (x0 : Bool × Int × (List Int × Int) × Int × Int × Int × Int × Int × Int × Int × List (List Int) × (List (List Int × Int)) × Int × (List Int × Int) × List Int × Int × List Int × Int) (x1 : Int) : Option (Int × List Int × List (List Int) × (List (List Int × Int)) × List Int × List Int × List Int) :=
  (bindO (M_l_markLine x0.2.2.1 x1) fun (y27, y28) =>
  (bindO (M_l_markRing x0.2.2.2.2.2.2.2.2.2.2.1 y27) fun (y31, y32) =>
  (bindO (M_l_markUndo x0.2.2.2.2.2.2.2.2.2.2.2.1 y31) fun (y35, y36) =>
  (bindO (M_l_markLine x0.2.2.2.2.2.2.2.2.2.2.2.2.2.1 y35) fun (y39, y40) =>
  (bindO (M_l_markIntS x0.2.2.2.2.2.2.2.2.2.2.2.2.2.2.1 y39) fun (y43, y44) =>
  (bindO (M_l_markLine x0.2.2.2.2.2.2.2.2.2.2.2.2.2.2.2.2 y43) fun (y47, y48) =>
  some (y47, y28, y32, y36, y40, y44, y48)))))))

theorem ok_l_markEd (x0 : Bool × Int × (List Int × Int) × Int × Int × Int × Int × Int × Int × Int × List (List Int) × (List (List Int × Int)) × Int × (List Int × Int) × List Int × Int × List Int × Int) (x1 : Int) (a3 : Option Addr) (c4 : Nat) (l5 : Nat) (hl6 : x0.2.2.1.1.length = l5) (a7 : Option Addr) (c8 : Nat) (l9 : Nat) (hl10 : x0.2.2.2.2.2.2.2.2.2.2.1.length = l9) (a11 : Option Addr) (c12 : Nat) (l13 : Nat) (hl14 : x0.2.2.2.2.2.2.2.2.2.2.2.1.length = l13) (a15 : Option Addr) (c16 : Nat) (l17 : Nat) (hl18 : x0.2.2.2.2.2.2.2.2.2.2.2.2.2.1.1.length = l17) (a19 : Option Addr) (c20 : Nat) (l21 : Nat) (hl22 : x0.2.2.2.2.2.2.2.2.2.2.2.2.2.2.1.length = l21) (a23 : Option Addr) (c24 : Nat) (l25 : Nat) (hl26 : x0.2.2.2.2.2.2.2.2.2.2.2.2.2.2.2.2.1.length = l25) (r : Int × List Int × List (List Int) × (List (List Int × Int)) × List Int × List Int × List Int) (h : M_l_markEd x0 x1 = some r) :
    FX Tryz.prog 20 [.agg #[.bool x0.1, .int .i64 x0.2.1, .slice a3 l5 c4, .int .i64 x0.2.2.1.2, .int .i64 x0.2.2.2.1, .int .i64 x0.2.2.2.2.1, .int .i64 x0.2.2.2.2.2.1, .int .i64 x0.2.2.2.2.2.2.1, .int .i64 x0.2.2.2.2.2.2.2.1, .int .i64 x0.2.2.2.2.2.2.2.2.1, .int .i64 x0.2.2.2.2.2.2.2.2.2.1, .slice a7 l9 c8, .slice a11 l13 c12, .int .i64 x0.2.2.2.2.2.2.2.2.2.2.2.2.1, .slice a15 l17 c16, .int .i64 x0.2.2.2.2.2.2.2.2.2.2.2.2.2.1.2, .slice a19 l21 c20, .int .i64 x0.2.2.2.2.2.2.2.2.2.2.2.2.2.2.2.1, .slice a23 l25 c24, .int .i64 x0.2.2.2.2.2.2.2.2.2.2.2.2.2.2.2.2.2], .int .i64 x1] [] [⟨(.int .i64), ⟨a3, l5, c4⟩, x0.2.2.1.1⟩, ⟨(.sl (.int .i64)), ⟨a7, l9, c8⟩, x0.2.2.2.2.2.2.2.2.2.2.1⟩, ⟨(.pair (.sl (.int .i64)) (.int .i64)), ⟨a11, l13, c12⟩, x0.2.2.2.2.2.2.2.2.2.2.2.1⟩, ⟨(.int .i64), ⟨a15, l17, c16⟩, x0.2.2.2.2.2.2.2.2.2.2.2.2.2.1.1⟩, ⟨(.int .i64), ⟨a19, l21, c20⟩, x0.2.2.2.2.2.2.2.2.2.2.2.2.2.2.1⟩, ⟨(.int .i64), ⟨a23, l25, c24⟩, x0.2.2.2.2.2.2.2.2.2.2.2.2.2.2.2.2.1⟩] (fun _ : Unit => True) (fun _ => .int .i64 r.1) (fun _ => [⟨(.int .i64), ⟨a3, l5, c4⟩, r.2.1⟩, ⟨(.sl (.int .i64)), ⟨a7, l9, c8⟩, r.2.2.1⟩, ⟨(.pair (.sl (.int .i64)) (.int .i64)), ⟨a11, l13, c12⟩, r.2.2.2.1⟩, ⟨(.int .i64), ⟨a15, l17, c16⟩, r.2.2.2.2.1⟩, ⟨(.int .i64), ⟨a19, l21, c20⟩, r.2.2.2.2.2.1⟩, ⟨(.int .i64), ⟨a23, l25, c24⟩, r.2.2.2.2.2.2⟩]) :=
  by
    subst hl6
    subst hl10
    subst hl14
    subst hl18
    subst hl22
    subst hl26
    refine FX.of (T := TTx) Tryz.call20 Tryz.func20 rfl rfl fun w0 L0 => ?_
    unfold M_l_markEd at h
    refine JS.rgB ttOk 2 [] [7] [(2, .bp 7 0)] (.new 7 46 (cl46 x0 a3 c4 a7 c8 a11 c12 a15 c16 a19 c20 a23 c24) .nil) ⟨⟨rfl, trivial⟩, (Bs rfl rfl)⟩ rfl rfl (JS.seq (JS.region (JO.reg ttOk 3 [] [] [(6, .v (.agg #[.slice a3 x0.2.2.1.1.length c4, .int .i64 x0.2.2.1.2])), (7, .v (.int .i64 x1))] _ rfl ⟨(Es rfl), rfl⟩ ?_)))
    obtain ⟨⟨y27, y28⟩, hy29, h⟩ := bindO_some h
    refine JO.callX rfl rfl rfl rfl (ok_l_markLine x0.2.2.1 x1 a3 c4 x0.2.2.1.1.length rfl _ hy29) rfl [0] rfl [] rfl rfl fun _ _ => JO.know 0 rfl fun hs30 => JO.reg ttOk 1 [] [] [(1, .v (.int .i64 y27))] _ rfl ⟨⟨rfl, trivial⟩, rfl⟩ (JO.done rfl (JS.seq (JS.region (JO.reg ttOk 3 [] [] [(10, .v (.agg #[.slice a7 x0.2.2.2.2.2.2.2.2.2.2.1.length c8])), (11, .v (.int .i64 y27))] _ rfl ⟨(Es rfl), rfl⟩ ?_))))
    obtain ⟨⟨y31, y32⟩, hy33, h⟩ := bindO_some h
    refine JO.callX rfl rfl rfl rfl (ok_l_markRing x0.2.2.2.2.2.2.2.2.2.2.1 y27 a7 c8 x0.2.2.2.2.2.2.2.2.2.2.1.length rfl _ hy33) rfl [1] rfl [] rfl rfl fun _ _ => JO.know 0 rfl fun hs34 => JO.reg ttOk 1 [] [] [(1, .v (.int .i64 y31))] _ rfl ⟨⟨rfl, trivial⟩, rfl⟩ (JO.done rfl (JS.seq (JS.region (JO.reg ttOk 3 [] [] [(14, .v (.agg #[.slice a11 x0.2.2.2.2.2.2.2.2.2.2.2.1.length c12])), (15, .v (.int .i64 y31))] _ rfl ⟨(Es rfl), rfl⟩ ?_))))
    obtain ⟨⟨y35, y36⟩, hy37, h⟩ := bindO_some h
    refine JO.callX rfl rfl rfl rfl (ok_l_markUndo x0.2.2.2.2.2.2.2.2.2.2.2.1 y31 a11 c12 x0.2.2.2.2.2.2.2.2.2.2.2.1.length rfl _ hy37) rfl [2] rfl [] rfl rfl fun _ _ => JO.know 0 rfl fun hs38 => JO.reg ttOk 1 [] [] [(1, .v (.int .i64 y35))] _ rfl ⟨⟨rfl, trivial⟩, rfl⟩ (JO.done rfl (JS.seq (JS.region (JO.reg ttOk 3 [] [] [(18, .v (.agg #[.slice a15 x0.2.2.2.2.2.2.2.2.2.2.2.2.2.1.1.length c16, .int .i64 x0.2.2.2.2.2.2.2.2.2.2.2.2.2.1.2])), (19, .v (.int .i64 y35))] _ rfl ⟨(Es rfl), rfl⟩ ?_))))
    obtain ⟨⟨y39, y40⟩, hy41, h⟩ := bindO_some h
    refine JO.callX rfl rfl rfl rfl (ok_l_markLine x0.2.2.2.2.2.2.2.2.2.2.2.2.2.1 y35 a15 c16 x0.2.2.2.2.2.2.2.2.2.2.2.2.2.1.1.length rfl _ hy41) rfl [3] rfl [] rfl rfl fun _ _ => JO.know 0 rfl fun hs42 => JO.reg ttOk 1 [] [] [(1, .v (.int .i64 y39))] _ rfl ⟨⟨rfl, trivial⟩, rfl⟩ (JO.done rfl (JS.seq (JS.region (JO.reg ttOk 3 [] [] [(22, .v (.slice a19 x0.2.2.2.2.2.2.2.2.2.2.2.2.2.2.1.length c20)), (23, .v (.int .i64 y39))] _ rfl ⟨(Es rfl), rfl⟩ ?_))))
    obtain ⟨⟨y43, y44⟩, hy45, h⟩ := bindO_some h
    refine JO.callX rfl rfl rfl rfl (ok_l_markIntS x0.2.2.2.2.2.2.2.2.2.2.2.2.2.2.1 y39 a19 c20 x0.2.2.2.2.2.2.2.2.2.2.2.2.2.2.1.length rfl _ hy45) rfl [4] rfl [] rfl rfl fun _ _ => JO.know 0 rfl fun hs46 => JO.reg ttOk 1 [] [] [(1, .v (.int .i64 y43))] _ rfl ⟨⟨rfl, trivial⟩, rfl⟩ (JO.done rfl (JS.seq (JS.region (JO.reg ttOk 3 [] [] [(26, .v (.agg #[.slice a23 x0.2.2.2.2.2.2.2.2.2.2.2.2.2.2.2.2.1.length c24, .int .i64 x0.2.2.2.2.2.2.2.2.2.2.2.2.2.2.2.2.2])), (27, .v (.int .i64 y43))] _ rfl ⟨(Es rfl), rfl⟩ ?_))))
    obtain ⟨⟨y47, y48⟩, hy49, h⟩ := bindO_some h
    refine JO.callX rfl rfl rfl rfl (ok_l_markLine x0.2.2.2.2.2.2.2.2.2.2.2.2.2.2.2.2 y43 a23 c24 x0.2.2.2.2.2.2.2.2.2.2.2.2.2.2.2.2.1.length rfl _ hy49) rfl [5] rfl [] rfl rfl fun _ _ => JO.know 0 rfl fun hs50 => JO.reg ttOk 1 [] [] [(1, .v (.int .i64 y47))] _ rfl ⟨⟨rfl, trivial⟩, rfl⟩ (JO.done rfl (JS.rg0 ttOk 2 [(4, .v (.int .i64 y47))] ⟨⟨rfl, trivial⟩, rfl⟩ rfl rfl ?_))
    cases h
    exact JS.retX ttOk () trivial rfl rfl [5, 4, 3, 2, 1, 0] rfl

def M_l_markText_L1 (j13 : (List UInt8) → Option (List UInt8)) (k9 : (Int × List UInt8) → Option (List UInt8)) : (Int × List UInt8) → Option (List UInt8) := fun (x2, x3) =>
  (bif (decide (0 < x2)) then
  (guardO (((([(u8 ((W (48 + (Int.tmod x2 10)))))] : List UInt8).length + x3.length : Nat) : Int) ≤ 9223372036854775807) <|
  k9 ((W (Int.tdiv x2 10)), (([(u8 ((W (48 + (Int.tmod x2 10)))))] : List UInt8) ++ x3)))
  else
  j13 x3)

def M_l_markText (x0 : Int) : Option (List UInt8) :=
  (bif (decide (x0 ≤ 0)) then
  some ([109, 48] : List UInt8)
  else
  (joinO (fun (x12 : List UInt8) =>
  (guardO (((([109] : List UInt8).length + x12.length : Nat) : Int) ≤ 9223372036854775807) <|
  some (([109] : List UInt8) ++ x12))) fun j13 =>
  (fixF (M_l_markText_L1 j13) FUEL (x0, []))))

theorem ok_l_markText (x0 : Int) (r : List UInt8) (h : M_l_markText x0 = some r) :
    FC Tryz.prog 151 [.int .i64 x0] [] (fun _ : Unit => True) (fun _ => .string (bs r)) (fun _ => []) :=
  by
    refine FC.of (T := TTx) Tryz.call151 Tryz.func151 rfl rfl fun w0 => ?_
    unfold M_l_markText at h
    refine JS.rg0 ttOk 1 [] ⟨trivial, rfl⟩ rfl rfl (JS.seq (JS.rg0 ttOk 2 [(5, .v (.bool (decide (x0 ≤ 0))))] ⟨⟨rfl, trivial⟩, rfl⟩ rfl rfl ?_))
    refine JS.cond rfl (fun ht20 => ?_) (fun ht20 => ?_)
    · have h := condT h ht20
      refine JS.rg0 ttOk 1 [(2, .v (.string (bs ([109, 48] : List UInt8))))] ⟨⟨rfl, trivial⟩, rfl⟩ rfl rfl ?_
      cases h
      exact JS.ret ttOk () trivial rfl rfl [] rfl
    have h := condF h ht20
    refine JS.skip (JS.rg0 ttOk 1 [(3, .v (.string (bs [])))] ⟨⟨rfl, trivial⟩, rfl⟩ rfl rfl (JS.seq ?_))
    obtain ⟨j13, hj19, h⟩ := joinO_some h
    refine JS.blockJ (ι := List UInt8) ⟨fun z => j13 z = some r, fun z => [(3, .v (.string (bs z)))], fun z => .nil, fun z => [], fun z => [], fun z => 0⟩ ?_ ?_
    · refine JS.loop (ι := Nat × Int × List UInt8) ⟨fun z => fixF (M_l_markText_L1 j13) z.1 (z.2.1, z.2.2) = some r, fun z => [(0, .v (.int .i64 z.2.1)), (3, .v (.string (bs z.2.2)))], fun z => .nil, fun z => [], fun z => [], fun z => z.1⟩ (FUEL, x0, []) h (Es rfl) trivial [] rfl [] rfl ?_
      rintro ⟨n10, x2, x3⟩ h
      obtain ⟨n10, rfl, h⟩ := fixF_some h
      rw [M_l_markText_L1] at h
      refine JS.seq (JS.rg0 ttOk 2 [(7, .v (.bool (decide (0 < x2))))] ⟨⟨rfl, trivial⟩, rfl⟩ rfl rfl ?_)
      refine JS.cond rfl (fun ht18 => ?_) (fun ht18 => ?_)
      · have h := condT h ht18
        refine JS.skip (JS.block (JS.seq (JS.region ?_)))
        have g4 : (10 : Int) ≠ 0 := by decide
        refine JO.reg ttOk 4 [(W (48 + (Int.tmod x2 10))), ((u8 ((W (48 + (Int.tmod x2 10))))).toNat : Int)] [] [(11, .v (.int .u8 ((u8 ((W (48 + (Int.tmod x2 10))))).toNat : Int)))] _ rfl ⟨g4, ⟨trivial, rfl⟩, ⟨trivial, u8_wrap _⟩, ⟨rfl, trivial⟩, rfl⟩ ?_
        refine JO.ofK rfl (JK.buildSlice ttOk rfl rfl rfl rfl rfl rfl rfl rfl rfl rfl rfl [] rfl .byte [(u8 ((W (48 + (Int.tmod x2 10)))))] ⟨rfl, rfl⟩ rfl rfl fun a5 => JO.toK ?_)
        refine JO.strOf ttOk rfl rfl rfl rfl rfl rfl rfl rfl 0 rfl rfl ?_
        obtain ⟨g6, h⟩ := guardO_some h
        refine JO.reg ttOk 3 [] [] [(3, .v (.string (bs (([(u8 ((W (48 + (Int.tmod x2 10)))))] : List UInt8) ++ x3))))] _ rfl ⟨g6, ⟨rfl, trivial⟩, rfl⟩ (JO.done rfl (JS.region ?_))
        have g7 : (10 : Int) ≠ 0 := by decide
        refine JO.reg ttOk 3 [(W (Int.tdiv x2 10))] [] [(0, .v (.int .i64 (W (Int.tdiv x2 10))))] _ rfl ⟨⟨g7, rfl⟩, ⟨rfl, trivial⟩, rfl⟩ (JO.done rfl (JS.endB (JS.endL (n10, (W (Int.tdiv x2 10)), (([(u8 ((W (48 + (Int.tmod x2 10)))))] : List UInt8) ++ x3)) h (Nat.lt_succ_self _) (Es rfl) trivial [] rfl [] rfl)))
      have h := condF h ht18
      refine JS.exit rfl (JS.endJ x3 h ⟨rfl, trivial⟩ trivial [] rfl [] rfl)
    rintro x12 h
    subst hj19
    refine JS.seq (JS.region ?_)
    obtain ⟨g15, h⟩ := guardO_some h
    refine JO.reg ttOk 3 [] [] [(2, .v (.string (bs (([109] : List UInt8) ++ x12))))] _ rfl ⟨g15, ⟨rfl, trivial⟩, rfl⟩ (JO.done rfl ?_)
    cases h
    exact JS.ret ttOk () trivial rfl rfl [] rfl

def M_l_markStringS_L1 (x0 : List (List UInt8)) (j21 : (List (List UInt8) × Int) → Option (Int × List (List UInt8))) (k15 : (List (List UInt8) × Int × Int) → Option (Int × List (List UInt8))) : (List (List UInt8) × Int × Int) → Option (Int × List (List UInt8)) := fun (x7, x8, x9) =>
  (bif (decide (x9 < (x0.length : Int))) then
  (bindO (M_l_markText x8) fun (y11 : List UInt8) =>
  (guardO (0 ≤ x9 ∧ x9 < (x0.length : Int)) <|
  k15 ((List.set x7 (Int.toNat x9) y11), (W (x8 + 1)), (W (x9 + 1)))))
  else
  j21 (x7, x8))

def M_l_markStringS (x0 : List (List UInt8)) (x1 : Int) : Option (Int × List (List UInt8)) :=
  (joinO (fun ((x19, x20) : List (List UInt8) × Int) =>
  some (x20, x19)) fun j21 =>
  (fixF (M_l_markStringS_L1 x0 j21) FUEL (x0, x1, 0)))

theorem ok_l_markStringS (x0 : List (List UInt8)) (x1 : Int) (a3 : Option Addr) (c4 : Nat) (l5 : Nat) (hl6 : x0.length = l5) (r : Int × List (List UInt8)) (h : M_l_markStringS x0 x1 = some r) :
    FX Tryz.prog 73 [.slice a3 l5 c4, .int .i64 x1] [] [⟨.str, ⟨a3, l5, c4⟩, x0⟩] (fun _ : Unit => True) (fun _ => .int .i64 r.1) (fun _ => [⟨.str, ⟨a3, l5, c4⟩, r.2⟩]) :=
  by
    subst hl6
    refine FX.of (T := TTx) Tryz.call73 Tryz.func73 rfl rfl fun w0 L0 => ?_
    unfold M_l_markStringS at h
    refine JS.rg0 ttOk 1 [] ⟨trivial, rfl⟩ rfl rfl (JS.seq (JS.rg0 ttOk 1 [(5, .v (.int .i64 0))] ⟨⟨rfl, trivial⟩, rfl⟩ rfl rfl ?_))
    obtain ⟨j21, hj29, h⟩ := joinO_some h
    refine JS.blockJ (ι := List (List UInt8) × Int) ⟨fun z => j21 (z.1, z.2) = some r, fun z => [(1, .v (.int .i64 z.2))], fun z => .nil, fun z => [], fun z => [⟨.str, ⟨a3, x0.length, c4⟩, z.1⟩], fun z => 0⟩ ?_ ?_
    · refine JS.loop (ι := Nat × List (List UInt8) × Int × Int) ⟨fun z => fixF (M_l_markStringS_L1 x0 j21) z.1 (z.2.1, z.2.2.1, z.2.2.2) = some r, fun z => [(0, .v (.slice a3 x0.length c4)), (1, .v (.int .i64 z.2.2.1)), (5, .v (.int .i64 z.2.2.2))], fun z => .nil, fun z => [], fun z => [⟨.str, ⟨a3, x0.length, c4⟩, z.2.1⟩], fun z => z.1⟩ (FUEL, x0, x1, 0) h (Es rfl) trivial [] rfl [0] rfl ?_
      rintro ⟨n16, x7, x8, x9⟩ h
      obtain ⟨n16, rfl, h⟩ := fixF_some h
      rw [M_l_markStringS_L1] at h
      refine JS.know 0 rfl fun hs26 => JS.seq (JS.rg0 ttOk 4 [(9, .v (.bool (decide (x9 < (x0.length : Int)))))] ⟨⟨rfl, trivial⟩, rfl⟩ rfl rfl ?_)
      refine JS.cond rfl (fun ht27 => ?_) (fun ht27 => ?_)
      · have h := condT h ht27
        refine JS.skip (JS.seq (JS.block (JS.seq (JS.region (JO.reg ttOk 3 [] [] [(12, .v (.slice a3 x0.length c4)), (13, .v (.int .i64 x9)), (14, .v (.int .i64 x8))] _ rfl ⟨(Es rfl), rfl⟩ ?_)))))
        obtain ⟨y11, hy12, h⟩ := bindO_some h
        refine JO.call rfl rfl rfl rfl (ok_l_markText x8 _ hy12) rfl [] rfl rfl fun _ _ => ?_
        obtain ⟨g13, h⟩ := guardO_some h
        refine JO.reg ttOk 1 [] [] [(16, .ep ⟨a3, x0.length, c4⟩ (Int.toNat x9 * 1))] _ rfl ⟨(hs26.cast hs26.len.symm).ix g13, ⟨rfl, trivial⟩, rfl⟩ (JO.storeE ttOk rfl rfl rfl rfl rfl rfl rfl rfl rfl [0] (fs := []) rfl (Int.toNat x9) 0 (at' x7 x9) y11 ⟨at_someL hs26.len.symm g13, rfl⟩ ⟨rfl, rfl, rfl⟩ (JO.done rfl (JS.re ttOk 3 [(W (x8 + 1))] [] [(1, .v (.int .i64 (W (x8 + 1))))] _ ⟨⟨trivial, rfl⟩, ⟨rfl, trivial⟩, rfl⟩ rfl rfl (JS.endB (JS.re ttOk 3 [(W (x9 + 1))] [] [(5, .v (.int .i64 (W (x9 + 1))))] _ ⟨⟨trivial, rfl⟩, ⟨rfl, trivial⟩, rfl⟩ rfl rfl (JS.endL (n16, (List.set x7 (Int.toNat x9) y11), (W (x8 + 1)), (W (x9 + 1))) h (Nat.lt_succ_self _) (Es rfl) trivial [] rfl [0] rfl))))))
      have h := condF h ht27
      refine JS.exit rfl (JS.endJ (x7, x8) h ⟨rfl, trivial⟩ trivial [] rfl [0] rfl)
    rintro ⟨x19, x20⟩ h
    subst hj29
    refine JS.know 0 rfl fun hs28 => JS.rg0 ttOk 2 [(4, .v (.int .i64 x20))] ⟨⟨rfl, trivial⟩, rfl⟩ rfl rfl ?_
    cases h
    exact JS.retX ttOk () trivial rfl rfl [0] rfl

def M_l_markHist (x0 : Int × List (List UInt8)) (x1 : Int) : Option (Int × List (List UInt8)) :=
  (bindO (M_l_markStringS x0.2 x1) fun (y7, y8) =>
  some (y7, y8))

theorem ok_l_markHist (x0 : Int × List (List UInt8)) (x1 : Int) (a3 : Option Addr) (c4 : Nat) (l5 : Nat) (hl6 : x0.2.length = l5) (r : Int × List (List UInt8)) (h : M_l_markHist x0 x1 = some r) :
    FX Tryz.prog 21 [.agg #[.int .i64 x0.1, .slice a3 l5 c4], .int .i64 x1] [] [⟨.str, ⟨a3, l5, c4⟩, x0.2⟩] (fun _ : Unit => True) (fun _ => .int .i64 r.1) (fun _ => [⟨.str, ⟨a3, l5, c4⟩, r.2⟩]) :=
  by
    subst hl6
    refine FX.of (T := TTx) Tryz.call21 Tryz.func21 rfl rfl fun w0 L0 => ?_
    unfold M_l_markHist at h
    refine JS.rgB ttOk 2 [] [2] [(2, .bp 2 0)] (.new 2 50 [.int .i64 x0.1, .slice a3 x0.2.length c4] .nil) ⟨⟨rfl, trivial⟩, (Bs rfl rfl)⟩ rfl rfl (JS.seq (JS.region (JO.reg ttOk 3 [] [] [(6, .v (.slice a3 x0.2.length c4)), (7, .v (.int .i64 x1))] _ rfl ⟨(Es rfl), rfl⟩ ?_)))
    obtain ⟨⟨y7, y8⟩, hy9, h⟩ := bindO_some h
    refine JO.callX rfl rfl rfl rfl (ok_l_markStringS x0.2 x1 a3 c4 x0.2.length rfl _ hy9) rfl [0] rfl [] rfl rfl fun _ _ => JO.know 0 rfl fun hs10 => JO.reg ttOk 1 [] [] [(1, .v (.int .i64 y7))] _ rfl ⟨⟨rfl, trivial⟩, rfl⟩ (JO.done rfl (JS.rg0 ttOk 2 [(4, .v (.int .i64 y7))] ⟨⟨rfl, trivial⟩, rfl⟩ rfl rfl ?_))
    cases h
    exact JS.retX ttOk () trivial rfl rfl [0] rfl

def M_l_heldIntS_L1 (x0 : List Int) (j19 : Int → Option Int) (k13 : (Int × Int) → Option Int) : (Int × Int) → Option Int := fun (x7, x8) =>
  (bif (decide (x8 < (x0.length : Int))) then
  (guardO (0 ≤ x8 ∧ x8 < (x0.length : Int)) <|
  (bif (!(decide ((at' x0 x8) = x7))) then
  some (-1)
  else
  k13 ((W (x7 + 1)), (W (x8 + 1)))))
  else
  j19 x7)

def M_l_heldIntS (x0 : List Int) (x1 : Int) : Option Int :=
  (joinO (fun (x18 : Int) =>
  some x18) fun j19 =>
  (fixF (M_l_heldIntS_L1 x0 j19) FUEL (x1, 0)))

theorem ok_l_heldIntS (x0 : List Int) (x1 : Int) (a3 : Option Addr) (c4 : Nat) (l5 : Nat) (hl6 : x0.length = l5) (r : Int) (h : M_l_heldIntS x0 x1 = some r) :
    FC Tryz.prog 77 [.slice a3 l5 c4, .int .i64 x1] [⟨(.int .i64), ⟨a3, l5, c4⟩, x0⟩] (fun _ : Unit => True) (fun _ => .int .i64 r) (fun _ => []) :=
  by
    subst hl6
    refine FC.of (T := TTx) Tryz.call77 Tryz.func77 rfl rfl fun w0 => ?_
    unfold M_l_heldIntS at h
    refine JS.rg0 ttOk 1 [] ⟨trivial, rfl⟩ rfl rfl (JS.seq (JS.rg0 ttOk 1 [(5, .v (.int .i64 0))] ⟨⟨rfl, trivial⟩, rfl⟩ rfl rfl ?_))
    obtain ⟨j19, hj27, h⟩ := joinO_some h
    refine JS.blockJ (ι := Int) ⟨fun z => j19 z = some r, fun z => [(1, .v (.int .i64 z))], fun z => .nil, fun z => [], fun z => [], fun z => 0⟩ ?_ ?_
    · refine JS.loop (ι := Nat × Int × Int) ⟨fun z => fixF (M_l_heldIntS_L1 x0 j19) z.1 (z.2.1, z.2.2) = some r, fun z => [(0, .v (.slice a3 x0.length c4)), (1, .v (.int .i64 z.2.1)), (5, .v (.int .i64 z.2.2))], fun z => .nil, fun z => [⟨(.int .i64), ⟨a3, x0.length, c4⟩, x0⟩], fun z => [], fun z => z.1⟩ (FUEL, x1, 0) h (Es rfl) trivial [0] rfl [] rfl ?_
      rintro ⟨n14, x7, x8⟩ h
      obtain ⟨n14, rfl, h⟩ := fixF_some h
      rw [M_l_heldIntS_L1] at h
      refine JS.seq (JS.rg0 ttOk 4 [(9, .v (.bool (decide (x8 < (x0.length : Int)))))] ⟨⟨rfl, trivial⟩, rfl⟩ rfl rfl ?_)
      refine JS.cond rfl (fun ht26 => ?_) (fun ht26 => ?_)
      · have h := condT h ht26
        refine JS.skip (JS.seq (JS.block (JS.seq (JS.seq (JS.region (JO.know 0 rfl fun hs24 => ?_))))))
        obtain ⟨g10, h⟩ := guardO_some h
        refine JO.reg ttOk 3 [] [] [(14, .ep ⟨a3, x0.length, c4⟩ (Int.toNat x8 * 1))] _ rfl ⟨hs24.ix g10, ⟨rfl, trivial⟩, rfl⟩ (JO.load ttOk rfl rfl rfl rfl rfl rfl rfl 0 rfl rfl (Int.toNat x8) 0 (at' x0 x8) ⟨at_some g10, rfl⟩ rfl rfl (JO.reg ttOk 2 [] [] [(17, .v (.bool (!(decide ((at' x0 x8) = x7)))))] _ rfl ⟨⟨rfl, trivial⟩, rfl⟩ (JO.done rfl ?_)))
        refine JS.cond rfl (fun ht25 => ?_) (fun ht25 => ?_)
        · have h := condT h ht25
          refine JS.rg0 ttOk 1 [(4, .v (.int .i64 (-1)))] ⟨⟨rfl, trivial⟩, rfl⟩ rfl rfl ?_
          cases h
          exact JS.ret ttOk () trivial rfl rfl [] rfl
        have h := condF h ht25
        refine JS.skip (JS.re ttOk 3 [(W (x7 + 1))] [] [(1, .v (.int .i64 (W (x7 + 1))))] _ ⟨⟨trivial, rfl⟩, ⟨rfl, trivial⟩, rfl⟩ rfl rfl (JS.endB (JS.re ttOk 3 [(W (x8 + 1))] [] [(5, .v (.int .i64 (W (x8 + 1))))] _ ⟨⟨trivial, rfl⟩, ⟨rfl, trivial⟩, rfl⟩ rfl rfl (JS.endL (n14, (W (x7 + 1)), (W (x8 + 1))) h (Nat.lt_succ_self _) (Es rfl) trivial [0] rfl [] rfl))))
      have h := condF h ht26
      refine JS.exit rfl (JS.endJ x7 h ⟨rfl, trivial⟩ trivial [] rfl [] rfl)
    rintro x18 h
    subst hj27
    refine JS.rg0 ttOk 2 [(4, .v (.int .i64 x18))] ⟨⟨rfl, trivial⟩, rfl⟩ rfl rfl ?_
    cases h
    exact JS.ret ttOk () trivial rfl rfl [] rfl

def M_l_heldLine (x0 : List Int × Int) (x1 : Int) : Option Int :=
  (bindO (M_l_heldIntS x0.1 x1) fun (y7 : Int) =>
  (bif (decide (y7 < 0)) then
  some (-1)
  else
  some y7))

theorem ok_l_heldLine (x0 : List Int × Int) (x1 : Int) (a3 : Option Addr) (c4 : Nat) (l5 : Nat) (hl6 : x0.1.length = l5) (r : Int) (h : M_l_heldLine x0 x1 = some r) :
    FC Tryz.prog 74 [.agg #[.slice a3 l5 c4, .int .i64 x0.2], .int .i64 x1] [⟨(.int .i64), ⟨a3, l5, c4⟩, x0.1⟩] (fun _ : Unit => True) (fun _ => .int .i64 r) (fun _ => []) :=
  by
    subst hl6
    refine FC.of (T := TTx) Tryz.call74 Tryz.func74 rfl rfl fun w0 => ?_
    unfold M_l_heldLine at h
    refine JS.rgB ttOk 2 [] [2] [(2, .bp 2 0)] (.new 2 38 [.slice a3 x0.1.length c4, .int .i64 x0.2] .nil) ⟨⟨rfl, trivial⟩, (Bs rfl rfl)⟩ rfl rfl (JS.seq (JS.region (JO.reg ttOk 3 [] [] [(6, .v (.slice a3 x0.1.length c4)), (7, .v (.int .i64 x1))] _ rfl ⟨(Es rfl), rfl⟩ ?_)))
    obtain ⟨y7, hy8, h⟩ := bindO_some h
    refine JO.call rfl rfl rfl rfl (ok_l_heldIntS x0.1 x1 a3 c4 x0.1.length rfl _ hy8) rfl [0] rfl rfl fun _ _ => JO.reg ttOk 1 [] [] [(1, .v (.int .i64 y7))] _ rfl ⟨⟨rfl, trivial⟩, rfl⟩ (JO.done rfl (JS.seq (JS.rg0 ttOk 2 [(10, .v (.bool (decide (y7 < 0))))] ⟨⟨rfl, trivial⟩, rfl⟩ rfl rfl ?_)))
    refine JS.cond rfl (fun ht10 => ?_) (fun ht10 => ?_)
    · have h := condT h ht10
      refine JS.rg0 ttOk 1 [(4, .v (.int .i64 (-1)))] ⟨⟨rfl, trivial⟩, rfl⟩ rfl rfl ?_
      cases h
      exact JS.ret ttOk () trivial rfl rfl [] rfl
    have h := condF h ht10
    refine JS.skip (JS.rg0 ttOk 2 [(4, .v (.int .i64 y7))] ⟨⟨rfl, trivial⟩, rfl⟩ rfl rfl ?_)
    cases h
    exact JS.ret ttOk () trivial rfl rfl [] rfl

def M_l_heldPieceS_L1 (x0 : List (List Int)) (j26 : Int → Option Int) (k20 : (Int × Int) → Option Int) : (Int × Int) → Option Int := fun (x7, x8) =>
  (bif (decide (x8 < (x0.length : Int))) then
  (guardO (0 ≤ x8 ∧ x8 < (x0.length : Int)) <|
  (bindO (M_l_heldIntS (at' x0 x8) x7) fun (y16 : Int) =>
  (bif (decide (y16 < 0)) then
  some (-1)
  else
  k20 (y16, (W (x8 + 1))))))
  else
  j26 x7)

def M_l_heldPieceS (x0 : List (List Int)) (x1 : Int) : Option Int :=
  (joinO (fun (x25 : Int) =>
  some x25) fun j26 =>
  (fixF (M_l_heldPieceS_L1 x0 j26) FUEL (x1, 0)))

theorem ok_l_heldPieceS (x0 : List (List Int)) (x1 : Int) (a3 : Option Addr) (c4 : Nat) (l5 : Nat) (hl6 : x0.length = l5) (r : Int) (h : M_l_heldPieceS x0 x1 = some r) :
    FC Tryz.prog 152 [.slice a3 l5 c4, .int .i64 x1] [⟨(.sl (.int .i64)), ⟨a3, l5, c4⟩, x0⟩] (fun _ : Unit => True) (fun _ => .int .i64 r) (fun _ => []) :=
  by
    subst hl6
    refine FC.of (T := TTx) Tryz.call152 Tryz.func152 rfl rfl fun w0 => ?_
    unfold M_l_heldPieceS at h
    refine JS.rg0 ttOk 1 [] ⟨trivial, rfl⟩ rfl rfl (JS.seq (JS.rg0 ttOk 1 [(5, .v (.int .i64 0))] ⟨⟨rfl, trivial⟩, rfl⟩ rfl rfl ?_))
    obtain ⟨j26, hj34, h⟩ := joinO_some h
    refine JS.blockJ (ι := Int) ⟨fun z => j26 z = some r, fun z => [(1, .v (.int .i64 z))], fun z => .nil, fun z => [], fun z => [], fun z => 0⟩ ?_ ?_
    · refine JS.loop (ι := Nat × Int × Int) ⟨fun z => fixF (M_l_heldPieceS_L1 x0 j26) z.1 (z.2.1, z.2.2) = some r, fun z => [(0, .v (.slice a3 x0.length c4)), (1, .v (.int .i64 z.2.1)), (5, .v (.int .i64 z.2.2))], fun z => .nil, fun z => [⟨(.sl (.int .i64)), ⟨a3, x0.length, c4⟩, x0⟩], fun z => [], fun z => z.1⟩ (FUEL, x1, 0) h (Es rfl) trivial [0] rfl [] rfl ?_
      rintro ⟨n21, x7, x8⟩ h
      obtain ⟨n21, rfl, h⟩ := fixF_some h
      rw [M_l_heldPieceS_L1] at h
      refine JS.seq (JS.rg0 ttOk 4 [(9, .v (.bool (decide (x8 < (x0.length : Int)))))] ⟨⟨rfl, trivial⟩, rfl⟩ rfl rfl ?_)
      refine JS.cond rfl (fun ht33 => ?_) (fun ht33 => ?_)
      · have h := condT h ht33
        refine JS.skip (JS.seq (JS.block (JS.seq (JS.region (JO.know 0 rfl fun hs31 => ?_)))))
        obtain ⟨g10, h⟩ := guardO_some h
        refine JO.reg ttOk 4 [] [] [(15, .ep ⟨a3, x0.length, c4⟩ (Int.toNat x8 * 1))] _ rfl ⟨hs31.ix g10, hs31.fa g10, ⟨rfl, trivial⟩, rfl⟩ (JO.openR 0 rfl (Int.toNat x8) (at' x0 x8) rfl fun a11 c12 ys13 hl14 hy15 => JO.loadV ttOk rfl rfl rfl rfl rfl rfl 0 rfl rfl (Int.toNat x8) 0 (Sl.v ⟨a11, (at' x0 x8).length, c12⟩) ⟨hy15 (ltNat g10), rfl⟩ rfl rfl rfl (JO.reg ttOk 1 [] [] [(17, .v (.int .i64 x7))] _ rfl ⟨⟨rfl, trivial⟩, rfl⟩ ?_))
        obtain ⟨y16, hy17, h⟩ := bindO_some h
        refine JO.call rfl rfl rfl rfl (ok_l_heldIntS (at' x0 x8) x7 a11 c12 ((at' x0 x8).length) rfl _ hy17) rfl [1] rfl rfl fun _ _ => JO.reg ttOk 1 [] [] [(1, .v (.int .i64 y16))] _ rfl ⟨⟨rfl, trivial⟩, rfl⟩ (JO.done rfl (JS.rg0 ttOk 2 [(20, .v (.bool (decide (y16 < 0))))] ⟨⟨rfl, trivial⟩, rfl⟩ rfl rfl ?_))
        refine JS.cond rfl (fun ht32 => ?_) (fun ht32 => ?_)
        · have h := condT h ht32
          refine JS.rg0 ttOk 1 [(4, .v (.int .i64 (-1)))] ⟨⟨rfl, trivial⟩, rfl⟩ rfl rfl ?_
          cases h
          exact JS.ret ttOk () trivial rfl rfl [] rfl
        have h := condF h ht32
        refine JS.skip (JS.endB (JS.re ttOk 3 [(W (x8 + 1))] [] [(5, .v (.int .i64 (W (x8 + 1))))] _ ⟨⟨trivial, rfl⟩, ⟨rfl, trivial⟩, rfl⟩ rfl rfl (JS.endL (n21, y16, (W (x8 + 1))) h (Nat.lt_succ_self _) (Es rfl) trivial [2] rfl [] rfl)))
      have h := condF h ht33
      refine JS.exit rfl (JS.endJ x7 h ⟨rfl, trivial⟩ trivial [] rfl [] rfl)
    rintro x25 h
    subst hj34
    refine JS.rg0 ttOk 2 [(4, .v (.int .i64 x25))] ⟨⟨rfl, trivial⟩, rfl⟩ rfl rfl ?_
    cases h
    exact JS.ret ttOk () trivial rfl rfl [] rfl

def M_l_heldRing (x0 : List (List Int)) (x1 : Int) : Option Int :=
  (bindO (M_l_heldPieceS x0 x1) fun (y7 : Int) =>
  (bif (decide (y7 < 0)) then
  some (-1)
  else
  some y7))

theorem ok_l_heldRing (x0 : List (List Int)) (x1 : Int) (a3 : Option Addr) (c4 : Nat) (l5 : Nat) (hl6 : x0.length = l5) (r : Int) (h : M_l_heldRing x0 x1 = some r) :
    FC Tryz.prog 75 [.agg #[.slice a3 l5 c4], .int .i64 x1] [⟨(.sl (.int .i64)), ⟨a3, l5, c4⟩, x0⟩] (fun _ : Unit => True) (fun _ => .int .i64 r) (fun _ => []) :=
  by
    subst hl6
    refine FC.of (T := TTx) Tryz.call75 Tryz.func75 rfl rfl fun w0 => ?_
    unfold M_l_heldRing at h
    refine JS.rgB ttOk 2 [] [2] [(2, .bp 2 0)] (.new 2 41 [.slice a3 x0.length c4] .nil) ⟨⟨rfl, trivial⟩, (Bs rfl rfl)⟩ rfl rfl (JS.seq (JS.region (JO.reg ttOk 3 [] [] [(6, .v (.slice a3 x0.length c4)), (7, .v (.int .i64 x1))] _ rfl ⟨(Es rfl), rfl⟩ ?_)))
    obtain ⟨y7, hy8, h⟩ := bindO_some h
    refine JO.call rfl rfl rfl rfl (ok_l_heldPieceS x0 x1 a3 c4 x0.length rfl _ hy8) rfl [0] rfl rfl fun _ _ => JO.reg ttOk 1 [] [] [(1, .v (.int .i64 y7))] _ rfl ⟨⟨rfl, trivial⟩, rfl⟩ (JO.done rfl (JS.seq (JS.rg0 ttOk 2 [(10, .v (.bool (decide (y7 < 0))))] ⟨⟨rfl, trivial⟩, rfl⟩ rfl rfl ?_)))
    refine JS.cond rfl (fun ht10 => ?_) (fun ht10 => ?_)
    · have h := condT h ht10
      refine JS.rg0 ttOk 1 [(4, .v (.int .i64 (-1)))] ⟨⟨rfl, trivial⟩, rfl⟩ rfl rfl ?_
      cases h
      exact JS.ret ttOk () trivial rfl rfl [] rfl
    have h := condF h ht10
    refine JS.skip (JS.rg0 ttOk 2 [(4, .v (.int .i64 y7))] ⟨⟨rfl, trivial⟩, rfl⟩ rfl rfl ?_)
    cases h
    exact JS.ret ttOk () trivial rfl rfl [] rfl

def M_l_heldLineS_L1 (x0 : List (List Int × Int)) (j29 : Int → Option Int) (k22 : (Int × Int) → Option Int) : (Int × Int) → Option Int := fun (x7, x8) =>
  (bif (decide (x8 < (x0.length : Int))) then
  (guardO (0 ≤ x8 ∧ x8 < (x0.length : Int)) <|
  (bindO (M_l_heldIntS ((at' x0 x8).1) x7) fun (y16 : Int) =>
  (bif (decide (y16 < 0)) then
  some (-1)
  else
  (guardO (0 ≤ x8 ∧ x8 < (x0.length : Int)) <|
  (bif (!(decide ((at' x0 x8).2 = y16))) then
  some (-1)
  else
  k22 ((W (y16 + 1)), (W (x8 + 1))))))))
  else
  j29 x7)

def M_l_heldLineS (x0 : List (List Int × Int)) (x1 : Int) : Option Int :=
  (joinO (fun (x28 : Int) =>
  some x28) fun j29 =>
  (fixF (M_l_heldLineS_L1 x0 j29) FUEL (x1, 0)))

theorem ok_l_heldLineS (x0 : List (List Int × Int)) (x1 : Int) (a3 : Option Addr) (c4 : Nat) (l5 : Nat) (hl6 : x0.length = l5) (r : Int) (h : M_l_heldLineS x0 x1 = some r) :
    FC Tryz.prog 153 [.slice a3 l5 c4, .int .i64 x1] [⟨(.pair (.sl (.int .i64)) (.int .i64)), ⟨a3, l5, c4⟩, x0⟩] (fun _ : Unit => True) (fun _ => .int .i64 r) (fun _ => []) :=
  by
    subst hl6
    refine FC.of (T := TTx) Tryz.call153 Tryz.func153 rfl rfl fun w0 => ?_
    unfold M_l_heldLineS at h
    refine JS.rg0 ttOk 1 [] ⟨trivial, rfl⟩ rfl rfl (JS.seq (JS.rg0 ttOk 1 [(5, .v (.int .i64 0))] ⟨⟨rfl, trivial⟩, rfl⟩ rfl rfl ?_))
    obtain ⟨j29, hj39, h⟩ := joinO_some h
    refine JS.blockJ (ι := Int) ⟨fun z => j29 z = some r, fun z => [(1, .v (.int .i64 z))], fun z => .nil, fun z => [], fun z => [], fun z => 0⟩ ?_ ?_
    · refine JS.loop (ι := Nat × Int × Int) ⟨fun z => fixF (M_l_heldLineS_L1 x0 j29) z.1 (z.2.1, z.2.2) = some r, fun z => [(0, .v (.slice a3 x0.length c4)), (1, .v (.int .i64 z.2.1)), (5, .v (.int .i64 z.2.2))], fun z => .nil, fun z => [⟨(.pair (.sl (.int .i64)) (.int .i64)), ⟨a3, x0.length, c4⟩, x0⟩], fun z => [], fun z => z.1⟩ (FUEL, x1, 0) h (Es rfl) trivial [0] rfl [] rfl ?_
      rintro ⟨n23, x7, x8⟩ h
      obtain ⟨n23, rfl, h⟩ := fixF_some h
      rw [M_l_heldLineS_L1] at h
      refine JS.seq (JS.rg0 ttOk 4 [(9, .v (.bool (decide (x8 < (x0.length : Int)))))] ⟨⟨rfl, trivial⟩, rfl⟩ rfl rfl ?_)
      refine JS.cond rfl (fun ht38 => ?_) (fun ht38 => ?_)
      · have h := condT h ht38
        refine JS.skip (JS.seq (JS.block (JS.seq (JS.region (JO.know 0 rfl fun hs35 => ?_)))))
        obtain ⟨g10, h⟩ := guardO_some h
        refine JO.reg ttOk 4 [] [] [(15, .ep ⟨a3, x0.length, c4⟩ (Int.toNat x8 * 2))] _ rfl ⟨hs35.ix g10, hs35.fa g10, ⟨rfl, trivial⟩, rfl⟩ (JO.openR 0 rfl (Int.toNat x8) (at' x0 x8) rfl fun a11 c12 ys13 hl14 hy15 => JO.loadV ttOk rfl rfl rfl rfl rfl rfl 0 rfl rfl (Int.toNat x8) 0 ((Sl.v ⟨a11, ((at' x0 x8).1).length, c12⟩), (at' x0 x8).2) ⟨hy15 (ltNat g10), rfl⟩ rfl rfl rfl (JO.reg ttOk 1 [] [] [(17, .v (.int .i64 x7))] _ rfl ⟨⟨rfl, trivial⟩, rfl⟩ ?_))
        obtain ⟨y16, hy17, h⟩ := bindO_some h
        refine JO.call rfl rfl rfl rfl (ok_l_heldIntS ((at' x0 x8).1) x7 a11 c12 (((at' x0 x8).1).length) rfl _ hy17) rfl [1] rfl rfl fun _ _ => JO.reg ttOk 1 [] [] [(1, .v (.int .i64 y16))] _ rfl ⟨⟨rfl, trivial⟩, rfl⟩ (JO.done rfl (JS.seq (JS.rg0 ttOk 2 [(20, .v (.bool (decide (y16 < 0))))] ⟨⟨rfl, trivial⟩, rfl⟩ rfl rfl ?_)))
        refine JS.cond rfl (fun ht37 => ?_) (fun ht37 => ?_)
        · have h := condT h ht37
          refine JS.rg0 ttOk 1 [(4, .v (.int .i64 (-1)))] ⟨⟨rfl, trivial⟩, rfl⟩ rfl rfl ?_
          cases h
          exact JS.ret ttOk () trivial rfl rfl [] rfl
        have h := condF h ht37
        refine JS.skip (JS.seq (JS.seq (JS.region ?_)))
        obtain ⟨g18, h⟩ := guardO_some h
        refine JO.reg ttOk 4 [] [] [(24, .ep ⟨a3, x0.length, c4⟩ (Int.toNat x8 * 2 + 1))] _ rfl ⟨hs35.ix g18, hs35.fa g18, ⟨rfl, trivial⟩, rfl⟩ (JO.load ttOk rfl rfl rfl rfl rfl rfl rfl 2 rfl rfl (Int.toNat x8) 1 (at' x0 x8) ⟨at_some g18, rfl⟩ rfl rfl (JO.reg ttOk 2 [] [] [(27, .v (.bool (!(decide ((at' x0 x8).2 = y16)))))] _ rfl ⟨⟨rfl, trivial⟩, rfl⟩ (JO.done rfl ?_)))
        refine JS.cond rfl (fun ht36 => ?_) (fun ht36 => ?_)
        · have h := condT h ht36
          refine JS.rg0 ttOk 1 [(4, .v (.int .i64 (-1)))] ⟨⟨rfl, trivial⟩, rfl⟩ rfl rfl ?_
          cases h
          exact JS.ret ttOk () trivial rfl rfl [] rfl
        have h := condF h ht36
        refine JS.skip (JS.re ttOk 3 [(W (y16 + 1))] [] [(1, .v (.int .i64 (W (y16 + 1))))] _ ⟨⟨trivial, rfl⟩, ⟨rfl, trivial⟩, rfl⟩ rfl rfl (JS.endB (JS.re ttOk 3 [(W (x8 + 1))] [] [(5, .v (.int .i64 (W (x8 + 1))))] _ ⟨⟨trivial, rfl⟩, ⟨rfl, trivial⟩, rfl⟩ rfl rfl (JS.endL (n23, (W (y16 + 1)), (W (x8 + 1))) h (Nat.lt_succ_self _) (Es rfl) trivial [2] rfl [] rfl))))
      have h := condF h ht38
      refine JS.exit rfl (JS.endJ x7 h ⟨rfl, trivial⟩ trivial [] rfl [] rfl)
    rintro x28 h
    subst hj39
    refine JS.rg0 ttOk 2 [(4, .v (.int .i64 x28))] ⟨⟨rfl, trivial⟩, rfl⟩ rfl rfl ?_
    cases h
    exact JS.ret ttOk () trivial rfl rfl [] rfl

def M_l_heldUndo (x0 : List (List Int × Int)) (x1 : Int) : Option Int :=
  (bindO (M_l_heldLineS x0 x1) fun (y7 : Int) =>
  (bif (decide (y7 < 0)) then
  some (-1)
  else
  some y7))

theorem ok_l_heldUndo (x0 : List (List Int × Int)) (x1 : Int) (a3 : Option Addr) (c4 : Nat) (l5 : Nat) (hl6 : x0.length = l5) (r : Int) (h : M_l_heldUndo x0 x1 = some r) :
    FC Tryz.prog 76 [.agg #[.slice a3 l5 c4], .int .i64 x1] [⟨(.pair (.sl (.int .i64)) (.int .i64)), ⟨a3, l5, c4⟩, x0⟩] (fun _ : Unit => True) (fun _ => .int .i64 r) (fun _ => []) :=
  by
    subst hl6
    refine FC.of (T := TTx) Tryz.call76 Tryz.func76 rfl rfl fun w0 => ?_
    unfold M_l_heldUndo at h
    refine JS.rgB ttOk 2 [] [2] [(2, .bp 2 0)] (.new 2 44 [.slice a3 x0.length c4] .nil) ⟨⟨rfl, trivial⟩, (Bs rfl rfl)⟩ rfl rfl (JS.seq (JS.region (JO.reg ttOk 3 [] [] [(6, .v (.slice a3 x0.length c4)), (7, .v (.int .i64 x1))] _ rfl ⟨(Es rfl), rfl⟩ ?_)))
    obtain ⟨y7, hy8, h⟩ := bindO_some h
    refine JO.call rfl rfl rfl rfl (ok_l_heldLineS x0 x1 a3 c4 x0.length rfl _ hy8) rfl [0] rfl rfl fun _ _ => JO.reg ttOk 1 [] [] [(1, .v (.int .i64 y7))] _ rfl ⟨⟨rfl, trivial⟩, rfl⟩ (JO.done rfl (JS.seq (JS.rg0 ttOk 2 [(10, .v (.bool (decide (y7 < 0))))] ⟨⟨rfl, trivial⟩, rfl⟩ rfl rfl ?_)))
    refine JS.cond rfl (fun ht10 => ?_) (fun ht10 => ?_)
    · have h := condT h ht10
      refine JS.rg0 ttOk 1 [(4, .v (.int .i64 (-1)))] ⟨⟨rfl, trivial⟩, rfl⟩ rfl rfl ?_
      cases h
      exact JS.ret ttOk () trivial rfl rfl [] rfl
    have h := condF h ht10
    refine JS.skip (JS.rg0 ttOk 2 [(4, .v (.int .i64 y7))] ⟨⟨rfl, trivial⟩, rfl⟩ rfl rfl ?_)
    cases h
    exact JS.ret ttOk () trivial rfl rfl [] rfl

def M_l_heldEd (x0 : Bool × Int × (List Int × Int) × Int × Int × Int × Int × Int × Int × Int × List (List Int) × (List (List Int × Int)) × Int × (List Int × Int) × List Int × Int × List Int × Int) (x1 : Int) : Option Int :=
  (bindO (M_l_heldLine x0.2.2.1 x1) fun (y27 : Int) =>
  (bif (decide (y27 < 0)) then
  some (-1)
  else
  (bindO (M_l_heldRing x0.2.2.2.2.2.2.2.2.2.2.1 y27) fun (y29 : Int) =>
  (bif (decide (y29 < 0)) then
  some (-1)
  else
  (bindO (M_l_heldUndo x0.2.2.2.2.2.2.2.2.2.2.2.1 y29) fun (y31 : Int) =>
  (bif (decide (y31 < 0)) then
  some (-1)
  else
  (bindO (M_l_heldLine x0.2.2.2.2.2.2.2.2.2.2.2.2.2.1 y31) fun (y33 : Int) =>
  (bif (decide (y33 < 0)) then
  some (-1)
  else
  (bindO (M_l_heldIntS x0.2.2.2.2.2.2.2.2.2.2.2.2.2.2.1 y33) fun (y35 : Int) =>
  (bif (decide (y35 < 0)) then
  some (-1)
  else
  (bindO (M_l_heldLine x0.2.2.2.2.2.2.2.2.2.2.2.2.2.2.2.2 y35) fun (y37 : Int) =>
  (bif (decide (y37 < 0)) then
  some (-1)
  else
  some y37))))))))))))

theorem ok_l_heldEd (x0 : Bool × Int × (List Int × Int) × Int × Int × Int × Int × Int × Int × Int × List (List Int) × (List (List Int × Int)) × Int × (List Int × Int) × List Int × Int × List Int × Int) (x1 : Int) (a3 : Option Addr) (c4 : Nat) (l5 : Nat) (hl6 : x0.2.2.1.1.length = l5) (a7 : Option Addr) (c8 : Nat) (l9 : Nat) (hl10 : x0.2.2.2.2.2.2.2.2.2.2.1.length = l9) (a11 : Option Addr) (c12 : Nat) (l13 : Nat) (hl14 : x0.2.2.2.2.2.2.2.2.2.2.2.1.length = l13) (a15 : Option Addr) (c16 : Nat) (l17 : Nat) (hl18 : x0.2.2.2.2.2.2.2.2.2.2.2.2.2.1.1.length = l17) (a19 : Option Addr) (c20 : Nat) (l21 : Nat) (hl22 : x0.2.2.2.2.2.2.2.2.2.2.2.2.2.2.1.length = l21) (a23 : Option Addr) (c24 : Nat) (l25 : Nat) (hl26 : x0.2.2.2.2.2.2.2.2.2.2.2.2.2.2.2.2.1.length = l25) (r : Int) (h : M_l_heldEd x0 x1 = some r) :
    FC Tryz.prog 23 [.agg #[.bool x0.1, .int .i64 x0.2.1, .slice a3 l5 c4, .int .i64 x0.2.2.1.2, .int .i64 x0.2.2.2.1, .int .i64 x0.2.2.2.2.1, .int .i64 x0.2.2.2.2.2.1, .int .i64 x0.2.2.2.2.2.2.1, .int .i64 x0.2.2.2.2.2.2.2.1, .int .i64 x0.2.2.2.2.2.2.2.2.1, .int .i64 x0.2.2.2.2.2.2.2.2.2.1, .slice a7 l9 c8, .slice a11 l13 c12, .int .i64 x0.2.2.2.2.2.2.2.2.2.2.2.2.1, .slice a15 l17 c16, .int .i64 x0.2.2.2.2.2.2.2.2.2.2.2.2.2.1.2, .slice a19 l21 c20, .int .i64 x0.2.2.2.2.2.2.2.2.2.2.2.2.2.2.2.1, .slice a23 l25 c24, .int .i64 x0.2.2.2.2.2.2.2.2.2.2.2.2.2.2.2.2.2], .int .i64 x1] [⟨(.int .i64), ⟨a3, l5, c4⟩, x0.2.2.1.1⟩, ⟨(.sl (.int .i64)), ⟨a7, l9, c8⟩, x0.2.2.2.2.2.2.2.2.2.2.1⟩, ⟨(.pair (.sl (.int .i64)) (.int .i64)), ⟨a11, l13, c12⟩, x0.2.2.2.2.2.2.2.2.2.2.2.1⟩, ⟨(.int .i64), ⟨a15, l17, c16⟩, x0.2.2.2.2.2.2.2.2.2.2.2.2.2.1.1⟩, ⟨(.int .i64), ⟨a19, l21, c20⟩, x0.2.2.2.2.2.2.2.2.2.2.2.2.2.2.1⟩, ⟨(.int .i64), ⟨a23, l25, c24⟩, x0.2.2.2.2.2.2.2.2.2.2.2.2.2.2.2.2.1⟩] (fun _ : Unit => True) (fun _ => .int .i64 r) (fun _ => []) :=
  by
    subst hl6
    subst hl10
    subst hl14
    subst hl18
    subst hl22
    subst hl26
    refine FC.of (T := TTx) Tryz.call23 Tryz.func23 rfl rfl fun w0 => ?_
    unfold M_l_heldEd at h
    refine JS.rgB ttOk 2 [] [7] [(2, .bp 7 0)] (.new 7 46 (cl46 x0 a3 c4 a7 c8 a11 c12 a15 c16 a19 c20 a23 c24) .nil) ⟨⟨rfl, trivial⟩, (Bs rfl rfl)⟩ rfl rfl (JS.seq (JS.region (JO.reg ttOk 3 [] [] [(6, .v (.agg #[.slice a3 x0.2.2.1.1.length c4, .int .i64 x0.2.2.1.2])), (7, .v (.int .i64 x1))] _ rfl ⟨(Es rfl), rfl⟩ ?_)))
    obtain ⟨y27, hy28, h⟩ := bindO_some h
    refine JO.call rfl rfl rfl rfl (ok_l_heldLine x0.2.2.1 x1 a3 c4 x0.2.2.1.1.length rfl _ hy28) rfl [0] rfl rfl fun _ _ => JO.reg ttOk 1 [] [] [(1, .v (.int .i64 y27))] _ rfl ⟨⟨rfl, trivial⟩, rfl⟩ (JO.done rfl (JS.seq (JS.rg0 ttOk 2 [(10, .v (.bool (decide (y27 < 0))))] ⟨⟨rfl, trivial⟩, rfl⟩ rfl rfl ?_)))
    refine JS.cond rfl (fun ht50 => ?_) (fun ht50 => ?_)
    · have h := condT h ht50
      refine JS.rg0 ttOk 1 [(4, .v (.int .i64 (-1)))] ⟨⟨rfl, trivial⟩, rfl⟩ rfl rfl ?_
      cases h
      exact JS.ret ttOk () trivial rfl rfl [] rfl
    have h := condF h ht50
    refine JS.skip (JS.seq (JS.region (JO.reg ttOk 3 [] [] [(12, .v (.agg #[.slice a7 x0.2.2.2.2.2.2.2.2.2.2.1.length c8])), (13, .v (.int .i64 y27))] _ rfl ⟨(Es rfl), rfl⟩ ?_)))
    obtain ⟨y29, hy30, h⟩ := bindO_some h
    refine JO.call rfl rfl rfl rfl (ok_l_heldRing x0.2.2.2.2.2.2.2.2.2.2.1 y27 a7 c8 x0.2.2.2.2.2.2.2.2.2.2.1.length rfl _ hy30) rfl [1] rfl rfl fun _ _ => JO.reg ttOk 1 [] [] [(1, .v (.int .i64 y29))] _ rfl ⟨⟨rfl, trivial⟩, rfl⟩ (JO.done rfl (JS.seq (JS.rg0 ttOk 2 [(16, .v (.bool (decide (y29 < 0))))] ⟨⟨rfl, trivial⟩, rfl⟩ rfl rfl ?_)))
    refine JS.cond rfl (fun ht49 => ?_) (fun ht49 => ?_)
    · have h := condT h ht49
      refine JS.rg0 ttOk 1 [(4, .v (.int .i64 (-1)))] ⟨⟨rfl, trivial⟩, rfl⟩ rfl rfl ?_
      cases h
      exact JS.ret ttOk () trivial rfl rfl [] rfl
    have h := condF h ht49
    refine JS.skip (JS.seq (JS.region (JO.reg ttOk 3 [] [] [(18, .v (.agg #[.slice a11 x0.2.2.2.2.2.2.2.2.2.2.2.1.length c12])), (19, .v (.int .i64 y29))] _ rfl ⟨(Es rfl), rfl⟩ ?_)))
    obtain ⟨y31, hy32, h⟩ := bindO_some h
    refine JO.call rfl rfl rfl rfl (ok_l_heldUndo x0.2.2.2.2.2.2.2.2.2.2.2.1 y29 a11 c12 x0.2.2.2.2.2.2.2.2.2.2.2.1.length rfl _ hy32) rfl [2] rfl rfl fun _ _ => JO.reg ttOk 1 [] [] [(1, .v (.int .i64 y31))] _ rfl ⟨⟨rfl, trivial⟩, rfl⟩ (JO.done rfl (JS.seq (JS.rg0 ttOk 2 [(22, .v (.bool (decide (y31 < 0))))] ⟨⟨rfl, trivial⟩, rfl⟩ rfl rfl ?_)))
    refine JS.cond rfl (fun ht48 => ?_) (fun ht48 => ?_)
    · have h := condT h ht48
      refine JS.rg0 ttOk 1 [(4, .v (.int .i64 (-1)))] ⟨⟨rfl, trivial⟩, rfl⟩ rfl rfl ?_
      cases h
      exact JS.ret ttOk () trivial rfl rfl [] rfl
    have h := condF h ht48
    refine JS.skip (JS.seq (JS.region (JO.reg ttOk 3 [] [] [(24, .v (.agg #[.slice a15 x0.2.2.2.2.2.2.2.2.2.2.2.2.2.1.1.length c16, .int .i64 x0.2.2.2.2.2.2.2.2.2.2.2.2.2.1.2])), (25, .v (.int .i64 y31))] _ rfl ⟨(Es rfl), rfl⟩ ?_)))
    obtain ⟨y33, hy34, h⟩ := bindO_some h
    refine JO.call rfl rfl rfl rfl (ok_l_heldLine x0.2.2.2.2.2.2.2.2.2.2.2.2.2.1 y31 a15 c16 x0.2.2.2.2.2.2.2.2.2.2.2.2.2.1.1.length rfl _ hy34) rfl [3] rfl rfl fun _ _ => JO.reg ttOk 1 [] [] [(1, .v (.int .i64 y33))] _ rfl ⟨⟨rfl, trivial⟩, rfl⟩ (JO.done rfl (JS.seq (JS.rg0 ttOk 2 [(28, .v (.bool (decide (y33 < 0))))] ⟨⟨rfl, trivial⟩, rfl⟩ rfl rfl ?_)))
    refine JS.cond rfl (fun ht47 => ?_) (fun ht47 => ?_)
    · have h := condT h ht47
      refine JS.rg0 ttOk 1 [(4, .v (.int .i64 (-1)))] ⟨⟨rfl, trivial⟩, rfl⟩ rfl rfl ?_
      cases h
      exact JS.ret ttOk () trivial rfl rfl [] rfl
    have h := condF h ht47
    refine JS.skip (JS.seq (JS.region (JO.reg ttOk 3 [] [] [(30, .v (.slice a19 x0.2.2.2.2.2.2.2.2.2.2.2.2.2.2.1.length c20)), (31, .v (.int .i64 y33))] _ rfl ⟨(Es rfl), rfl⟩ ?_)))
    obtain ⟨y35, hy36, h⟩ := bindO_some h
    refine JO.call rfl rfl rfl rfl (ok_l_heldIntS x0.2.2.2.2.2.2.2.2.2.2.2.2.2.2.1 y33 a19 c20 x0.2.2.2.2.2.2.2.2.2.2.2.2.2.2.1.length rfl _ hy36) rfl [4] rfl rfl fun _ _ => JO.reg ttOk 1 [] [] [(1, .v (.int .i64 y35))] _ rfl ⟨⟨rfl, trivial⟩, rfl⟩ (JO.done rfl (JS.seq (JS.rg0 ttOk 2 [(34, .v (.bool (decide (y35 < 0))))] ⟨⟨rfl, trivial⟩, rfl⟩ rfl rfl ?_)))
    refine JS.cond rfl (fun ht46 => ?_) (fun ht46 => ?_)
    · have h := condT h ht46
      refine JS.rg0 ttOk 1 [(4, .v (.int .i64 (-1)))] ⟨⟨rfl, trivial⟩, rfl⟩ rfl rfl ?_
      cases h
      exact JS.ret ttOk () trivial rfl rfl [] rfl
    have h := condF h ht46
    refine JS.skip (JS.seq (JS.region (JO.reg ttOk 3 [] [] [(36, .v (.agg #[.slice a23 x0.2.2.2.2.2.2.2.2.2.2.2.2.2.2.2.2.1.length c24, .int .i64 x0.2.2.2.2.2.2.2.2.2.2.2.2.2.2.2.2.2])), (37, .v (.int .i64 y35))] _ rfl ⟨(Es rfl), rfl⟩ ?_)))
    obtain ⟨y37, hy38, h⟩ := bindO_some h
    refine JO.call rfl rfl rfl rfl (ok_l_heldLine x0.2.2.2.2.2.2.2.2.2.2.2.2.2.2.2.2 y35 a23 c24 x0.2.2.2.2.2.2.2.2.2.2.2.2.2.2.2.2.1.length rfl _ hy38) rfl [5] rfl rfl fun _ _ => JO.reg ttOk 1 [] [] [(1, .v (.int .i64 y37))] _ rfl ⟨⟨rfl, trivial⟩, rfl⟩ (JO.done rfl (JS.seq (JS.rg0 ttOk 2 [(40, .v (.bool (decide (y37 < 0))))] ⟨⟨rfl, trivial⟩, rfl⟩ rfl rfl ?_)))
    refine JS.cond rfl (fun ht45 => ?_) (fun ht45 => ?_)
    · have h := condT h ht45
      refine JS.rg0 ttOk 1 [(4, .v (.int .i64 (-1)))] ⟨⟨rfl, trivial⟩, rfl⟩ rfl rfl ?_
      cases h
      exact JS.ret ttOk () trivial rfl rfl [] rfl
    have h := condF h ht45
    refine JS.skip (JS.rg0 ttOk 2 [(4, .v (.int .i64 y37))] ⟨⟨rfl, trivial⟩, rfl⟩ rfl rfl ?_)
    cases h
    exact JS.ret ttOk () trivial rfl rfl [] rfl

end
end Go.Eng
