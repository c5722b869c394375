/- FnExactRefAt: for every input the given law returns true and leaves its arguments as they were. No condition. -/
import Derived.Test.YtfpkjlgpjhlbbaaFnExactRefAtWalkA
import Derived.Test.YtfpkjlgpjhlbbaaRows
import Derived.WalkKit
import Derived.ProofKit
import Derived.OpenShut
import Derived.ShutString
set_option linter.unusedVariables false
set_option linter.unusedSimpArgs false
namespace Go.Eng
open Go Go.Proofs


theorem bindO_of {α β : Type} {m : Option α} {k : α → Option β} {y : α} (h : m = some y) : bindO m k = k y := by rw [h]; rfl

theorem wf64 {a : Int} (h : (Lit.int .i64 a).wf = true) : -9223372036854775808 ≤ a ∧ a ≤ 9223372036854775807 := by
  simpa [Lit.wf, IntKind.min, IntKind.max, IntKind.signed, IntKind.bits] using h


theorem W_addW (a b : Int) : W (W a + b) = W (a + b) := by
  simp only [W, IntKind.wrap, IntKind.bits, IntKind.signed]
  simp
  omega
theorem W_subW (a b : Int) : W (W a - b) = W (a - b) := by
  simp only [W, IntKind.wrap, IntKind.bits, IntKind.signed]
  simp
  omega
theorem u8_id {n : Int} (h : 0 ≤ n) (h' : n ≤ 255) : ((u8 n).toNat : Int) = n := by
  simp only [u8]; simp; omega

theorem callO_val {α β : Type} {g : Prop} [Decidable g] {v d : α} {k : α → Option β} : callO g (some v) d k = k (if g then v else d) := by
  unfold callO bindO; split <;> rfl

theorem isDigit_eq (x : Int) : M_i_isDigit x = some (decide (48 ≤ x ∧ x ≤ 57)) := by
  simp only [M_i_isDigit, M_i_in, bindO]
  congr 1; rw [Bool.eq_iff_iff]; simp

theorem number_loop (l : List UInt8) (p : Int) (hp : 0 ≤ p) (hp' : p ≤ 2000000) (j : Int × Int → Option (Int × Int)) (hj : ∀ x, ∃ v, j x = some v) : ∀ (m : Nat) (n k : Int), 0 ≤ k → k ≤ 3000000 → p + 9 - k < m → 0 < m →
    ∃ v, fixF (M_s_l20Number_L1 l p j) m (n, k) = some v ∧ fixF (M_i_digitsAt_L1 l p j) m (n, k) = some v := by
  intro m
  induction m with
  | zero => intro n k _ _ h h'; omega
  | succ m ih =>
    intro n k hk hk' hm _
    simp only [fixF, M_s_l20Number_L1, M_i_digitsAt_L1, isDigit_eq, callO_val, guardO]
    rw [W_eq (x := p + 9) (by omega) (by omega), W_eq (x := k + 1) (by omega) (by omega)]
    by_cases h1 : k < (l.length : Int)
    · by_cases h2 : k < p + 9
      · simp only [h1, h2, hk, decide_true, cond_true, if_true, and_self, implies_true]
        generalize hb : ((at' l k).toNat : Int) = b
        by_cases h3 : 48 ≤ b
        · by_cases h4 : b ≤ 57
          · obtain ⟨v, q1, q2⟩ := ih (W (10 * n + b - 48)) (k + 1) (by omega) (by omega) (by omega) (by omega)
            refine ⟨v, ?_, ?_⟩
            · simp only [h3, h4, decide_true, cond_true]
              rw [u8_id (by omega) (by omega), W_addW, show n * 10 + (b - 48) = 10 * n + b - 48 by omega]
              exact q1
            · simp only [h3, h4, and_self, decide_true, cond_true]
              rw [W_subW, show W (10 * n) + b - 48 = W (10 * n) + (b - 48) by omega, W_addW, show 10 * n + (b - 48) = 10 * n + b - 48 by omega]
              exact q2
          · obtain ⟨v, hv⟩ := hj (n, k)
            exact ⟨v, by simpa [h4] using hv, by simpa [h4] using hv⟩
        · obtain ⟨v, hv⟩ := hj (n, k)
          exact ⟨v, by simpa [h3] using hv, by simpa [h3] using hv⟩
      · obtain ⟨v, hv⟩ := hj (n, k)
        exact ⟨v, by simpa [h1, h2] using hv, by simpa [h1, h2] using hv⟩
    · obtain ⟨v, hv⟩ := hj (n, k)
      exact ⟨v, by simpa [h1] using hv, by simpa [h1] using hv⟩

theorem number_eq (l : List UInt8) (p : Int) (hp : 0 ≤ p) (hp' : p ≤ 2000000) : ∃ v, M_s_l20Number l p = some v ∧ M_i_digitsAt l p = some v :=
  number_loop l p hp hp' (fun x => some (x.1, x.2)) (fun _ => ⟨_, rfl⟩) FUEL 0 p hp (by omega) (by rw [fuel_eq]; omega) (by rw [fuel_eq]; omega)

theorem drop_at {α : Type} [Inhabited α] {l : List α} {k : Int} (h0 : 0 ≤ k) (h : k < (l.length : Int)) : l.drop k.toNat = at' l k :: l.drop (k + 1).toNat := by
  have hlt : k.toNat < l.length := by omega
  rw [List.drop_eq_getElem_cons hlt]
  have : (k + 1).toNat = k.toNat + 1 := by omega
  rw [this]
  congr 1
  simp [at', List.getD_eq_getElem?_getD, hlt]

theorem sub_all {α : Type} {l : List α} {k : Int} (h0 : 0 ≤ k) : sub' l k (l.length : Int) = l.drop k.toNat := by
  unfold sub'
  rw [List.take_of_length_le]
  simp

theorem byte_eq {b : UInt8} {n : Nat} (hn : n < 256) : ((b.toNat : Int) = n) ↔ b = UInt8.ofNat n := by
  constructor
  · intro h; apply UInt8.toNat_inj.1; simp; omega
  · intro h; rw [h]; simp; omega


theorem in_loop (L : List UInt8) (hL : (L.length : Int) ≤ 1000000) (b : UInt8) (j : Unit → Option Bool) : ∀ (m : Nat) (k : Int), 0 ≤ k → k ≤ 2000000 → (L.length : Int) - k < m → 0 < m →
    fixF (M_s_l16In_L1 L [b] false j) m k = if b ∈ L.drop k.toNat then some true else j () := by
  intro m
  induction m with
  | zero => intro k _ _ h h'; omega
  | succ m ih =>
    intro k hk hk' hm _
    have hW : W (k + 1) = k + 1 := W_eq (by omega) (by omega)
    simp only [fixF, M_s_l16In_L1, guardO, Bool.cond_decide, List.length_singleton, show ((1 : Nat) : Int) = 1 from rfl, hW]
    by_cases h1 : k < (L.length : Int)
    · have h2 : k + 1 ≤ (L.length : Int) := by omega
      have h3 : sub' L k (k + 1) = [at' L k] := by
        unfold sub'
        rw [drop_at hk h1, show (k + 1).toNat - k.toNat = 1 by omega]
        simp
      simp only [h2, hk, if_true, h3, cond_false, true_and, and_true, show k ≤ k + 1 by omega]
      rw [drop_at hk h1, ih (k + 1) (by omega) (by omega) (by omega) (by omega)]
      by_cases h4 : at' L k = b
      · simp [h4]
      · have h5 : ¬ [at' L k] = [b] := by simpa using h4
        have h6 : ¬ b = at' L k := fun h => h4 h.symm
        simp [h4, h6]
    · have h2 : ¬ k + 1 ≤ (L.length : Int) := by omega
      simp only [h2, if_false]
      rw [List.drop_eq_nil_of_le (by omega)]
      simp

theorem in_eq (L : List UInt8) (hL : (L.length : Int) ≤ 1000000) (b : UInt8) : M_s_l16In L [b] false = some (decide (b ∈ L)) := by
  show fixF (M_s_l16In_L1 L [b] false fun _ => some false) FUEL 0 = _
  rw [in_loop L hL b _ FUEL 0 (by omega) (by omega) (by rw [fuel_eq]; omega) (by rw [fuel_eq]; omega)]
  simp only [Int.toNat_zero, List.drop_zero]
  split <;> simp [*]

theorem indexByte_neg (L : List UInt8) (b : UInt8) : Lib.indexByte L b < 0 ↔ b ∉ L := by
  induction L with
  | nil => simp [Lib.indexByte]
  | cons c L ih =>
    unfold Lib.indexByte
    have hge := Lib.indexByte_ge L b
    by_cases h : c = b
    · subst h; simp
    · have h1 : (c == b) = false := by simpa using h
      have h2 : ¬ b = c := fun e => h e.symm
      simp only [h1, Bool.false_eq_true, if_false, List.mem_cons, h2, false_or, ← ih]
      by_cases h3 : Lib.indexByte L b = -1
      · simp [h3]
      · have : (Lib.indexByte L b == -1) = false := by simpa using h3
        simp only [this, Bool.false_eq_true, if_false]
        omega

theorem ref_loop (l : List UInt8) (hl : (l.length : Int) ≤ 1048576) (j : Int × Int × Int × List UInt8 × Int → Option ((Int × Int × List UInt8 × Int) × Bool)) (p : Int) (hj : ∀ k, p ≤ k → k ≤ (l.length : Int) → ∃ v, j (k, 0, 0, [], 0) = some v) : ∀ (m : Nat) (k : Int), 0 ≤ k → p ≤ k → k ≤ (l.length : Int) → (l.length : Int) - k < m → 0 < m →
    ∃ v, fixF (M_s_RefAt_L1 l j) m k = some v ∧ fixF (M_i_RefAt_L1 l j) m k = some v := by
  intro m
  induction m with
  | zero => intro k _ _ _ h h'; omega
  | succ m ih =>
    intro k hk hpk hk' hm _
    simp only [fixF, M_s_RefAt_L1, M_i_RefAt_L1, guardO, M_strings_IndexByte, callO_val]
    rw [W_eq (x := k + 1) (by omega) (by omega)]
    by_cases h1 : k < (l.length : Int)
    · have h3 : sub' l k (k + 1) = [at' l k] := by
        unfold sub'
        rw [drop_at hk h1, show (k + 1).toNat - k.toNat = 1 by omega]
        simp
      simp only [h3, in_eq _ (by decide : (([32, 9, 10, 59, 38, 124, 60, 62, 40, 41, 61, 33, 39, 34] : List UInt8).length : Int) ≤ 1000000), callO_val]
      have hn := indexByte_neg [32, 9, 10, 59, 38, 124, 60, 62, 40, 41, 61, 33, 39, 34] (at' l k)
      obtain ⟨v, q1, q2⟩ := ih (k + 1) (by omega) (by omega) (by omega) (by omega) (by omega)
      obtain ⟨u, hu⟩ := hj k hpk hk'
      simp only [h1, hk, decide_true, cond_true, if_true, and_self, implies_true, show k ≤ k + 1 by omega, show k + 1 ≤ (l.length : Int) by omega]
      generalize Lib.indexByte [32, 9, 10, 59, 38, 124, 60, 62, 40, 41, 61, 33, 39, 34] (at' l k) = q at *
      by_cases h4 : q < 0
      · have h5 := hn.1 h4
        simp only [h4, h5, decide_true, decide_false, Bool.not_false, cond_true]
        exact ⟨v, q1, q2⟩
      · have h5 : at' l k ∈ [32, 9, 10, 59, 38, 124, 60, 62, 40, 41, 61, 33, 39, 34] := Decidable.byContradiction fun h => h4 (hn.2 h)
        simp only [h4, h5, decide_true, decide_false, Bool.not_true, cond_false]
        exact ⟨u, hu, hu⟩
    · obtain ⟨u, hu⟩ := hj k hpk hk'
      simp only [h1, decide_false, Bool.false_eq_true, false_implies, if_true, if_false, cond_false, callO]
      exact ⟨u, hu, hu⟩

theorem ref_eq (l : List UInt8) (hl : (l.length : Int) ≤ 1048576) (a : Int) (h1 : -9223372036854775808 ≤ a) (h2 : a ≤ 9223372036854775807) : ∃ v, M_s_RefAt l a = some v ∧ M_i_RefAt l a = some v := by
  simp only [M_s_RefAt, M_i_RefAt, M_i_in, guardO]
  rw [W_eq (x := (l.length : Int) - 1) (by omega) (by omega)]
  by_cases c1 : 0 ≤ a
  · by_cases c2 : a < (l.length : Int)
    · have c3 : ¬ a < 0 := by omega
      have c4 : ¬ (l.length : Int) ≤ a := by omega
      have c5 : a ≤ (l.length : Int) - 1 := by omega
      rw [W_eq (x := a + 1) (by omega) (by omega), W_eq (x := a + 2) (by omega) (by omega), W_eq (x := a + 1 + 1) (by omega) (by omega)]
      have e2 : a + 1 + 1 = a + 2 := by omega
      have c6 : (0 : Int) ≤ a + 1 := by omega
      simp only [c1, c2, c3, c4, c5, c6, e2, bindO, decide_true, decide_false, cond_true, cond_false, Bool.not_true, if_true, and_self, implies_true, true_and]
      by_cases d1 : ((at' l a).toNat : Int) = 33
      · simp only [d1, decide_true, Bool.not_true, cond_false]
        have tail : ∃ v, joinO (fun (x : Int × Int × Int × List UInt8 × Int) => (bif decide (x.1 = a + 1) then some ((0, 0, [], 0), false) else if 0 ≤ a + 1 ∧ a + 1 ≤ x.1 ∧ x.1 ≤ (l.length : Int) then some ((4, 0, sub' l (a + 1) x.1, x.1), true) else none : Option ((Int × Int × List UInt8 × Int) × Bool))) (fun j => fixF (M_s_RefAt_L1 l j) FUEL (a + 1)) = some v ∧
            joinO (fun (x : Int × Int × Int × List UInt8 × Int) => (bif decide (x.1 = a + 1) then some ((0, 0, [], 0), false) else if 0 ≤ a + 1 ∧ a + 1 ≤ x.1 ∧ x.1 ≤ (l.length : Int) then some ((4, 0, sub' l (a + 1) x.1, x.1), true) else none : Option ((Int × Int × List UInt8 × Int) × Bool))) (fun j => fixF (M_i_RefAt_L1 l j) FUEL (a + 1)) = some v := by
          unfold joinO
          refine ref_loop l hl _ (a + 1) (fun k hk hk' => ?_) FUEL (a + 1) c6 (Int.le_refl _) (by omega) (by rw [fuel_eq]; omega) (by rw [fuel_eq]; omega)
          by_cases e : k = a + 1
          · simp [e]
          · simp [e, c6, hk, hk']
        simp only [c6, true_and] at tail
        obtain ⟨t, t1, t2⟩ := tail
        obtain ⟨⟨n1, n2⟩, m1, m2⟩ := number_eq l (a + 1) c6 (by omega)
        obtain ⟨⟨n3, n4⟩, m3, m4⟩ := number_eq l (a + 2) (by omega) (by omega)
        simp only [m1, m2, m3, m4]
        by_cases d2 : a + 1 < (l.length : Int)
        · have d3 : a + 1 + 1 ≤ (l.length : Int) := by omega
          simp only [d2, decide_true, cond_true, implies_true, if_true, and_self]
          by_cases d4 : ((at' l (a + 1)).toNat : Int) = 33
          · simp [d4]
          · simp only [d4, decide_false, cond_false]
            by_cases d5 : a + 1 < n2
            · simp [d5]
            · simp only [d5, decide_false, cond_false]
              by_cases d6 : ((at' l (a + 1)).toNat : Int) = 45
              · simp only [d6, decide_true, cond_true]
                by_cases d7 : a + 2 < n4
                · exact ⟨((3, n3, [], n4), true), by simp [joinO, d7], by simp [joinO, d7]⟩
                · exact ⟨t, by simp only [d7, decide_false, cond_false]; exact t1, by simp only [d7, decide_false, cond_false]; exact t2⟩
              · exact ⟨t, by simp only [d6, decide_false, cond_false]; exact t1, by simp only [d6, decide_false, cond_false]; exact t2⟩
        · simp only [d2, decide_false, cond_false, Bool.false_eq_true, false_implies, if_true]
          by_cases d5 : a + 1 < n2
          · simp [d5]
          · simp only [d5, decide_false, cond_false]
            exact ⟨t, t1, t2⟩
      · simp [d1]
    · have c4 : (l.length : Int) ≤ a := by omega
      have c5 : ¬ a ≤ (l.length : Int) - 1 := by omega
      simp [c1, c4, c5, bindO]
  · have c3 : a < 0 := by omega
    simp [c1, c3, bindO]

theorem eqRef_self (x : Int × Int × List UInt8 × Int) : M_l_eqRef x x = some true := by
  simp [M_l_eqRef]

theorem law_RefAt (l : List UInt8) (a : Int) (hw : (Lit.int .i64 a).wf = true) : M_l_FnExactRefAt l a = some true := by
  simp only [M_l_FnExactRefAt]
  cases hc : decide ((1048576 : Int) < (l.length : Int)) with
  | true => rfl
  | false =>
    have h : ¬ (1048576 : Int) < (l.length : Int) := by simpa using hc
    obtain ⟨h1, h2⟩ := wf64 hw
    obtain ⟨⟨v1, v2⟩, e1, e2⟩ := ref_eq l (by omega) a h1 h2
    simp only [cond_false]
    rw [bindO_of e1, bindO_of e2]
    simp only []
    rw [bindO_of (eqRef_self v1)]
    simp

end Go.Eng

namespace Go.Proofs.Ytfpkjlgpjhlbbaa.fnExactRefAt
open Go.ChangeShapes Go.WideShapes Go.ChangeAt Go.RowKit Go.Eng
open Go.ChangeMaps (open_string shut_string)

theorem own : ownKnob Try.prog.godebug = none := by kernel_rfl
theorem laidOut : laidOutB Try.prog = true := by kernel_rfl

theorem walk (a0 : ByteArray) (a1 : Int) (w : World) (w0 : a0.size ≤ maxLen) (w1 : (Lit.int .i64 a1).wf = true) :
    Calls Try.prog 8 #[.string a0, .int .i64 a1] w fun e w' => e = .returned (.bool true) ∧ Below w.heap.size w w' := by
  have h := ok_l_FnExactRefAt a0.data.toList a1  true (law_RefAt a0.data.toList a1 w1)
  refine Calls.mono (h.calls w ?_) ?_
  · intro x hx
    cases hx
  · rintro e w' ⟨r, -, he, hk, -⟩
    exact ⟨he, hk.below⟩

set_option maxRecDepth 100000 in
theorem lifted (os : Os) (started : os.Started) (H : Type) (enc : TypeId × Value → H) :
    ReturnsInHanded {} Try.checked os 8 .any (Rows.fnExactRefAtSpec.pre6 enc Try.prog Try.f8 Rows.fnExactRefAtRow.domain false) (Rows.fnExactRefAtSpec.post enc Try.prog Try.f8 false true false false) := by
  refine returnsInHanded_of_change (C := Try.checked) own started (by kernel_rfl) Try.func8
    (ChangeSpec.witness6 (enc := enc) (C := Try.checked) false ⟨#[], #[.string ByteArray.empty, .int .i64 0], []⟩ 8 (by kernel_rfl) (by kernel_rfl) (by kernel_rfl) (by kernel_rfl)) ?_
  intro W base args ds gs before hval0 hW hcnd _
  have hval : ∀ (j : Nat) t v, Try.f8.params[j]? = some t → args[j]? = some v → Value.okWide Try.prog W .any base t v := hval0
  have hW' := hW
  obtain ⟨p, q, hA0, hV, rfl, hfz, hnd⟩ := hW
  have hA : DataW.TrodAll enc Try.prog W 0 (fun _ => true) true Try.f8.params.toList args.toList ds p := hA0
  rw [Try.params8] at hA hval
  obtain ⟨v0, vs0, d0, ds0, p0, q0, hargs, rfl, rfl, h0, r0⟩ := trodAll_cons hA
  obtain ⟨v1, vs1, d1, ds1, p1, q1, rfl, rfl, rfl, h1, r1⟩ := trodAll_cons r0
  obtain ⟨rfl, rfl, rfl⟩ := trodAll_nil r1
  obtain rfl : args = #[v0, v1] := by cases args; simp_all
  obtain ⟨rfl, rfl⟩ := trodVars_none hV
  obtain ⟨a0, rfl, rfl, rfl, w0⟩ := open_string Try.underlying9 (hval 0 9 v0 rfl rfl) h0
  obtain ⟨a1, rfl, rfl, rfl, w1⟩ := open_int Try.underlying3 (hval 1 3 v1 rfl rfl) h1
  clear hA0 hval0
  simp only [List.append_nil] at hW'
  refine (walk a0 a1 W w0 w1).mono fun e W' ⟨he, bel⟩ => ?_
  subst he
  exact ⟨_, rfl, _, _, _, [], _, [], hW', trodAll_mk1 (shut_bool Try.underlying4 _), (trodAll_cons_mk (shut_string Try.underlying9 w0) (trodAll_cons_mk (shut_int Try.underlying3 w1) trodAll_mk0)), rfl, bel.frame _, fun h => by cases h⟩

theorem over : Rows.fnExactRefAtRow.holds Try.pinned (OpenSpec.ofChange Rows.fnExactRefAtSpec) :=
  OpenClaim.holds_of_wide 8 Try.f8 rfl rfl rfl rfl rfl rfl rfl ⟨rfl, rfl, rfl, rfl, rfl⟩ rfl rfl rfl rfl rfl (by kernel_rfl) Try.func8 (by kernel_rfl)
    (of_decide_eq_true (by kernel_rfl)) (by unfold Func.isWrapper; first | (rw [if_pos (by decide +kernel)]; kernel_rfl) | (rw [if_neg (by decide +kernel)]; exact ⟨rfl, rfl⟩))
    (fun os started H enc _ => lifted os started H enc)

theorem proved : Rows.FnExactRefAtSaid := over
#print axioms proved
end Go.Proofs.Ytfpkjlgpjhlbbaa.fnExactRefAt
