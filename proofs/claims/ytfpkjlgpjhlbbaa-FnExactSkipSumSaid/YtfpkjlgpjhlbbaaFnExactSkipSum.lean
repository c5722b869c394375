/- FnExactSkipSum: for every input the given law returns true and leaves its arguments as they were. No condition. -/
import Derived.Test.YtfpkjlgpjhlbbaaFnExactSkipSumWalkA
import Derived.Test.YtfpkjlgpjhlbbaaRows
import Derived.WalkKit
import Derived.ProofKit
import Derived.OpenShut
import Derived.ShutString
set_option linter.unusedVariables false
set_option linter.unusedSimpArgs false
namespace Go.Eng
open Go Go.Proofs

theorem fuel_eq : FUEL = 1000000000000000000000000000000 := rfl

theorem bindO_of {α β : Type} {m : Option α} {k : α → Option β} {y : α} (h : m = some y) : bindO m k = k y := by rw [h]; rfl

theorem wf64 {a : Int} (h : (Lit.int .i64 a).wf = true) : -9223372036854775808 ≤ a ∧ a ≤ 9223372036854775807 := by
  simpa [Lit.wf, IntKind.min, IntKind.max, IntKind.signed, IntKind.bits] using h


theorem clamp_eq (a n : Int) (hn : 0 ≤ n) : M_s_l08Clamp a n = some (max 0 (min a n)) := by
  simp only [M_s_l08Clamp, Bool.cond_decide]
  split
  · congr 1; omega
  · split <;> (congr 1; omega)


theorem sum_loop (l : List UInt8) (hl : (l.length : Int) ≤ 1048576) (js ji : Int → Option (Int × Int)) (hj : ∀ d, js d = ji d) (hj' : ∀ d, ∃ v, ji d = some v) : ∀ (m : Nat) (d k : Int), 0 ≤ d → d ≤ k → k ≤ 2000000 → (l.length : Int) - k < m → 0 < m →
    ∃ v, fixF (M_s_SkipSum_L1 l js) m (d, k) = some v ∧ fixF (M_i_SkipSum_L1 l ji) m (d, k) = some v := by
  intro m
  induction m with
  | zero => intro d k _ _ _ h h'; omega
  | succ m ih =>
    intro d k hd hdk hk' hm _
    have hk : 0 ≤ k := by omega
    simp only [fixF, M_s_SkipSum_L1, M_i_SkipSum_L1, guardO, joinO]
    by_cases h1 : k < (l.length : Int)
    · simp only [h1, hk, decide_true, cond_true, if_true, and_self]
      rw [W_eq (x := k + 1) (by omega) (by omega), W_eq (x := k + 2) (by omega) (by omega), W_eq (x := d + 1) (by omega) (by omega), W_eq (x := d - 1) (by omega) (by omega)]
      have hk1 : 0 ≤ k + 1 := by omega
      have up := fun (e : Int) (h1 : 0 ≤ e) (h2 : e ≤ k + 1) => ih e (k + 1) h1 h2 (by omega) (by omega) (by omega)
      have u0 := up d (by omega) (by omega)
      have u1 := up (d + 1) (by omega) (by omega)
      by_cases h2 : k + 1 < (l.length : Int)
      · have h3 : ¬ k + 1 = (l.length : Int) := by omega
        simp only [h2, h3, hk1, decide_true, decide_false, cond_true, cond_false, if_true, and_self, implies_true]
        generalize ((at' l k).toNat : Int) = b
        generalize ((at' l (k + 1)).toNat : Int) = n
        by_cases b1 : b = 39
        · subst b1; simp
        by_cases b2 : b = 34
        · subst b2; simp
        by_cases b3 : b = 92
        · subst b3; simp
        by_cases b4 : b = 96
        · subst b4; simp
        by_cases b5 : b = 40
        · subst b5; simpa using u1
        by_cases b6 : b = 41
        · subst b6
          by_cases hp : 0 < d
          · have u2 := up (d - 1) (by omega) (by omega)
            simpa [hp] using u2
          · by_cases n1 : n = 41 <;> simp [hp, n1]
        by_cases b7 : b = 36
        · subst b7
          by_cases n1 : n = 40
          · simp [n1]
          · by_cases n2 : n = 123
            · simp [n2]
            · simpa [n1, n2] using u0
        simpa [b1, b2, b3, b4, b5, b6, b7] using u0
      · have z0 : ((0 : UInt8).toNat : Int) = 0 := rfl
        simp only [h2, decide_false, cond_false, z0, Bool.false_eq_true, false_implies, implies_true, if_true]
        generalize ((at' l k).toNat : Int) = b
        have h3 : k + 1 = (l.length : Int) := by omega
        simp only [h3, decide_true]
        rw [← h3]
        by_cases b1 : b = 39
        · subst b1; simp
        by_cases b2 : b = 34
        · subst b2; simp
        by_cases b3 : b = 92
        · subst b3; simp
        by_cases b4 : b = 96
        · subst b4; simp
        by_cases b5 : b = 40
        · subst b5; simpa using u1
        by_cases b6 : b = 41
        · subst b6
          by_cases hp : 0 < d
          · have u2 := up (d - 1) (by omega) (by omega)
            simpa [hp] using u2
          · simp [hp]
        by_cases b7 : b = 36
        · subst b7; simpa using u0
        simpa [b1, b2, b3, b4, b5, b6, b7] using u0
    · simp only [h1, decide_false, cond_false]
      obtain ⟨v, hv⟩ := hj' d
      exact ⟨v, by rw [hj, hv], hv⟩

theorem law_SkipSum (l : List UInt8) (a : Int) (hw : (Lit.int .i64 a).wf = true) : M_l_FnExactSkipSum l a = some true := by
  simp only [M_l_FnExactSkipSum]
  cases hc : decide ((1048576 : Int) < (l.length : Int)) with
  | true => rfl
  | false =>
    have h : ¬ (1048576 : Int) < (l.length : Int) := by simpa using hc
    obtain ⟨v, h1, h2⟩ := sum_loop l (by omega) (fun d => some (-1, W (d + 2))) (fun d => some (-1, W (d + 2))) (fun _ => rfl) (fun _ => ⟨_, rfl⟩) FUEL 0 (max 0 (min a l.length)) (by omega) (by omega) (by omega) (by rw [fuel_eq]; omega) (by rw [fuel_eq]; omega)
    have e1 : M_s_SkipSum l a = some v := by
      unfold M_s_SkipSum
      rw [clamp_eq _ _ (by omega)]
      exact h1
    have e2 : M_i_SkipSum l a = some v := by
      unfold M_i_SkipSum M_i_within
      exact h2
    simp only [cond_false]
    rw [bindO_of e1, bindO_of e2]
    simp

end Go.Eng

namespace Go.Proofs.Ytfpkjlgpjhlbbaa.fnExactSkipSum
open Go.ChangeShapes Go.WideShapes Go.ChangeAt Go.RowKit Go.Eng
open Go.ChangeMaps (open_string shut_string)

theorem own : ownKnob Try.prog.godebug = none := by kernel_rfl
theorem laidOut : laidOutB Try.prog = true := by kernel_rfl

theorem walk (a0 : ByteArray) (a1 : Int) (w : World) (w0 : a0.size ≤ maxLen) (w1 : (Lit.int .i64 a1).wf = true) :
    Calls Try.prog 7 #[.string a0, .int .i64 a1] w fun e w' => e = .returned (.bool true) ∧ Below w.heap.size w w' := by
  have h := ok_l_FnExactSkipSum a0.data.toList a1  true (law_SkipSum a0.data.toList a1 w1)
  refine Calls.mono (h.calls w ?_) ?_
  · intro x hx
    cases hx
  · rintro e w' ⟨r, -, he, hk, -⟩
    exact ⟨he, hk.below⟩

set_option maxRecDepth 100000 in
theorem lifted (os : Os) (started : os.Started) (H : Type) (enc : TypeId × Value → H) :
    ReturnsInHanded {} Try.checked os 7 .any (Rows.fnExactSkipSumSpec.pre6 enc Try.prog Try.f7 Rows.fnExactSkipSumRow.domain false) (Rows.fnExactSkipSumSpec.post enc Try.prog Try.f7 false true false false) := by
  refine returnsInHanded_of_change (C := Try.checked) own started (by kernel_rfl) Try.func7
    (ChangeSpec.witness6 (enc := enc) (C := Try.checked) false ⟨#[], #[.string ByteArray.empty, .int .i64 0], []⟩ 8 (by kernel_rfl) (by kernel_rfl) (by kernel_rfl) (by kernel_rfl)) ?_
  intro W base args ds gs before hval0 hW hcnd _
  have hval : ∀ (j : Nat) t v, Try.f7.params[j]? = some t → args[j]? = some v → Value.okWide Try.prog W .any base t v := hval0
  have hW' := hW
  obtain ⟨p, q, hA0, hV, rfl, hfz, hnd⟩ := hW
  have hA : DataW.TrodAll enc Try.prog W 0 (fun _ => true) true Try.f7.params.toList args.toList ds p := hA0
  rw [Try.params7] at hA hval
  obtain ⟨v0, vs0, d0, ds0, p0, q0, hargs, rfl, rfl, h0, r0⟩ := trodAll_cons hA
  obtain ⟨v1, vs1, d1, ds1, p1, q1, rfl, rfl, rfl, h1, r1⟩ := trodAll_cons r0
  obtain ⟨rfl, rfl, rfl⟩ := trodAll_nil r1
  obtain rfl : args = #[v0, v1] := by cases args; simp_all
  obtain ⟨rfl, rfl⟩ := trodVars_none hV
  obtain ⟨a0, rfl, rfl, rfl, w0⟩ := open_string Try.underlying9 (hval 0 9 v0 rfl rfl) h0
  obtain ⟨a1, rfl, rfl, rfl, w1⟩ := open_int Try.underlying3 (hval 1 3 v1 rfl rfl) h1
  clear hA0 hval0
  simp only [List.append_nil] at hW'
  refine (walk a0 a1 W w0 w1).mono fun e W' ⟨he, bel⟩ => ?_
  subst he
  exact ⟨_, rfl, _, _, _, [], _, [], hW', trodAll_mk1 (shut_bool Try.underlying4 _), (trodAll_cons_mk (shut_string Try.underlying9 w0) (trodAll_cons_mk (shut_int Try.underlying3 w1) trodAll_mk0)), rfl, bel.frame _, fun h => by cases h⟩

theorem over : Rows.fnExactSkipSumRow.holds Try.pinned (OpenSpec.ofChange Rows.fnExactSkipSumSpec) :=
  OpenClaim.holds_of_wide 7 Try.f7 rfl rfl rfl rfl rfl rfl rfl ⟨rfl, rfl, rfl, rfl, rfl⟩ rfl rfl rfl rfl rfl (by kernel_rfl) Try.func7 (by kernel_rfl)
    (of_decide_eq_true (by kernel_rfl)) (by unfold Func.isWrapper; first | (rw [if_pos (by decide +kernel)]; kernel_rfl) | (rw [if_neg (by decide +kernel)]; exact ⟨rfl, rfl⟩))
    (fun os started H enc _ => lifted os started H enc)

theorem proved : Rows.FnExactSkipSumSaid := over
#print axioms proved
end Go.Proofs.Ytfpkjlgpjhlbbaa.fnExactSkipSum
