/- FnExactSkipTick: for every input the given law returns true and leaves its arguments as they were. No condition. -/
import Derived.Test.YtfpkjlgpjhlbbaaFnExactSkipTickWalkA
import Derived.Test.YtfpkjlgpjhlbbaaRows
import Derived.WalkKit
import Derived.ProofKit
import Derived.OpenShut
import Derived.ShutString
set_option linter.unusedVariables false
set_option linter.unusedSimpArgs false
namespace Go.Eng
open Go Go.Proofs

theorem fuel_eq : FUEL = 1000000000000000000000000000000 := rfl

theorem bindO_of {α β : Type} {m : Option α} {k : α → Option β} {y : α} (h : m = some y) : bindO m k = k y := by rw [h]; rfl

theorem wf64 {a : Int} (h : (Lit.int .i64 a).wf = true) : -9223372036854775808 ≤ a ∧ a ≤ 9223372036854775807 := by
  simpa [Lit.wf, IntKind.min, IntKind.max, IntKind.signed, IntKind.bits] using h


theorem clamp_eq (a n : Int) (hn : 0 ≤ n) : M_s_l08Clamp a n = some (max 0 (min a n)) := by
  simp only [M_s_l08Clamp, Bool.cond_decide]
  split
  · congr 1; omega
  · split <;> (congr 1; omega)


theorem tick_loop (l : List UInt8) (hl : (l.length : Int) ≤ 1048576) (js ji : Unit → Option Int) (hj : js () = ji ()) (hj' : ∃ v, ji () = some v) : ∀ (m : Nat) (k : Int), 0 ≤ k → k ≤ 2000000 → (l.length : Int) - k < m → 0 < m →
    ∃ v, fixF (M_s_SkipTick_L1 l js) m k = some v ∧ fixF (M_i_SkipTick_L1 l ji) m k = some v := by
  intro m
  induction m with
  | zero => intro k _ _ h h'; omega
  | succ m ih =>
    intro k hk hk' hm _
    simp only [fixF, M_s_SkipTick_L1, M_i_SkipTick_L1, joinO, guardO, Bool.cond_decide]
    by_cases h1 : k < (l.length : Int)
    · simp only [h1, hk, if_true, and_self, true_and]
      rw [W_eq (by omega) (by omega)]
      by_cases h2 : ((at' l k).toNat : Int) = 96
      · have h3 : ¬ ((at' l k).toNat : Int) = 92 := by omega
        simp [h2]
      · by_cases h3 : ((at' l k).toNat : Int) = 92
        · simp only [h3, if_true]
          rw [W_eq (by omega) (by omega)]
          simpa using ih (k + 1 + 1) (by omega) (by omega) (by omega) (by omega)
        · simp only [h2, h3, if_false]
          exact ih (k + 1) (by omega) (by omega) (by omega) (by omega)
    · simp only [h1, if_false]
      obtain ⟨v, hv⟩ := hj'
      exact ⟨v, by rw [hj, hv], hv⟩

theorem law_SkipTick (l : List UInt8) (at' : Int) (hw : (Lit.int .i64 at').wf = true) : M_l_FnExactSkipTick l at' = some true := by
  simp only [M_l_FnExactSkipTick, Bool.cond_decide]
  split
  · rfl
  · rename_i h
    obtain ⟨v, h1, h2⟩ := tick_loop l (by omega) (fun _ => some (-1)) (fun _ => some (-1)) rfl ⟨_, rfl⟩ FUEL (max 0 (min at' l.length)) (by omega) (by omega) (by rw [fuel_eq]; omega) (by rw [fuel_eq]; omega)
    have e1 : M_s_SkipTick l at' = some v := by
      unfold M_s_SkipTick
      rw [clamp_eq _ _ (by omega)]
      exact h1
    have e2 : M_i_SkipTick l at' = some v := by
      unfold M_i_SkipTick M_i_within
      exact h2
    rw [bindO_of e1, bindO_of e2]
    simp

end Go.Eng

namespace Go.Proofs.Ytfpkjlgpjhlbbaa.fnExactSkipTick
open Go.ChangeShapes Go.WideShapes Go.ChangeAt Go.RowKit Go.Eng
open Go.ChangeMaps (open_string shut_string)

theorem own : ownKnob Try.prog.godebug = none := by kernel_rfl
theorem laidOut : laidOutB Try.prog = true := by kernel_rfl

theorem walk (a0 : ByteArray) (a1 : Int) (w : World) (w0 : a0.size ≤ maxLen) (w1 : (Lit.int .i64 a1).wf = true) :
    Calls Try.prog 5 #[.string a0, .int .i64 a1] w fun e w' => e = .returned (.bool true) ∧ Below w.heap.size w w' := by
  have h := ok_l_FnExactSkipTick a0.data.toList a1  true (law_SkipTick a0.data.toList a1 w1)
  refine Calls.mono (h.calls w ?_) ?_
  · intro x hx
    cases hx
  · rintro e w' ⟨r, -, he, hk, -⟩
    exact ⟨he, hk.below⟩

set_option maxRecDepth 100000 in
theorem lifted (os : Os) (started : os.Started) (H : Type) (enc : TypeId × Value → H) :
    ReturnsInHanded {} Try.checked os 5 .any (Rows.fnExactSkipTickSpec.pre6 enc Try.prog Try.f5 Rows.fnExactSkipTickRow.domain false) (Rows.fnExactSkipTickSpec.post enc Try.prog Try.f5 false true false false) := by
  refine returnsInHanded_of_change (C := Try.checked) own started (by kernel_rfl) Try.func5
    (ChangeSpec.witness6 (enc := enc) (C := Try.checked) false ⟨#[], #[.string ByteArray.empty, .int .i64 0], []⟩ 8 (by kernel_rfl) (by kernel_rfl) (by kernel_rfl) (by kernel_rfl)) ?_
  intro W base args ds gs before hval0 hW hcnd _
  have hval : ∀ (j : Nat) t v, Try.f5.params[j]? = some t → args[j]? = some v → Value.okWide Try.prog W .any base t v := hval0
  have hW' := hW
  obtain ⟨p, q, hA0, hV, rfl, hfz, hnd⟩ := hW
  have hA : DataW.TrodAll enc Try.prog W 0 (fun _ => true) true Try.f5.params.toList args.toList ds p := hA0
  rw [Try.params5] at hA hval
  obtain ⟨v0, vs0, d0, ds0, p0, q0, hargs, rfl, rfl, h0, r0⟩ := trodAll_cons hA
  obtain ⟨v1, vs1, d1, ds1, p1, q1, rfl, rfl, rfl, h1, r1⟩ := trodAll_cons r0
  obtain ⟨rfl, rfl, rfl⟩ := trodAll_nil r1
  obtain rfl : args = #[v0, v1] := by cases args; simp_all
  obtain ⟨rfl, rfl⟩ := trodVars_none hV
  obtain ⟨a0, rfl, rfl, rfl, w0⟩ := open_string Try.underlying9 (hval 0 9 v0 rfl rfl) h0
  obtain ⟨a1, rfl, rfl, rfl, w1⟩ := open_int Try.underlying3 (hval 1 3 v1 rfl rfl) h1
  clear hA0 hval0
  simp only [List.append_nil] at hW'
  refine (walk a0 a1 W w0 w1).mono fun e W' ⟨he, bel⟩ => ?_
  subst he
  exact ⟨_, rfl, _, _, _, [], _, [], hW', trodAll_mk1 (shut_bool Try.underlying4 _), (trodAll_cons_mk (shut_string Try.underlying9 w0) (trodAll_cons_mk (shut_int Try.underlying3 w1) trodAll_mk0)), rfl, bel.frame _, fun h => by cases h⟩

theorem over : Rows.fnExactSkipTickRow.holds Try.pinned (OpenSpec.ofChange Rows.fnExactSkipTickSpec) :=
  OpenClaim.holds_of_wide 5 Try.f5 rfl rfl rfl rfl rfl rfl rfl ⟨rfl, rfl, rfl, rfl, rfl⟩ rfl rfl rfl rfl rfl (by kernel_rfl) Try.func5 (by kernel_rfl)
    (of_decide_eq_true (by kernel_rfl)) (by unfold Func.isWrapper; first | (rw [if_pos (by decide +kernel)]; kernel_rfl) | (rw [if_neg (by decide +kernel)]; exact ⟨rfl, rfl⟩))
    (fun os started H enc _ => lifted os started H enc)

theorem proved : Rows.FnExactSkipTickSaid := over
#print axioms proved
end Go.Proofs.Ytfpkjlgpjhlbbaa.fnExactSkipTick
