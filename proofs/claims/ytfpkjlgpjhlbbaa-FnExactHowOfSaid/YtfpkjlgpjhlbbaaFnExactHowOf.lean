/- FnExactHowOf: for every input the given law returns true and leaves its arguments as they were. No condition. -/
import Derived.Test.YtfpkjlgpjhlbbaaFnExactHowOfWalkA
import Derived.Test.YtfpkjlgpjhlbbaaRows
import Derived.WalkKit
import Derived.ProofKit
import Derived.OpenShut
import Derived.ShutString
set_option linter.unusedVariables false
set_option linter.unusedSimpArgs false
namespace Go.Eng
open Go Go.Proofs

theorem fuel_eq : FUEL = 1000000000000000000000000000000 := rfl

theorem bindO_of {α β : Type} {m : Option α} {k : α → Option β} {y : α} (h : m = some y) : bindO m k = k y := by rw [h]; rfl

theorem wf64 {a : Int} (h : (Lit.int .i64 a).wf = true) : -9223372036854775808 ≤ a ∧ a ≤ 9223372036854775807 := by
  simpa [Lit.wf, IntKind.min, IntKind.max, IntKind.signed, IntKind.bits] using h


theorem law_HowOf (a : Int) (hw : (Lit.int .i64 a).wf = true) : M_l_FnExactHowOf a = some true := by
  have e : M_s_HowOf a = M_i_HowOf a := rfl
  obtain ⟨v, hv⟩ : ∃ v, M_i_HowOf a = some v := by
    simp only [M_i_HowOf, Bool.cond_decide]
    repeat' split
    all_goals exact ⟨_, rfl⟩
  unfold M_l_FnExactHowOf
  rw [e, bindO_of hv, bindO_of hv]
  simp

end Go.Eng

namespace Go.Proofs.Ytfpkjlgpjhlbbaa.fnExactHowOf
open Go.ChangeShapes Go.WideShapes Go.ChangeAt Go.RowKit Go.Eng
open Go.ChangeMaps (open_string shut_string)

theorem own : ownKnob Try.prog.godebug = none := by kernel_rfl
theorem laidOut : laidOutB Try.prog = true := by kernel_rfl

theorem walk (a0 : Int) (w : World) (w0 : (Lit.int .i64 a0).wf = true) :
    Calls Try.prog 4 #[.int .i64 a0] w fun e w' => e = .returned (.bool true) ∧ Below w.heap.size w w' := by
  have h := ok_l_FnExactHowOf a0  true (law_HowOf a0 w0)
  refine Calls.mono (h.calls w ?_) ?_
  · intro x hx
    cases hx
  · rintro e w' ⟨r, -, he, hk, -⟩
    exact ⟨he, hk.below⟩

set_option maxRecDepth 100000 in
theorem lifted (os : Os) (started : os.Started) (H : Type) (enc : TypeId × Value → H) :
    ReturnsInHanded {} Try.checked os 4 .any (Rows.fnExactHowOfSpec.pre6 enc Try.prog Try.f4 Rows.fnExactHowOfRow.domain false) (Rows.fnExactHowOfSpec.post enc Try.prog Try.f4 false true false false) := by
  refine returnsInHanded_of_change (C := Try.checked) own started (by kernel_rfl) Try.func4
    (ChangeSpec.witness6 (enc := enc) (C := Try.checked) false ⟨#[], #[.int .i64 0], []⟩ 8 (by kernel_rfl) (by kernel_rfl) (by kernel_rfl) (by kernel_rfl)) ?_
  intro W base args ds gs before hval0 hW hcnd _
  have hval : ∀ (j : Nat) t v, Try.f4.params[j]? = some t → args[j]? = some v → Value.okWide Try.prog W .any base t v := hval0
  have hW' := hW
  obtain ⟨p, q, hA0, hV, rfl, hfz, hnd⟩ := hW
  have hA : DataW.TrodAll enc Try.prog W 0 (fun _ => true) true Try.f4.params.toList args.toList ds p := hA0
  rw [Try.params4] at hA hval
  obtain ⟨v0, vs0, d0, ds0, p0, q0, hargs, rfl, rfl, h0, r0⟩ := trodAll_cons hA
  obtain ⟨rfl, rfl, rfl⟩ := trodAll_nil r0
  obtain rfl : args = #[v0] := by cases args; simp_all
  obtain ⟨rfl, rfl⟩ := trodVars_none hV
  obtain ⟨a0, rfl, rfl, rfl, w0⟩ := open_int Try.underlying3 (hval 0 3 v0 rfl rfl) h0
  clear hA0 hval0
  simp only [List.append_nil] at hW'
  refine (walk a0 W w0).mono fun e W' ⟨he, bel⟩ => ?_
  subst he
  exact ⟨_, rfl, _, _, _, [], _, [], hW', trodAll_mk1 (shut_bool Try.underlying4 _), (trodAll_cons_mk (shut_int Try.underlying3 w0) trodAll_mk0), rfl, bel.frame _, fun h => by cases h⟩

theorem over : Rows.fnExactHowOfRow.holds Try.pinned (OpenSpec.ofChange Rows.fnExactHowOfSpec) :=
  OpenClaim.holds_of_wide 4 Try.f4 rfl rfl rfl rfl rfl rfl rfl ⟨rfl, rfl, rfl, rfl, rfl⟩ rfl rfl rfl rfl rfl (by kernel_rfl) Try.func4 (by kernel_rfl)
    (of_decide_eq_true (by kernel_rfl)) (by unfold Func.isWrapper; first | (rw [if_pos (by decide +kernel)]; kernel_rfl) | (rw [if_neg (by decide +kernel)]; exact ⟨rfl, rfl⟩))
    (fun os started H enc _ => lifted os started H enc)

theorem proved : Rows.FnExactHowOfSaid := over
#print axioms proved
end Go.Proofs.Ytfpkjlgpjhlbbaa.fnExactHowOf
