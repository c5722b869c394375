/- FnExactEdNew: for every input the given law returns true and leaves its arguments as they were. No condition. -/
import Derived.Test.YtamjkgjmefknkaaFnExactEdNewWalkA
import Derived.Test.YtamjkgjmefknkaaRows
import Derived.WalkKit
import Derived.ProofKit
import Derived.OpenShut
import Derived.ShutString
set_option linter.unusedVariables false
set_option linter.unusedSimpArgs false
namespace Go.Eng
open Go Go.Proofs


theorem bindO_of {α β : Type} {m : Option α} {k : α → Option β} {y : α} (h : m = some y) : bindO m k = k y := by rw [h]; rfl

theorem wf64 {a : Int} (h : (Lit.int .i64 a).wf = true) : -9223372036854775808 ≤ a ∧ a ≤ 9223372036854775807 := by
  simpa [Lit.wf, IntKind.min, IntKind.max, IntKind.signed, IntKind.bits] using h


theorem law_EdNew (vi : Bool) : M_l_FnExactEdNew vi = some true := by
  obtain ⟨m, hm⟩ : ∃ m, FUEL = m + 1 := ⟨FUEL - 1, by rw [fuel_eq]⟩
  have a1 : M_l_eqIntS [] [] = some true := by simp [M_l_eqIntS, hm, fixF, M_l_eqIntS_L1, joinO]
  have a2 : M_l_eqLine ([], 0) ([], 0) = some true := by simp [M_l_eqLine, a1, bindO]
  have a3 : M_l_eqRing [] [] = some true := by simp [M_l_eqRing, M_l_eqPieceS, hm, fixF, M_l_eqPieceS_L1, joinO, bindO]
  have a4 : M_l_eqUndo [] [] = some true := by simp [M_l_eqUndo, M_l_eqLineS, hm, fixF, M_l_eqLineS_L1, joinO, bindO]
  have b1 : M_l_markIntS [] 1 = some (1, []) := by simp [M_l_markIntS, hm, fixF, M_l_markIntS_L1, joinO]
  have b2 : M_l_markLine ([], 0) 1 = some (1, []) := by simp [M_l_markLine, b1, bindO]
  have b3 : M_l_markRing [] 1 = some 1 := by simp [M_l_markRing, M_l_markPieceS, hm, fixF, M_l_markPieceS_L1, joinO, bindO]
  have b4 : M_l_markUndo [] 1 = some 1 := by simp [M_l_markUndo, M_l_markLineS, hm, fixF, M_l_markLineS_L1, joinO, bindO]
  have c1 : M_l_heldIntS [] 1 = some 1 := by simp [M_l_heldIntS, hm, fixF, M_l_heldIntS_L1, joinO]
  have c2 : M_l_heldLine ([], 0) 1 = some 1 := by simp [M_l_heldLine, c1, bindO]
  have c3 : M_l_heldRing [] 1 = some 1 := by simp [M_l_heldRing, M_l_heldPieceS, hm, fixF, M_l_heldPieceS_L1, joinO, bindO]
  have c4 : M_l_heldUndo [] 1 = some 1 := by simp [M_l_heldUndo, M_l_heldLineS, hm, fixF, M_l_heldLineS_L1, joinO, bindO]
  cases vi <;> simp [M_l_FnExactEdNew, M_s_EdNew, M_i_EdNew, bindO, M_l_eqEd, a1, a2, a3, a4, M_l_markEd, b1, b2, b3, b4, M_l_heldEd, c1, c2, c3, c4]

end Go.Eng

namespace Go.Proofs.Ytamjkgjmefknkaa.fnExactEdNew
open Go.ChangeShapes Go.WideShapes Go.ChangeAt Go.RowKit Go.Eng
open Go.ChangeMaps (open_string shut_string)

theorem own : ownKnob Try.prog.godebug = none := by kernel_rfl
theorem laidOut : laidOutB Try.prog = true := by kernel_rfl

theorem walk (a0 : Bool) (w : World)  :
    Calls Try.prog 6 #[.bool a0] w fun e w' => e = .returned (.bool true) ∧ Below w.heap.size w w' := by
  have h := ok_l_FnExactEdNew a0  true (law_EdNew a0 )
  refine Calls.mono (h.calls w ?_) ?_
  · intro x hx
    cases hx
  · rintro e w' ⟨r, -, he, hk, -⟩
    exact ⟨he, hk.below⟩

set_option maxRecDepth 100000 in
theorem lifted (os : Os) (started : os.Started) (H : Type) (enc : TypeId × Value → H) :
    ReturnsInHanded {} Try.checked os 6 .any (Rows.fnExactEdNewSpec.pre6 enc Try.prog Try.f6 Rows.fnExactEdNewRow.domain false) (Rows.fnExactEdNewSpec.post enc Try.prog Try.f6 false true false false) := by
  refine returnsInHanded_of_change (C := Try.checked) own started (by kernel_rfl) Try.func6
    (ChangeSpec.witness6 (enc := enc) (C := Try.checked) false ⟨#[], #[.bool false], []⟩ 8 (by kernel_rfl) (by kernel_rfl) (by kernel_rfl) (by kernel_rfl)) ?_
  intro W base args ds gs before hval0 hW hcnd _
  have hval : ∀ (j : Nat) t v, Try.f6.params[j]? = some t → args[j]? = some v → Value.okWide Try.prog W .any base t v := hval0
  have hW' := hW
  obtain ⟨p, q, hA0, hV, rfl, hfz, hnd⟩ := hW
  have hA : DataW.TrodAll enc Try.prog W 0 (fun _ => true) true Try.f6.params.toList args.toList ds p := hA0
  rw [Try.params6] at hA hval
  obtain ⟨v0, vs0, d0, ds0, p0, q0, hargs, rfl, rfl, h0, r0⟩ := trodAll_cons hA
  obtain ⟨rfl, rfl, rfl⟩ := trodAll_nil r0
  obtain rfl : args = #[v0] := by cases args; simp_all
  obtain ⟨rfl, rfl⟩ := trodVars_none hV
  obtain ⟨a0, rfl, rfl, rfl⟩ := open_bool Try.underlying4 (hval 0 4 v0 rfl rfl) h0
  clear hA0 hval0
  simp only [List.append_nil] at hW'
  refine (walk a0 W ).mono fun e W' ⟨he, bel⟩ => ?_
  subst he
  exact ⟨_, rfl, _, _, _, [], _, [], hW', trodAll_mk1 (shut_bool Try.underlying4 _), (trodAll_cons_mk (shut_bool Try.underlying4 _) trodAll_mk0), rfl, bel.frame _, fun h => by cases h⟩

theorem over : Rows.fnExactEdNewRow.holds Try.pinned (OpenSpec.ofChange Rows.fnExactEdNewSpec) :=
  OpenClaim.holds_of_wide 6 Try.f6 rfl rfl rfl rfl rfl rfl rfl ⟨rfl, rfl, rfl, rfl, rfl⟩ rfl rfl rfl rfl rfl (by kernel_rfl) Try.func6 (by kernel_rfl)
    (of_decide_eq_true (by kernel_rfl)) (by unfold Func.isWrapper; first | (rw [if_pos (by decide +kernel)]; kernel_rfl) | (rw [if_neg (by decide +kernel)]; exact ⟨rfl, rfl⟩))
    (fun os started H enc _ => lifted os started H enc)

theorem proved : Rows.FnExactEdNewSaid := over
#print axioms proved
end Go.Proofs.Ytamjkgjmefknkaa.fnExactEdNew
