/- FnExactShName: for every input the given law returns true and leaves its arguments as they were. No condition. -/
import Derived.Test.YtfpkjlgpjhlbbaaFnExactShNameWalkA
import Derived.Test.YtfpkjlgpjhlbbaaRows
import Derived.WalkKit
import Derived.ProofKit
import Derived.OpenShut
import Derived.ShutString
set_option linter.unusedVariables false
set_option linter.unusedSimpArgs false
namespace Go.Eng
open Go Go.Proofs

theorem fuel_eq : FUEL = 1000000000000000000000000000000 := rfl

theorem bindO_of {α β : Type} {m : Option α} {k : α → Option β} {y : α} (h : m = some y) : bindO m k = k y := by rw [h]; rfl

theorem wf64 {a : Int} (h : (Lit.int .i64 a).wf = true) : -9223372036854775808 ≤ a ∧ a ≤ 9223372036854775807 := by
  simpa [Lit.wf, IntKind.min, IntKind.max, IntKind.signed, IntKind.bits] using h


theorem callO_val {α β : Type} {g : Prop} [Decidable g] {v d : α} {k : α → Option β} : callO g (some v) d k = k (if g then v else d) := by
  unfold callO bindO; split <;> rfl

theorem isLower_eq (x : Int) : M_i_isLower x = some (decide (97 ≤ x ∧ x ≤ 122)) := by
  simp only [M_i_isLower, M_i_in, bindO]
  congr 1; rw [Bool.eq_iff_iff]; simp
theorem isUpper_eq (x : Int) : M_i_isUpper x = some (decide (65 ≤ x ∧ x ≤ 90)) := by
  simp only [M_i_isUpper, M_i_in, bindO]
  congr 1; rw [Bool.eq_iff_iff]; simp
theorem isDigit_eq (x : Int) : M_i_isDigit x = some (decide (48 ≤ x ∧ x ≤ 57)) := by
  simp only [M_i_isDigit, M_i_in, bindO]
  congr 1; rw [Bool.eq_iff_iff]; simp

theorem shname_loop (l : List UInt8) (hl : (l.length : Int) ≤ 1048576) (js ji : Unit → Option Bool) (hj : js () = ji ()) (hj' : ∃ v, ji () = some v) : ∀ (m : Nat) (k : Int), 0 ≤ k → k ≤ 2000000 → (l.length : Int) - k < m → 0 < m →
    ∃ v, fixF (M_s_ShName_L1 l js) m k = some v ∧ fixF (M_i_ShName_L1 l ji) m k = some v := by
  intro m
  induction m with
  | zero => intro k _ _ h h'; omega
  | succ m ih =>
    intro k hk hk' hm _
    simp only [fixF, M_s_ShName_L1, M_i_ShName_L1, isLower_eq, isUpper_eq, isDigit_eq, callO_val, guardO]
    by_cases h1 : k < (l.length : Int)
    · simp only [h1, hk, decide_true, cond_true, if_true, and_self, implies_true, bindO]
      rw [W_eq (by omega) (by omega)]
      generalize ((at' l k).toNat : Int) = b
      obtain ⟨v, h2, h3⟩ := ih (k + 1) (by omega) (by omega) (by omega) (by omega)
      rw [h2, h3]
      by_cases p1 : 97 ≤ b <;> by_cases p2 : b ≤ 122 <;> by_cases p3 : 65 ≤ b <;> by_cases p4 : b ≤ 90 <;> by_cases p5 : b = 95 <;> by_cases p6 : 48 ≤ b <;> by_cases p7 : b ≤ 57 <;> by_cases p8 : k = 0 <;>
        first | (exfalso; omega) | simp [p1, p2, p3, p4, p5, p6, p7, p8]
    · simp only [h1, decide_false, cond_false]
      obtain ⟨v, hv⟩ := hj'
      exact ⟨v, by rw [hj, hv], hv⟩

theorem law_ShName (l : List UInt8) : M_l_FnExactShName l = some true := by
  simp only [M_l_FnExactShName, Bool.cond_decide]
  split
  · rfl
  · rename_i h
    obtain ⟨v, h1, h2⟩ := shname_loop l (by omega) (fun _ => some (decide (0 < (l.length : Int)))) (fun _ => some (!(decide (l = [])))) (by cases l <;> simp) ⟨_, rfl⟩ FUEL 0 (by omega) (by omega) (by rw [fuel_eq]; omega) (by rw [fuel_eq]; omega)
    have e1 : M_s_ShName l = some v := h1
    have e2 : M_i_ShName l = some v := h2
    rw [bindO_of e1, bindO_of e2]
    simp

end Go.Eng

namespace Go.Proofs.Ytfpkjlgpjhlbbaa.fnExactShName
open Go.ChangeShapes Go.WideShapes Go.ChangeAt Go.RowKit Go.Eng
open Go.ChangeMaps (open_string shut_string)

theorem own : ownKnob Try.prog.godebug = none := by kernel_rfl
theorem laidOut : laidOutB Try.prog = true := by kernel_rfl

theorem walk (a0 : ByteArray) (w : World) (w0 : a0.size ≤ maxLen) :
    Calls Try.prog 3 #[.string a0] w fun e w' => e = .returned (.bool true) ∧ Below w.heap.size w w' := by
  have h := ok_l_FnExactShName a0.data.toList  true (law_ShName a0.data.toList )
  refine Calls.mono (h.calls w ?_) ?_
  · intro x hx
    cases hx
  · rintro e w' ⟨r, -, he, hk, -⟩
    exact ⟨he, hk.below⟩

set_option maxRecDepth 100000 in
theorem lifted (os : Os) (started : os.Started) (H : Type) (enc : TypeId × Value → H) :
    ReturnsInHanded {} Try.checked os 3 .any (Rows.fnExactShNameSpec.pre6 enc Try.prog Try.f3 Rows.fnExactShNameRow.domain false) (Rows.fnExactShNameSpec.post enc Try.prog Try.f3 false true false false) := by
  refine returnsInHanded_of_change (C := Try.checked) own started (by kernel_rfl) Try.func3
    (ChangeSpec.witness6 (enc := enc) (C := Try.checked) false ⟨#[], #[.string ByteArray.empty], []⟩ 8 (by kernel_rfl) (by kernel_rfl) (by kernel_rfl) (by kernel_rfl)) ?_
  intro W base args ds gs before hval0 hW hcnd _
  have hval : ∀ (j : Nat) t v, Try.f3.params[j]? = some t → args[j]? = some v → Value.okWide Try.prog W .any base t v := hval0
  have hW' := hW
  obtain ⟨p, q, hA0, hV, rfl, hfz, hnd⟩ := hW
  have hA : DataW.TrodAll enc Try.prog W 0 (fun _ => true) true Try.f3.params.toList args.toList ds p := hA0
  rw [Try.params3] at hA hval
  obtain ⟨v0, vs0, d0, ds0, p0, q0, hargs, rfl, rfl, h0, r0⟩ := trodAll_cons hA
  obtain ⟨rfl, rfl, rfl⟩ := trodAll_nil r0
  obtain rfl : args = #[v0] := by cases args; simp_all
  obtain ⟨rfl, rfl⟩ := trodVars_none hV
  obtain ⟨a0, rfl, rfl, rfl, w0⟩ := open_string Try.underlying9 (hval 0 9 v0 rfl rfl) h0
  clear hA0 hval0
  simp only [List.append_nil] at hW'
  refine (walk a0 W w0).mono fun e W' ⟨he, bel⟩ => ?_
  subst he
  exact ⟨_, rfl, _, _, _, [], _, [], hW', trodAll_mk1 (shut_bool Try.underlying4 _), (trodAll_cons_mk (shut_string Try.underlying9 w0) trodAll_mk0), rfl, bel.frame _, fun h => by cases h⟩

theorem over : Rows.fnExactShNameRow.holds Try.pinned (OpenSpec.ofChange Rows.fnExactShNameSpec) :=
  OpenClaim.holds_of_wide 3 Try.f3 rfl rfl rfl rfl rfl rfl rfl ⟨rfl, rfl, rfl, rfl, rfl⟩ rfl rfl rfl rfl rfl (by kernel_rfl) Try.func3 (by kernel_rfl)
    (of_decide_eq_true (by kernel_rfl)) (by unfold Func.isWrapper; first | (rw [if_pos (by decide +kernel)]; kernel_rfl) | (rw [if_neg (by decide +kernel)]; exact ⟨rfl, rfl⟩))
    (fun os started H enc _ => lifted os started H enc)

theorem proved : Rows.FnExactShNameSaid := over
#print axioms proved
end Go.Proofs.Ytfpkjlgpjhlbbaa.fnExactShName
