/- FnExactSkipSingle: for every input the given law returns true and leaves its arguments as they were. No condition. -/
import Derived.Test.YtfpkjlgpjhlbbaaFnExactSkipSingleWalkA
import Derived.Test.YtfpkjlgpjhlbbaaRows
import Derived.WalkKit
import Derived.ProofKit
import Derived.OpenShut
import Derived.ShutString
set_option linter.unusedVariables false
set_option linter.unusedSimpArgs false
namespace Go.Eng
open Go Go.Proofs

theorem fuel_eq : FUEL = 1000000000000000000000000000000 := rfl

theorem bindO_of {α β : Type} {m : Option α} {k : α → Option β} {y : α} (h : m = some y) : bindO m k = k y := by rw [h]; rfl

theorem wf64 {a : Int} (h : (Lit.int .i64 a).wf = true) : -9223372036854775808 ≤ a ∧ a ≤ 9223372036854775807 := by
  simpa [Lit.wf, IntKind.min, IntKind.max, IntKind.signed, IntKind.bits] using h


theorem clamp_eq (a n : Int) (hn : 0 ≤ n) : M_s_l08Clamp a n = some (max 0 (min a n)) := by
  simp only [M_s_l08Clamp, Bool.cond_decide]
  split
  · congr 1; omega
  · split <;> (congr 1; omega)


theorem drop_at {α : Type} [Inhabited α] {l : List α} {k : Int} (h0 : 0 ≤ k) (h : k < (l.length : Int)) : l.drop k.toNat = at' l k :: l.drop (k + 1).toNat := by
  have hlt : k.toNat < l.length := by omega
  rw [List.drop_eq_getElem_cons hlt]
  have : (k + 1).toNat = k.toNat + 1 := by omega
  rw [this]
  congr 1
  simp [at', List.getD_eq_getElem?_getD, hlt]

theorem sub_all {α : Type} {l : List α} {k : Int} (h0 : 0 ≤ k) : sub' l k (l.length : Int) = l.drop k.toNat := by
  unfold sub'
  rw [List.take_of_length_le]
  simp

theorem byte_eq {b : UInt8} {n : Nat} (hn : n < 256) : ((b.toNat : Int) = n) ↔ b = UInt8.ofNat n := by
  constructor
  · intro h; apply UInt8.toNat_inj.1; simp; omega
  · intro h; rw [h]; simp; omega


theorem single_loop (l : List UInt8) (hl : (l.length : Int) ≤ 1048576) (js : Unit → Option Int) : ∀ (m : Nat) (k : Int), 0 ≤ k → k ≤ 2000000 → (l.length : Int) - k < m → 0 < m →
    fixF (M_s_SkipSingle_L1 l js) m k = if Lib.indexByte (l.drop k.toNat) 39 < 0 then js () else some (k + Lib.indexByte (l.drop k.toNat) 39 + 1) := by
  intro m
  induction m with
  | zero => intro k _ _ h h'; omega
  | succ m ih =>
    intro k hk hk' hm _
    simp only [fixF, M_s_SkipSingle_L1, guardO, Bool.cond_decide]
    by_cases h1 : k < (l.length : Int)
    · simp only [h1, hk, if_true, and_self]
      rw [W_eq (by omega) (by omega), drop_at hk h1, Lib.indexByte]
      by_cases h2 : ((at' l k).toNat : Int) = 39
      · have h3 := (byte_eq (n := 39) (by omega)).1 h2
        have h4 : (at' l k == 39) = true := by rw [h3]; rfl
        simp [h2, h4]
      · have h4 : (at' l k == 39) = false := by
          simp only [beq_eq_false_iff_ne, ne_eq]
          intro he
          exact h2 ((byte_eq (n := 39) (by omega)).2 he)
        simp only [h2, h4, if_false, Bool.false_eq_true]
        rw [ih (k + 1) (by omega) (by omega) (by omega) (by omega)]
        have hge := Lib.indexByte_ge (l.drop (k + 1).toNat) 39
        generalize Lib.indexByte (l.drop (k + 1).toNat) 39 = p at *
        by_cases h5 : p = -1
        · subst h5; simp
        · have : (p == -1) = false := by simpa using h5
          simp only [this, if_false, Bool.false_eq_true]
          rw [if_neg (by omega), if_neg (by omega)]
          congr 1; omega
    · simp only [h1, if_false]
      rw [List.drop_eq_nil_of_le (by omega)]
      simp [Lib.indexByte]

theorem indexByte_lt (l : List UInt8) (c : UInt8) : Lib.indexByte l c ≤ l.length := by
  induction l with
  | nil => simp [Lib.indexByte]
  | cons b l ih =>
    unfold Lib.indexByte
    simp only [List.length_cons]
    split
    · omega
    · split <;> omega

theorem law_SkipSingle (l : List UInt8) (a : Int) (hw : (Lit.int .i64 a).wf = true) : M_l_FnExactSkipSingle l a = some true := by
  simp only [M_l_FnExactSkipSingle, Bool.cond_decide]
  split
  · rfl
  · rename_i h
    have h0 : (0:Int) ≤ max 0 (min a l.length) := by omega
    have h1 : max 0 (min a l.length) ≤ (l.length : Int) := by omega
    have e1 : M_s_SkipSingle l a = some (if Lib.indexByte (l.drop (max 0 (min a l.length)).toNat) 39 < 0 then -1 else max 0 (min a l.length) + Lib.indexByte (l.drop (max 0 (min a l.length)).toNat) 39 + 1) := by
      unfold M_s_SkipSingle
      rw [clamp_eq _ _ (by omega)]
      simp only [bindO, joinO]
      rw [single_loop l (by omega) _ FUEL _ h0 (by omega) (by rw [fuel_eq]; omega) (by rw [fuel_eq]; omega)]
      split <;> rfl
    have hx := indexByte_lt (l.drop (max 0 (min a l.length)).toNat) 39
    have hy := Lib.indexByte_ge (l.drop (max 0 (min a l.length)).toNat) 39
    simp only [List.length_drop] at hx
    have e2 : M_i_SkipSingle l a = some (if Lib.indexByte (l.drop (max 0 (min a l.length)).toNat) 39 < 0 then -1 else max 0 (min a l.length) + Lib.indexByte (l.drop (max 0 (min a l.length)).toNat) 39 + 1) := by
      unfold M_i_SkipSingle M_i_within M_strings_IndexByte
      simp only [bindO, guardO]
      rw [if_pos ⟨h0, h1, Int.le_refl _⟩, sub_all h0]
      generalize Lib.indexByte (l.drop (max 0 (min a l.length)).toNat) 39 = p at *
      simp only [Bool.cond_decide]
      split
      · rfl
      · rw [W_eq (x := max 0 (min a l.length) + p) (by omega) (by omega), W_eq (by omega) (by omega)]
    rw [bindO_of e1, bindO_of e2]
    simp

end Go.Eng

namespace Go.Proofs.Ytfpkjlgpjhlbbaa.fnExactSkipSingle
open Go.ChangeShapes Go.WideShapes Go.ChangeAt Go.RowKit Go.Eng
open Go.ChangeMaps (open_string shut_string)

theorem own : ownKnob Try.prog.godebug = none := by kernel_rfl
theorem laidOut : laidOutB Try.prog = true := by kernel_rfl

theorem walk (a0 : ByteArray) (a1 : Int) (w : World) (w0 : a0.size ≤ maxLen) (w1 : (Lit.int .i64 a1).wf = true) :
    Calls Try.prog 6 #[.string a0, .int .i64 a1] w fun e w' => e = .returned (.bool true) ∧ Below w.heap.size w w' := by
  have h := ok_l_FnExactSkipSingle a0.data.toList a1  true (law_SkipSingle a0.data.toList a1 w1)
  refine Calls.mono (h.calls w ?_) ?_
  · intro x hx
    cases hx
  · rintro e w' ⟨r, -, he, hk, -⟩
    exact ⟨he, hk.below⟩

set_option maxRecDepth 100000 in
theorem lifted (os : Os) (started : os.Started) (H : Type) (enc : TypeId × Value → H) :
    ReturnsInHanded {} Try.checked os 6 .any (Rows.fnExactSkipSingleSpec.pre6 enc Try.prog Try.f6 Rows.fnExactSkipSingleRow.domain false) (Rows.fnExactSkipSingleSpec.post enc Try.prog Try.f6 false true false false) := by
  refine returnsInHanded_of_change (C := Try.checked) own started (by kernel_rfl) Try.func6
    (ChangeSpec.witness6 (enc := enc) (C := Try.checked) false ⟨#[], #[.string ByteArray.empty, .int .i64 0], []⟩ 8 (by kernel_rfl) (by kernel_rfl) (by kernel_rfl) (by kernel_rfl)) ?_
  intro W base args ds gs before hval0 hW hcnd _
  have hval : ∀ (j : Nat) t v, Try.f6.params[j]? = some t → args[j]? = some v → Value.okWide Try.prog W .any base t v := hval0
  have hW' := hW
  obtain ⟨p, q, hA0, hV, rfl, hfz, hnd⟩ := hW
  have hA : DataW.TrodAll enc Try.prog W 0 (fun _ => true) true Try.f6.params.toList args.toList ds p := hA0
  rw [Try.params6] at hA hval
  obtain ⟨v0, vs0, d0, ds0, p0, q0, hargs, rfl, rfl, h0, r0⟩ := trodAll_cons hA
  obtain ⟨v1, vs1, d1, ds1, p1, q1, rfl, rfl, rfl, h1, r1⟩ := trodAll_cons r0
  obtain ⟨rfl, rfl, rfl⟩ := trodAll_nil r1
  obtain rfl : args = #[v0, v1] := by cases args; simp_all
  obtain ⟨rfl, rfl⟩ := trodVars_none hV
  obtain ⟨a0, rfl, rfl, rfl, w0⟩ := open_string Try.underlying9 (hval 0 9 v0 rfl rfl) h0
  obtain ⟨a1, rfl, rfl, rfl, w1⟩ := open_int Try.underlying3 (hval 1 3 v1 rfl rfl) h1
  clear hA0 hval0
  simp only [List.append_nil] at hW'
  refine (walk a0 a1 W w0 w1).mono fun e W' ⟨he, bel⟩ => ?_
  subst he
  exact ⟨_, rfl, _, _, _, [], _, [], hW', trodAll_mk1 (shut_bool Try.underlying4 _), (trodAll_cons_mk (shut_string Try.underlying9 w0) (trodAll_cons_mk (shut_int Try.underlying3 w1) trodAll_mk0)), rfl, bel.frame _, fun h => by cases h⟩

theorem over : Rows.fnExactSkipSingleRow.holds Try.pinned (OpenSpec.ofChange Rows.fnExactSkipSingleSpec) :=
  OpenClaim.holds_of_wide 6 Try.f6 rfl rfl rfl rfl rfl rfl rfl ⟨rfl, rfl, rfl, rfl, rfl⟩ rfl rfl rfl rfl rfl (by kernel_rfl) Try.func6 (by kernel_rfl)
    (of_decide_eq_true (by kernel_rfl)) (by unfold Func.isWrapper; first | (rw [if_pos (by decide +kernel)]; kernel_rfl) | (rw [if_neg (by decide +kernel)]; exact ⟨rfl, rfl⟩))
    (fun os started H enc _ => lifted os started H enc)

theorem proved : Rows.FnExactSkipSingleSaid := over
#print axioms proved
end Go.Proofs.Ytfpkjlgpjhlbbaa.fnExactSkipSingle
