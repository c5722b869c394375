/- FnExactFindTo: for every input the given law returns true and leaves its arguments as they were. No condition. -/
import Derived.Test.YtfpkjlgpjhlbbaaFnExactFindToWalkA
import Derived.Test.YtfpkjlgpjhlbbaaRows
import Derived.WalkKit
import Derived.ProofKit
import Derived.OpenShut
import Derived.ShutString
set_option linter.unusedVariables false
set_option linter.unusedSimpArgs false
namespace Go.Eng
open Go Go.Proofs


theorem bindO_of {α β : Type} {m : Option α} {k : α → Option β} {y : α} (h : m = some y) : bindO m k = k y := by rw [h]; rfl

theorem wf64 {a : Int} (h : (Lit.int .i64 a).wf = true) : -9223372036854775808 ≤ a ∧ a ≤ 9223372036854775807 := by
  simpa [Lit.wf, IntKind.min, IntKind.max, IntKind.signed, IntKind.bits] using h


theorem clamp_eq (a n : Int) (hn : 0 ≤ n) : M_s_l08Clamp a n = some (max 0 (min a n)) := by
  simp only [M_s_l08Clamp, Bool.cond_decide]
  split
  · congr 1; omega
  · split <;> (congr 1; omega)


theorem at_get {α : Type} [Inhabited α] {l : List α} {k : Int} (h0 : 0 ≤ k) (h : k < (l.length : Int)) : l[k.toNat]? = some (at' l k) := at_some ⟨h0, h⟩

theorem toIntS_loop (xs : List Int) (hl : (xs.length : Int) ≤ 100000000) (j : List Int → Option (List Int)) : ∀ (m : Nat) (ys : List Int) (k : Int), 0 ≤ k → k ≤ (xs.length : Int) → ys.length = xs.length → (∀ i : Nat, (i : Int) < k → ys[i]? = xs[i]?) → (xs.length : Int) - k < m → 0 < m →
    fixF (M_l_toIntS_L1 xs j) m (ys, k) = j xs := by
  intro m
  induction m with
  | zero => intro ys k _ _ _ _ h h'; omega
  | succ m ih =>
    intro ys k hk hk' hy hyx hm _
    simp only [fixF, M_l_toIntS_L1, guardO, Bool.cond_decide]
    by_cases h1 : k < (xs.length : Int)
    · have h2 : k < (ys.length : Int) := by omega
      simp only [h1, h2, hk, if_true, and_self]
      rw [W_eq (by omega) (by omega)]
      refine ih _ _ (by omega) (by omega) (by simpa using hy) (fun i hi => ?_) (by omega) (by omega)
      rw [List.getElem?_set]
      by_cases he : k.toNat = i
      · subst he
        rw [if_pos rfl, if_pos (by omega), at_get hk h1]
      · rw [if_neg he]
        exact hyx i (by omega)
    · simp only [h1, if_false]
      congr 1
      apply List.ext_getElem?
      intro i
      by_cases hi : (i : Int) < k
      · exact hyx i hi
      · rw [List.getElem?_eq_none (by omega), List.getElem?_eq_none (by omega)]

theorem toIntS_eq (xs : List Int) (hl : (xs.length : Int) ≤ 100000000) : M_l_toIntS xs = some xs := by
  unfold M_l_toIntS guardO
  rw [if_pos (by omega)]
  exact toIntS_loop xs hl _ FUEL _ 0 (by omega) (by omega) (by simp) (fun i hi => by omega) (by rw [fuel_eq]; omega) (by rw [fuel_eq]; omega)

theorem eqIntS_loop (xs : List Int) (hl : (xs.length : Int) ≤ 100000000) (j : Unit → Option Bool) : ∀ (m : Nat) (k : Int), 0 ≤ k → k ≤ (xs.length : Int) → (xs.length : Int) - k < m → 0 < m → fixF (M_l_eqIntS_L1 xs xs j) m k = j () := by
  intro m
  induction m with
  | zero => intro k _ _ h h'; omega
  | succ m ih =>
    intro k hk hk' hm _
    simp only [fixF, M_l_eqIntS_L1, guardO, Bool.cond_decide]
    by_cases h1 : k < (xs.length : Int)
    · simp only [h1, hk, if_true, and_self, decide_true, Bool.not_true, cond_false]
      rw [W_eq (by omega) (by omega)]
      exact ih _ (by omega) (by omega) (by omega) (by omega)
    · simp only [h1, if_false]

theorem eqIntS_self (xs : List Int) (hl : (xs.length : Int) ≤ 100000000) : M_l_eqIntS xs xs = some true := by
  unfold M_l_eqIntS
  simp only [decide_true, Bool.not_true, cond_false]
  exact eqIntS_loop xs hl _ FUEL 0 (by omega) (by omega) (by rw [fuel_eq]; omega) (by rw [fuel_eq]; omega)

section
variable (l : List Int) (hl : (l.length : Int) ≤ 1048576) (r : Int)
include hl

theorem fr_on (js ji : Unit → Option Int) (hj : js () = ji ()) (hj' : ∃ v, ji () = some v) : ∀ (m : Nat) (k : Int), 0 ≤ k → k ≤ 2000000 → (l.length : Int) - k < m → 0 < m →
    ∃ v, fixF (M_s_FindRune_L1 l r 1 0 js) m k = some v ∧ fixF (M_i_FindRune_L1 l r ji) m k = some v := by
  intro m
  induction m with
  | zero => intro k _ _ h h'; omega
  | succ m ih =>
    intro k hk hk' hm _
    simp only [fixF, M_s_FindRune_L1, M_i_FindRune_L1, guardO, Int.add_zero]
    rw [W_eq (x := k) (by omega) (by omega), W_eq (x := k + 1) (by omega) (by omega)]
    by_cases h1 : k < (l.length : Int)
    · simp only [h1, hk, decide_true, cond_true, if_true, and_self, implies_true]
      by_cases h2 : at' l k = r
      · exact ⟨k, by simp [h2], by simp [h2]⟩
      · obtain ⟨v, q1, q2⟩ := ih (k + 1) (by omega) (by omega) (by omega) (by omega)
        exact ⟨v, by simpa [h2] using q1, by simpa [h2] using q2⟩
    · obtain ⟨v, hv⟩ := hj'
      exact ⟨v, by simp [h1, hj, hv], by simp [h1, hv]⟩

theorem fr_back (js ji : Unit → Option Int) (hj : js () = ji ()) (hj' : ∃ v, ji () = some v) : ∀ (m : Nat) (k : Int), -1 ≤ k → k < (l.length : Int) → k + 1 < m →
    ∃ v, fixF (M_s_FindRune_L1 l r (-1) 0 js) m k = some v ∧ fixF (M_i_FindRune_L2 l r ji) m k = some v := by
  intro m
  induction m with
  | zero => intro k _ _ h; omega
  | succ m ih =>
    intro k hk hk' hm
    simp only [fixF, M_s_FindRune_L1, M_i_FindRune_L2, guardO, Int.add_zero]
    rw [W_eq (x := k) (by omega) (by omega), W_eq (x := k + -1) (by omega) (by omega), W_eq (x := k - 1) (by omega) (by omega)]
    by_cases h1 : 0 ≤ k
    · simp only [h1, hk', decide_true, cond_true, if_true, and_self, implies_true]
      by_cases h2 : at' l k = r
      · exact ⟨k, by simp [h2], by simp [h2]⟩
      · obtain ⟨v, q1, q2⟩ := ih (k - 1) (by omega) (by omega) (by omega)
        exact ⟨v, by simp only [h2, decide_false, cond_false]; exact q1, by simpa [h2] using q2⟩
    · obtain ⟨v, hv⟩ := hj'
      exact ⟨v, by simp [h1, hj, hv], by simp [h1, hv]⟩

theorem fr_tillOn (js ji : Unit → Option Int) (hj : js () = ji ()) (hj' : ∃ v, ji () = some v) : ∀ (m : Nat) (k : Int), 0 ≤ k → k ≤ 2000000 → (l.length : Int) - k + 1 < m → 1 < m →
    ∃ v, fixF (M_s_FindRune_L1 l r 1 1 js) m k = some v ∧ fixF (M_i_FindRune_L3 l r ji) m k = some v := by
  intro m
  induction m with
  | zero => intro k _ _ h h'; omega
  | succ m ih =>
    intro k hk hk' hm _
    simp only [fixF, M_s_FindRune_L1, M_i_FindRune_L3, guardO]
    rw [W_eq (x := k + 1) (by omega) (by omega)]
    have hk1 : 0 ≤ k + 1 := by omega
    obtain ⟨v, hv⟩ := hj'
    by_cases h1 : k + 1 < (l.length : Int)
    · have h0 : k < (l.length : Int) := by omega
      simp only [h0, h1, hk, hk1, decide_true, cond_true, if_true, and_self, implies_true]
      by_cases h2 : at' l (k + 1) = r
      · exact ⟨k, by simp [h2], by simp [h2]⟩
      · obtain ⟨v, q1, q2⟩ := ih (k + 1) (by omega) (by omega) (by omega) (by omega)
        exact ⟨v, by simpa [h2] using q1, by simpa [h2] using q2⟩
    · by_cases h0 : k < (l.length : Int)
      · simp only [h0, h1, hk, hk1, decide_true, decide_false, cond_true, cond_false, Bool.false_eq_true, false_implies, if_true]
        refine ⟨v, ?_, hv⟩
        cases m with
        | zero => omega
        | succ m =>
          simp [fixF, M_s_FindRune_L1, h1, hj, hv]
      · exact ⟨v, by simp [h0, hj, hv], by simp [h1, hv]⟩

theorem fr_tillBack (js ji : Unit → Option Int) (hj : js () = ji ()) (hj' : ∃ v, ji () = some v) : ∀ (m : Nat) (k : Int), -1 ≤ k → k < (l.length : Int) → k + 2 < m →
    ∃ v, fixF (M_s_FindRune_L1 l r (-1) (-1) js) m k = some v ∧ fixF (M_i_FindRune_L4 l r ji) m k = some v := by
  intro m
  induction m with
  | zero => intro k _ _ h; omega
  | succ m ih =>
    intro k hk hk' hm
    have e : k + -1 = k - 1 := by omega
    simp only [fixF, M_s_FindRune_L1, M_i_FindRune_L4, guardO, e]
    rw [W_eq (x := k - 1) (by omega) (by omega)]
    obtain ⟨v, hv⟩ := hj'
    by_cases h1 : 1 ≤ k
    · have h0 : 0 ≤ k := by omega
      have h2 : 0 ≤ k - 1 := by omega
      have h3 : k - 1 < (l.length : Int) := by omega
      simp only [h0, h1, h2, h3, hk', decide_true, cond_true, if_true, and_self, implies_true]
      by_cases h2 : at' l (k - 1) = r
      · exact ⟨k, by simp [h2], by simp [h2]⟩
      · obtain ⟨v, q1, q2⟩ := ih (k - 1) (by omega) (by omega) (by omega)
        exact ⟨v, by simpa [h2] using q1, by simpa [h2] using q2⟩
    · by_cases h0 : 0 ≤ k
      · have h2 : ¬ 0 ≤ k - 1 := by omega
        simp only [h0, h1, h2, hk', decide_true, decide_false, cond_true, cond_false, Bool.false_eq_true, false_implies, if_true]
        refine ⟨v, ?_, hv⟩
        cases m with
        | zero => omega
        | succ m => simp [fixF, M_s_FindRune_L1, h1, h2, hj, hv]
      · exact ⟨v, by simp [h0, hj, hv], by simp [h1, hv]⟩

theorem findRune_eq (a how : Int) : ∃ v, M_s_FindRune l a r how = some v ∧ M_i_FindRune l a r how = some v := by
  unfold M_s_FindRune M_i_FindRune M_i_within
  rw [clamp_eq _ _ (by omega)]
  simp only [bindO]
  have h0 : (0:Int) ≤ max 0 (min a l.length) := by omega
  have h1 : max 0 (min a l.length) ≤ (l.length : Int) := by omega
  generalize max 0 (min a l.length) = y at *
  have E1 : W (y + 1) = y + 1 := W_eq (by omega) (by omega)
  have E2 : W (y + -1) = y - 1 := W_eq (by omega) (by omega)
  have E3 : W (y - 1) = y - 1 := W_eq (by omega) (by omega)
  by_cases p0 : how = 0
  · subst p0
    obtain ⟨v, q1, q2⟩ := fr_on l hl r (fun _ => some (-1)) (fun _ => some (-1)) rfl ⟨_, rfl⟩ FUEL (y + 1) (by omega) (by omega) (by rw [fuel_eq]; omega) (by rw [fuel_eq]; omega)
    exact ⟨v, by simp [joinO, E1, q1], by simp [joinO, E1, q2]⟩
  by_cases p1 : how = 1
  · subst p1
    obtain ⟨v, q1, q2⟩ := fr_back l hl r (fun _ => some (-1)) (fun _ => some (-1)) rfl ⟨_, rfl⟩ FUEL (y - 1) (by omega) (by omega) (by rw [fuel_eq]; omega)
    exact ⟨v, by simp [joinO, E2, q1], by simp [joinO, E3, q2]⟩
  by_cases p2 : how = 2
  · subst p2
    obtain ⟨v, q1, q2⟩ := fr_tillOn l hl r (fun _ => some (-1)) (fun _ => some (-1)) rfl ⟨_, rfl⟩ FUEL (y + 1) (by omega) (by omega) (by rw [fuel_eq]; omega) (by rw [fuel_eq]; omega)
    exact ⟨v, by simp [joinO, E1, q1], by simp [joinO, E1, q2]⟩
  by_cases p3 : how = 3
  · subst p3
    obtain ⟨v, q1, q2⟩ := fr_tillBack l hl r (fun _ => some (-1)) (fun _ => some (-1)) rfl ⟨_, rfl⟩ FUEL (y - 1) (by omega) (by omega) (by rw [fuel_eq]; omega)
    exact ⟨v, by simp [joinO, E2, q1], by simp [joinO, E3, q2]⟩
  · refine ⟨-1, ?_, by simp [joinO, p0, p1, p2, p3]⟩
    by_cases n : how < 0
    · simp [n]
    · have : 3 < how := by omega
      simp [n, this]
end

theorem times_eq (x : Int) : M_s_l22Times x = some (max 1 (min x 999)) := by
  simp only [M_s_l22Times, Bool.cond_decide]
  split
  · congr 1; omega
  · split <;> (congr 1; omega)

theorem ft_loop (l : List Int) (hl : (l.length : Int) ≤ 1048576) (r how t : Int) (js ji : Int → Option (Int × Bool)) (hj : ∀ x, js x = ji x) (hj' : ∀ x, ∃ v, ji x = some v) : ∀ (m : Nat) (a n : Int), 0 ≤ n → n ≤ 2000 → 2000 - n < m →
    ∃ v, fixF (M_s_FindTo_L1 l r how t js) m (a, n) = some v ∧ fixF (M_i_FindTo_L1 l r how t ji) m (a, n) = some v := by
  intro m
  induction m with
  | zero => intro a n _ _ h; omega
  | succ m ih =>
    intro a n hn hn' hm
    obtain ⟨y, e1, e2⟩ := findRune_eq l hl r a how
    simp only [fixF, M_s_FindTo_L1, M_i_FindTo_L1, times_eq, e1, e2, bindO]
    by_cases h1 : n < max 1 (min t 999)
    · simp only [h1, decide_true, cond_true]
      rw [W_eq (x := n + 1) (by omega) (by omega)]
      by_cases h2 : y < 0
      · exact ⟨(-1, false), by simp [h2], by simp [h2]⟩
      · obtain ⟨v, q1, q2⟩ := ih y (n + 1) (by omega) (by omega) (by omega)
        exact ⟨v, by simpa [h2] using q1, by simpa [h2] using q2⟩
    · obtain ⟨v, hv⟩ := hj' a
      exact ⟨v, by simp only [h1, decide_false, cond_false]; rw [hj, hv], by simp only [h1, decide_false, cond_false]; exact hv⟩

theorem findTo_eq (l : List Int) (hl : (l.length : Int) ≤ 1048576) (a r how t : Int) : ∃ v, M_s_FindTo l a r how t = some v ∧ M_i_FindTo l a r how t = some v := by
  unfold M_s_FindTo M_i_FindTo M_i_within
  rw [clamp_eq _ _ (by omega)]
  exact ft_loop l hl r how t _ _ (fun _ => rfl) (fun _ => ⟨_, rfl⟩) FUEL _ 0 (by omega) (by omega) (by rw [fuel_eq]; omega)

theorem law_FindTo (l : List Int) (a r how t : Int) (w1 : (Lit.int .i64 a).wf = true) (w2 : (Lit.int .i64 r).wf = true) (w3 : (Lit.int .i64 how).wf = true) (w4 : (Lit.int .i64 t).wf = true) : M_l_FnExactFindTo l a r how t = some true := by
  simp only [M_l_FnExactFindTo]
  cases hc : decide ((1048576 : Int) < (l.length : Int)) with
  | true => rfl
  | false =>
    have h : ¬ (1048576 : Int) < (l.length : Int) := by simpa using hc
    have et := toIntS_eq l (by omega)
    obtain ⟨⟨v1, v2⟩, e1, e2⟩ := findTo_eq l (by omega) a r how t
    simp only [cond_false]
    rw [bindO_of et, bindO_of e1, bindO_of et, bindO_of e2]
    simp only [decide_true, Bool.not_true, cond_false, BEq.rfl]
    rw [bindO_of et, bindO_of (eqIntS_self l (by omega))]
    rfl

end Go.Eng

namespace Go.Proofs.Ytfpkjlgpjhlbbaa.fnExactFindTo
open Go.ChangeShapes Go.WideShapes Go.ChangeAt Go.RowKit Go.Eng
open Go.ChangeMaps (open_string shut_string)

theorem own : ownKnob Try.prog.godebug = none := by kernel_rfl
theorem laidOut : laidOutB Try.prog = true := by kernel_rfl

theorem walk (a0 : Option Addr) (len0 cap0 : Nat) (z0 : List Int) (a1 : Int) (a2 : Int) (a3 : Int) (a4 : Int) (w : World) (w0 : IsRow .i64 w a0 len0 cap0 z0) (w1 : (Lit.int .i64 a1).wf = true) (w2 : (Lit.int .i64 a2).wf = true) (w3 : (Lit.int .i64 a3).wf = true) (w4 : (Lit.int .i64 a4).wf = true) :
    Calls Try.prog 9 #[.slice a0 len0 cap0, .int .i64 a1, .int .i64 a2, .int .i64 a3, .int .i64 a4] w fun e w' => e = .returned (.bool true) ∧ Below w.heap.size w w' := by
  obtain ⟨l0, f0⟩ := w0.intFact
  have h := ok_l_FnExactFindTo (z0.take len0) a1 a2 a3 a4 a0 cap0 true (law_FindTo (z0.take len0) a1 a2 a3 a4 w1 w2 w3 w4)
  rw [l0] at h
  refine Calls.mono (h.calls w ?_) ?_
  · intro x hx
    rcases List.mem_cons.1 hx with rfl | hx
    · exact ⟨_, f0.choose_spec⟩
    cases hx
  · rintro e w' ⟨r, -, he, hk, -⟩
    exact ⟨he, hk.below⟩

set_option maxRecDepth 100000 in
theorem lifted (os : Os) (started : os.Started) (H : Type) (enc : TypeId × Value → H) :
    ReturnsInHanded {} Try.checked os 9 .any (Rows.fnExactFindToSpec.pre6 enc Try.prog Try.f9 Rows.fnExactFindToRow.domain false) (Rows.fnExactFindToSpec.post enc Try.prog Try.f9 false true false false) := by
  refine returnsInHanded_of_change (C := Try.checked) own started (by kernel_rfl) Try.func9
    (ChangeSpec.witness6 (enc := enc) (C := Try.checked) false ⟨#[], #[.slice none 0 0, .int .i64 0, .int .i64 0, .int .i64 0, .int .i64 0], []⟩ 8 (by kernel_rfl) (by kernel_rfl) (by kernel_rfl) (by kernel_rfl)) ?_
  intro W base args ds gs before hval0 hW hcnd _
  have hval : ∀ (j : Nat) t v, Try.f9.params[j]? = some t → args[j]? = some v → Value.okWide Try.prog W .any base t v := hval0
  have hW' := hW
  obtain ⟨p, q, hA0, hV, rfl, hfz, hnd⟩ := hW
  have hA : DataW.TrodAll enc Try.prog W 0 (fun _ => true) true Try.f9.params.toList args.toList ds p := hA0
  rw [Try.params9] at hA hval
  obtain ⟨v0, vs0, d0, ds0, p0, q0, hargs, rfl, rfl, h0, r0⟩ := trodAll_cons hA
  obtain ⟨v1, vs1, d1, ds1, p1, q1, rfl, rfl, rfl, h1, r1⟩ := trodAll_cons r0
  obtain ⟨v2, vs2, d2, ds2, p2, q2, rfl, rfl, rfl, h2, r2⟩ := trodAll_cons r1
  obtain ⟨v3, vs3, d3, ds3, p3, q3, rfl, rfl, rfl, h3, r3⟩ := trodAll_cons r2
  obtain ⟨v4, vs4, d4, ds4, p4, q4, rfl, rfl, rfl, h4, r4⟩ := trodAll_cons r3
  obtain ⟨rfl, rfl, rfl⟩ := trodAll_nil r4
  obtain rfl : args = #[v0, v1, v2, v3, v4] := by cases args; simp_all
  obtain ⟨rfl, rfl⟩ := trodVars_none hV
  obtain ⟨a0, len0, cap0, rfl⟩ := okWide_slice Try.underlying34 (hval 0 34 v0 rfl rfl)
  have k0 := h0
  have lt0 : ∀ x ∈ p0, x.block < W.heap.size := by obtain ⟨m, hm⟩ := k0; exact DataW.trod_lt m _ _ _ hm
  obtain ⟨z0, w0⟩ : ∃ zs, IsRow .i64 W a0 len0 cap0 zs := by
    obtain ⟨fuel, hf⟩ := h0
    rcases open_ints Try.underlying34 Try.underlying3 (by kernel_rfl) hf with ⟨hcs, _⟩ | ⟨x, l, c, zs, hcs, _, hl, hm, hz, _, hcell, hwz⟩
    · simp [Value.cells] at hcs
      obtain ⟨rfl, rfl, rfl⟩ := hcs
      exact ⟨[], .inl ⟨rfl, rfl, rfl, rfl⟩⟩
    · simp [Value.cells] at hcs
      obtain ⟨rfl, rfl, rfl⟩ := hcs
      exact ⟨zs, .inr ⟨_, rfl, hl, hm, by simpa using hz, hcell, hwz⟩⟩
  obtain ⟨a1, rfl, rfl, rfl, w1⟩ := open_int Try.underlying3 (hval 1 3 v1 rfl rfl) h1
  obtain ⟨a2, rfl, rfl, rfl, w2⟩ := open_int Try.underlying3 (hval 2 3 v2 rfl rfl) h2
  obtain ⟨a3, rfl, rfl, rfl, w3⟩ := open_int Try.underlying3 (hval 3 3 v3 rfl rfl) h3
  obtain ⟨a4, rfl, rfl, rfl, w4⟩ := open_int Try.underlying3 (hval 4 3 v4 rfl rfl) h4
  clear hA0 hval0
  simp only [List.append_nil] at hW'
  refine (walk a0 len0 cap0 z0 a1 a2 a3 a4 W w0 w1 w2 w3 w4).mono fun e W' ⟨he, bel⟩ => ?_
  subst he
  exact ⟨_, rfl, _, _, _, [], _, [], hW', trodAll_mk1 (shut_bool Try.underlying4 _), (trodAll_cons_mk (Below.trod laidOut (by kernel_rfl) (of_decide_eq_true (by kernel_rfl)) k0 bel lt0) (trodAll_cons_mk (shut_int Try.underlying3 w1) (trodAll_cons_mk (shut_int Try.underlying3 w2) (trodAll_cons_mk (shut_int Try.underlying3 w3) (trodAll_cons_mk (shut_int Try.underlying3 w4) trodAll_mk0))))), rfl, bel.frame _, fun h => by cases h⟩

theorem over : Rows.fnExactFindToRow.holds Try.pinned (OpenSpec.ofChange Rows.fnExactFindToSpec) :=
  OpenClaim.holds_of_wide 9 Try.f9 rfl rfl rfl rfl rfl rfl rfl ⟨rfl, rfl, rfl, rfl, rfl⟩ rfl rfl rfl rfl rfl (by kernel_rfl) Try.func9 (by kernel_rfl)
    (of_decide_eq_true (by kernel_rfl)) (by unfold Func.isWrapper; first | (rw [if_pos (by decide +kernel)]; kernel_rfl) | (rw [if_neg (by decide +kernel)]; exact ⟨rfl, rfl⟩))
    (fun os started H enc _ => lifted os started H enc)

theorem proved : Rows.FnExactFindToSaid := over
#print axioms proved
end Go.Proofs.Ytfpkjlgpjhlbbaa.fnExactFindTo
