/- FnExactOpAt: for every input the given law returns true and leaves its arguments as they were. No condition. -/
import Derived.Test.YtmgjbhlcejcjeaaDoorFnExactOpAtWalkA
import Derived.Test.YtmgjbhlcejcjeaaDoorRows
import Derived.WalkKit
import Derived.ProofKit
import Derived.OpenShut
import Derived.ShutString
import Derived.Test.YtmgjbhlcejcjeaaDoorTie
import Derived.Test.YtmgjbhlcejcjeaaDoorCards
import Derived.Handy
import Derived.Lay
import Derived.SevenTiedAt
set_option linter.unusedVariables false
set_option linter.unusedSimpArgs false
namespace Go.Eng
open Go Go.Proofs


theorem bindO_of {α β : Type} {m : Option α} {k : α → Option β} {y : α} (h : m = some y) : bindO m k = k y := by rw [h]; rfl

theorem wf64 {a : Int} (h : (Lit.int .i64 a).wf = true) : -9223372036854775808 ≤ a ∧ a ≤ 9223372036854775807 := by
  simpa [Lit.wf, IntKind.min, IntKind.max, IntKind.signed, IntKind.bits] using h


theorem drop_at {α : Type} [Inhabited α] {l : List α} {k : Int} (h0 : 0 ≤ k) (h : k < (l.length : Int)) : l.drop k.toNat = at' l k :: l.drop (k + 1).toNat := by
  have hlt : k.toNat < l.length := by omega
  rw [List.drop_eq_getElem_cons hlt]
  have : (k + 1).toNat = k.toNat + 1 := by omega
  rw [this]
  congr 1
  simp [at', List.getD_eq_getElem?_getD, hlt]

theorem sub_all {α : Type} {l : List α} {k : Int} (h0 : 0 ≤ k) : sub' l k (l.length : Int) = l.drop k.toNat := by
  unfold sub'
  rw [List.take_of_length_le]
  simp

theorem byte_eq {b : UInt8} {n : Nat} (hn : n < 256) : ((b.toNat : Int) = n) ↔ b = UInt8.ofNat n := by
  constructor
  · intro h; apply UInt8.toNat_inj.1; simp; omega
  · intro h; rw [h]; simp; omega


def spl (c : UInt8) : List UInt8 → List (List UInt8)
  | [] => [[]]
  | b :: l => if b = c then [] :: spl c l else match spl c l with
    | [] => [[b]]
    | x :: xs => (b :: x) :: xs

theorem spl_cases (c : UInt8) : ∀ (l : List UInt8), (Lib.indexByte l c = -1 ∧ spl c l = [l] ∧ l.count c = 0) ∨
    ∃ p : Nat, Lib.indexByte l c = p ∧ p < l.length ∧ spl c l = l.take p :: spl c (l.drop (p + 1)) ∧ l.count c = (l.drop (p + 1)).count c + 1
  | [] => .inl ⟨rfl, rfl, rfl⟩
  | b :: l => by
    by_cases h : b = c
    · subst h
      refine .inr ⟨0, by simp [Lib.indexByte], by simp, ?_, ?_⟩
      · simp [spl]
      · simp
    · have hb : (b == c) = false := by simpa using h
      rcases spl_cases c l with ⟨h1, h2, h3⟩ | ⟨p, h1, h2, h3, h4⟩
      · refine .inl ⟨?_, ?_, ?_⟩
        · simp [Lib.indexByte, hb, h1]
        · simp [spl, h, h2]
        · rw [List.count_cons, h3]; simp [h]
      · refine .inr ⟨p + 1, ?_, ?_, ?_, ?_⟩
        · have : ¬ ((p : Int) = -1) := by omega
          simp [Lib.indexByte, hb, h1, this]
        · simp; omega
        · simp [spl, h, h3]
        · rw [List.count_cons, h4]; simp [h]

theorem set_take (a : List (List UInt8)) (s : List UInt8) (i : Nat) (hi : i < a.length) : sub' (List.set a i s) 0 ((i : Int) + 1) = a.take i ++ [s] := by
  unfold sub'
  have e1 : ((i : Int) + 1).toNat = i + 1 := by omega
  simp only [Int.toNat_zero, List.drop_zero, Nat.sub_zero, e1]
  rw [List.take_set, List.take_succ_eq_append_getElem hi, List.set_append_right _ _ (by simp; omega)]
  simp only [List.length_take, Nat.min_eq_left (show i ≤ a.length by omega), Nat.sub_self, List.set_cons_zero]

theorem set_take' (a : List (List UInt8)) (s : List UInt8) (i : Nat) (hi : i < a.length) : (List.set a i s).take (i + 1) = a.take i ++ [s] := by
  rw [List.take_set, List.take_succ_eq_append_getElem hi, List.set_append_right _ _ (by simp; omega)]
  simp only [List.length_take, Nat.min_eq_left (show i ≤ a.length by omega), Nat.sub_self, List.set_cons_zero]

theorem gen_loop (x0 : List UInt8) (c : UInt8) (n : Nat) (hx : (x0.length : Int) ≤ 1048576) (hn : (n : Int) = x0.count c + 1) (j : List UInt8 × List (List UInt8) × Int → Option (List (List UInt8)))
    (hj : ∀ (s : List UInt8) (a : List (List UInt8)) (i : Nat), a.length = n → i < n → j (s, a, (i : Int)) = some (a.take i ++ [s])) :
    ∀ (m : Nat) (s : List UInt8) (a : List (List UInt8)) (i : Nat), a.length = n → n = i + s.count c + 1 → s.length ≤ x0.length → (s.count c : Int) < m → 0 < m →
    fixF (M_strings_genSplit_L1 x0 [c] 0 (n : Int) j) m (s, a, (i : Int)) = some (a.take i ++ spl c s) := by
  have hcn := List.count_le_length (a := c) (l := x0)
  have hmin : min (n : Int) (W ((x0.length : Int) + 1)) = n := by rw [W_eq (by omega) (by omega)]; omega
  intro m
  induction m with
  | zero => intro s a i _ _ _ h h'; omega
  | succ m ih =>
    intro s a i ha hi hs hm _
    simp only [fixF, M_strings_genSplit_L1, guardO, Bool.cond_decide, hmin]
    have w1 : W ((n : Int) - 1) = (n : Int) - 1 := W_eq (by omega) (by omega)
    have w2 : W ((i : Int) + 1) = (i : Int) + 1 := W_eq (by omega) (by omega)
    rw [w1]
    rcases spl_cases c s with ⟨h1, h2, h3⟩ | ⟨p, h1, h2, h3, h4⟩
    · rw [if_neg (by omega), hj _ _ _ ha (by omega), h2]
    · rw [if_pos (by omega)]
      simp only [M_strings_Index, bindO, h1]
      have w3 : W ((p : Int) + 0) = p := by rw [W_eq (by omega) (by omega)]; omega
      have w4 : W ((p : Int) + (([c] : List UInt8).length : Int)) = p + 1 := by rw [W_eq (by simp; omega) (by simp; omega)]; simp
      rw [w3, w4, if_neg (by omega), if_pos ⟨by omega, by omega, by omega⟩, if_pos ⟨by omega, by omega⟩, if_pos ⟨by omega, by omega, by omega⟩, w2]
      have e1 : sub' s ((p : Int) + 1) (s.length : Int) = s.drop (p + 1) := by
        rw [sub_all (by omega)]; congr 1
      have e2 : sub' s 0 (p : Int) = s.take p := by unfold sub'; simp
      have e3 : (((i + 1 : Nat)) : Int) = (i : Int) + 1 := by omega
      rw [e1, e2, ← e3]
      rw [ih (s.drop (p + 1)) _ (i + 1) (by simpa using ha) (by omega) (by simp; omega) (by omega) (by omega), h3]
      simp only [Int.toNat_natCast]
      rw [set_take' _ _ _ (by omega), List.append_assoc]
      rfl

theorem split_eq (x0 : List UInt8) (c : UInt8) (hx : (x0.length : Int) ≤ 1048576) : M_strings_Split x0 [c] = some (spl c x0) := by
  have hcn := List.count_le_length (a := c) (l := x0)
  have hg : M_strings_genSplit x0 [c] 0 (-1) = some (spl c x0) := by
    unfold M_strings_genSplit
    simp only [joinO, Bool.cond_decide, M_strings_Count, bindO, Lib.countByte, guardO]
    have w1 : W (((x0.count c : Nat) : Int) + 1) = ((x0.count c + 1 : Nat) : Int) := by rw [W_eq (by omega) (by omega)]; omega
    have hmin : min ((x0.count c + 1 : Nat) : Int) (W ((x0.length : Int) + 1)) = ((x0.count c + 1 : Nat) : Int) := by rw [W_eq (x := (x0.length : Int) + 1) (by omega) (by omega)]; omega
    rw [if_neg (by decide), if_neg (by simp), if_pos (by decide), w1, hmin, if_pos ⟨by omega, by omega⟩]
    have e1 : (List.replicate (((x0.count c + 1 : Nat) : Int).toNat) ([] : List UInt8)).length = x0.count c + 1 := by simp
    refine Eq.trans (gen_loop x0 c (x0.count c + 1) hx (by omega) _ (fun s a i ha hi => ?_) FUEL x0 _ 0 e1 (by omega) (by omega) (by rw [fuel_eq]; omega) (by rw [fuel_eq]; omega)) (by simp)
    have w2 : W ((i : Int) + 1) = (i : Int) + 1 := W_eq (by omega) (by omega)
    simp only [w2]
    rw [if_pos ⟨by omega, by omega⟩, if_pos ⟨by omega, by omega, by simp; omega⟩]
    congr 1
    exact set_take a s i (by omega)
  unfold M_strings_Split
  rw [bindO_of hg]


theorem pre_iff (s p : List UInt8) : Lib.hasPrefix s p = decide (s.take p.length = p) := by
  unfold Lib.hasPrefix
  rw [Bool.eq_iff_iff, List.isPrefixOf_iff_prefix, List.prefix_iff_eq_take]
  simp only [decide_eq_true_eq]
  exact eq_comm

theorem ops_loop (l : List UInt8) (a : Int) (ha : 0 ≤ a) (ha' : a < (l.length : Int)) (hx : (l.length : Int) ≤ 1048576) (ys : List (List UInt8)) (hl : (ys.length : Int) ≤ 1048576) (hy : ∀ y ∈ ys, (y.length : Int) ≤ 100) (j : Unit → Option (List UInt8)) :
    ∀ (m : Nat) (k : Int), 0 ≤ k → k ≤ (ys.length : Int) → (ys.length : Int) - k < m → 0 < m →
    fixF (M_s_OpAt_L1 l a ys j) m k = (match (ys.drop k.toNat).find? (fun y => Lib.hasPrefix (l.drop a.toNat) y) with | some y => some y | none => j ()) ∧
    fixF (M_i_OpAt_L1 l a ys j) m k = (match (ys.drop k.toNat).find? (fun y => Lib.hasPrefix (l.drop a.toNat) y) with | some y => some y | none => j ()) := by
  intro m
  induction m with
  | zero => intro k _ _ h h'; omega
  | succ m ih =>
    intro k hk hk' hm _
    simp only [fixF, M_s_OpAt_L1, M_i_OpAt_L1, guardO, Bool.cond_decide, M_strings_HasPrefix, bindO]
    by_cases h1 : k < (ys.length : Int)
    · have hyk := hy (at' ys k) (List.mem_of_getElem? (at_some ⟨hk, h1⟩))
      simp only [h1, hk, if_true, and_self]
      have w1 : W (k + 1) = k + 1 := W_eq (by omega) (by omega)
      have w2 : W ((l.length : Int) - a) = (l.length : Int) - a := W_eq (by omega) (by omega)
      have w3 : W (a + ((at' ys k).length : Int)) = a + ((at' ys k).length : Int) := W_eq (by omega) (by omega)
      obtain ⟨i1, i2⟩ := ih (k + 1) (by omega) (by omega) (by omega) (by omega)
      rw [w1, w2, w3, drop_at hk h1, sub_all ha]
      simp only [List.find?_cons, ha, Int.le_refl, and_self, if_true, true_and, show a ≤ (l.length : Int) by omega]
      rw [pre_iff]
      have hs : sub' l a (a + ((at' ys k).length : Int)) = (l.drop a.toNat).take (at' ys k).length := by
        unfold sub'
        congr 1; omega
      by_cases h2 : (l.drop a.toNat).take (at' ys k).length = at' ys k
      · have h3 : ((at' ys k).length : Int) ≤ (l.length : Int) - a := by
          have := congrArg List.length h2
          simp only [List.length_take, List.length_drop] at this
          omega
        rw [if_pos (by intro _; omega), hs]
        simp [h2, h3]
      · simp only [h2, decide_false]
        refine ⟨?_, i2⟩
        rw [if_pos (by intro h; simp only [decide_eq_true_eq] at h; omega), hs, i1]
        simp [h2]
    · simp only [h1, if_false]
      have : ys.drop k.toNat = [] := List.drop_eq_nil_of_le (by omega)
      rw [this]
      simp

theorem law_OpAt (l : List UInt8) (a : Int) (hw : (Lit.int .i64 a).wf = true) : M_l_FnExactOpAt l a = some true := by
  simp only [M_l_FnExactOpAt, Bool.cond_decide]
  split
  · rfl
  · rename_i h
    by_cases h1 : a < 0
    · simp [M_s_OpAt, M_i_OpAt, h1, bindO]
    by_cases h2 : (l.length : Int) ≤ a
    · simp [M_s_OpAt, M_i_OpAt, h2, bindO]
    have e0 : spl 32 [60, 60, 45, 32, 38, 38, 32, 124, 124, 32, 59, 59, 32, 60, 60, 32, 60, 38, 32, 60, 62, 32, 62, 62, 32, 62, 38, 32, 62, 124, 32, 38, 32, 124, 32, 59, 32, 60, 32, 62, 32, 40, 32, 41] = ([[60, 60, 45], [38, 38], [124, 124], [59, 59], [60, 60], [60, 38], [60, 62], [62, 62], [62, 38], [62, 124], [38], [124], [59], [60], [62], [40], [41]] : List (List UInt8)) := by decide
    have hsp := split_eq [60, 60, 45, 32, 38, 38, 32, 124, 124, 32, 59, 59, 32, 60, 60, 32, 60, 38, 32, 60, 62, 32, 62, 62, 32, 62, 38, 32, 62, 124, 32, 38, 32, 124, 32, 59, 32, 60, 32, 62, 32, 40, 32, 41] 32 (by decide)
    rw [e0] at hsp
    obtain ⟨k1, k2⟩ := ops_loop l a (by omega) (by omega) (by omega) ([[60, 60, 45], [38, 38], [124, 124], [59, 59], [60, 60], [60, 38], [60, 62], [62, 62], [62, 38], [62, 124], [38], [124], [59], [60], [62], [40], [41]] : List (List UInt8)) (by decide) (by decide) (fun _ => some []) FUEL 0 (by omega) (by decide) (by rw [fuel_eq]; decide) (by rw [fuel_eq]; omega)
    have e1 : M_s_OpAt l a = fixF (M_s_OpAt_L1 l a ([[60, 60, 45], [38, 38], [124, 124], [59, 59], [60, 60], [60, 38], [60, 62], [62, 62], [62, 38], [62, 124], [38], [124], [59], [60], [62], [40], [41]] : List (List UInt8)) fun _ => some []) FUEL 0 := by
      unfold M_s_OpAt
      simp only [h1, h2, decide_false, cond_false, M_s_l17Ops, bindO, joinO]
    have e2 : M_i_OpAt l a = fixF (M_i_OpAt_L1 l a ([[60, 60, 45], [38, 38], [124, 124], [59, 59], [60, 60], [60, 38], [60, 62], [62, 62], [62, 38], [62, 124], [38], [124], [59], [60], [62], [40], [41]] : List (List UInt8)) fun _ => some []) FUEL 0 := by
      unfold M_i_OpAt
      simp only [h1, h2, decide_false, cond_false]
      rw [bindO_of hsp]
      rfl
    rw [e1, e2, k1, k2]
    generalize (List.drop (0:Int).toNat ([[60, 60, 45], [38, 38], [124, 124], [59, 59], [60, 60], [60, 38], [60, 62], [62, 62], [62, 38], [62, 124], [38], [124], [59], [60], [62], [40], [41]] : List (List UInt8))).find? (fun y => Lib.hasPrefix (l.drop a.toNat) y) = q
    cases q <;> simp [bindO]

end Go.Eng

namespace Go.Proofs.YtmgjbhlcejcjeaaDoor.fnExactOpAt
open Go.ChangeShapes Go.WideShapes Go.ChangeAt Go.RowKit Go.Eng
open Go.ChangeMaps (open_string shut_string)

theorem own : ownKnob Tryd.prog.godebug = none := by kernel_rfl
theorem laidOut : laidOutB Tryd.prog = true := by kernel_rfl

theorem walk (a0 : ByteArray) (a1 : Int) (w : World) (w0 : a0.size ≤ maxLen) (w1 : (Lit.int .i64 a1).wf = true) :
    Calls Tryd.prog 7 #[.string a0, .int .i64 a1] w fun e w' => e = .returned (.bool true) ∧ Below w.heap.size w w' := by
  have h := ok_l_FnExactOpAt a0.data.toList a1  true (law_OpAt a0.data.toList a1 w1)
  refine Calls.mono (h.calls w ?_) ?_
  · intro x hx
    cases hx
  · rintro e w' ⟨r, -, he, hk, -⟩
    exact ⟨he, hk.below⟩

def laid : List (String × DataW Unit) := [("unicode/utf8.acceptRanges", Rows.laid_unicode_utf8_acceptRanges), ("unicode/utf8.first", Rows.laid_unicode_utf8_first)]

set_option maxRecDepth 100000 in
theorem lifted (os : Os) (started : os.Started) (H : Type) (enc : TypeId × Value → H) :
    ReturnsInHanded {} Tryd.checked os 7 .any (fun w args => (Rows.fnExactOpAtSpec.pre enc Tryd.prog Tryd.f7 [] false w args ∧ laidMetH Tryd.prog laid w) ∧ sizedMet enc Tryd.prog Tryd.f7 (OpenSpec.ofChange Rows.fnExactOpAtSpec) false w args) (Rows.fnExactOpAtSpec.post enc Tryd.prog Tryd.f7 false true false false) := by
  refine returnsInHanded_of_change_and (C := Tryd.checked) (X := fun w _ => laidMetH Tryd.prog laid w) (fun _ _ _ hh h => h.of_heap hh) own started (by kernel_rfl) Tryd.func7
    (ChangeSpec.witness_shaped (enc := enc) (C := Tryd.checked) (os := os) (X := fun w _ => laidMetH Tryd.prog laid w) false (World.laidAll Tryd.prog os laid) #[.string ByteArray.empty, .int .i64 0] 8 (World.laidAll_os _ _ _)
      (World.shaped_of_ZipB (by kernel_rfl) (by kernel_rfl)) (by kernel_rfl) (by kernel_rfl) (by kernel_rfl)
      (by rw [MakeChecks.laidMetH_plain _ _ _ (by kernel_rfl)]; exact laidMet_laidAll _ (by kernel_rfl) (by kernel_rfl))) ?_
  intro W base args ds gs before hval0 hW _ _ _ _
  have hval : ∀ (j : Nat) t v, Tryd.f7.params[j]? = some t → args[j]? = some v → Value.okWide Tryd.prog W .any base t v := hval0
  have hW' := hW
  obtain ⟨p, q, hA0, hV, rfl, hfz, hnd⟩ := hW
  have hA : DataW.TrodAll enc Tryd.prog W 0 (fun _ => true) true Tryd.f7.params.toList args.toList ds p := hA0
  rw [Tryd.params7] at hA hval
  obtain ⟨v0, vs0, d0, ds0, p0, q0, hargs, rfl, rfl, h0, r0⟩ := trodAll_cons hA
  obtain ⟨v1, vs1, d1, ds1, p1, q1, rfl, rfl, rfl, h1, r1⟩ := trodAll_cons r0
  obtain ⟨rfl, rfl, rfl⟩ := trodAll_nil r1
  obtain rfl : args = #[v0, v1] := by cases args; simp_all
  obtain ⟨rfl, rfl⟩ := trodVars_none hV
  obtain ⟨a0, rfl, rfl, rfl, w0⟩ := open_string Tryd.underlying9 (hval 0 9 v0 rfl rfl) h0
  obtain ⟨a1, rfl, rfl, rfl, w1⟩ := open_int Tryd.underlying3 (hval 1 3 v1 rfl rfl) h1
  clear hA0 hval0
  simp only [List.append_nil] at hW'
  refine (walk a0 a1 W w0 w1).mono fun e W' ⟨he, bel⟩ => ?_
  subst he
  exact ⟨_, rfl, _, _, _, [], _, [], hW', trodAll_mk1 (shut_bool Tryd.underlying4 _), (trodAll_cons_mk (shut_string Tryd.underlying9 w0) (trodAll_cons_mk (shut_int Tryd.underlying3 w1) trodAll_mk0)), rfl, bel.frame _, fun h => by cases h⟩

theorem over : Rows.fnExactOpAtRow.holds Tryd.pinned (OpenSpec.ofChange Rows.fnExactOpAtSpec) :=
  OpenClaim.holds_of_wide 7 Tryd.f7 rfl rfl rfl rfl rfl rfl rfl ⟨rfl, rfl, rfl, rfl, rfl⟩ rfl rfl rfl rfl rfl (by kernel_rfl) Tryd.func7 (by kernel_rfl)
    (of_decide_eq_true (by kernel_rfl)) (by unfold Func.isWrapper; first | (rw [if_pos (by decide +kernel)]; kernel_rfl) | (rw [if_neg (by decide +kernel)]; exact ⟨rfl, rfl⟩))
    (fun os started H enc _ => lifted os started H enc)

theorem proved : Rows.FnExactOpAtCardSaid :=
  Claim7.holds_tied_plain_at .later [] [.data, .pinned] true (true, "bdae59d36338ea300ae32452c4361782ce383cb194f4937c5c36d49d4b63354f") false
    over (fun _ h => by cases h) (by kernel_rfl) (fun _ h => by cases h) fnExactOpAt_row_tie rfl ⟨rfl, rfl⟩ (by kernel_rfl) rfl
    (fun f fn hf hfn => by
      obtain rfl : f = 7 := Option.some.inj ((show Tryd.prog.funcNamed "loop.example/g00600/laws.FnExactOpAt" = some 7 by kernel_rfl).symm.trans hf) |>.symm
      obtain rfl : fn = Tryd.f7 := (Option.some.inj (Tryd.func7.symm.trans hfn)).symm
      exact ⟨by kernel_rfl, fun j t ht => by
        rw [Tryd.params7] at ht
        have hm : t ∈ [9, 3] := by simpa using Array.mem_of_getElem? ht
        have hall : ([9, 3].all fun u => !Tryd.prog.wantsStandIn u) = true := by kernel_rfl
        exact (show Tryd.prog.wantsStandIn t = false by simpa using List.all_eq_true.1 hall t hm)⟩)
    (by kernel_rfl)
#print axioms proved
end Go.Proofs.YtmgjbhlcejcjeaaDoor.fnExactOpAt
