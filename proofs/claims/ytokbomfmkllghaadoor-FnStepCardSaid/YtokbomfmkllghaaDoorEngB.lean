/- The engine: what a step, a loop, a call of the model does, told of known slots and of known slices. No condition. -/
import Derived.Test.YtokbomfmkllghaaDoorEngA
set_option linter.unusedSimpArgs false
set_option linter.unusedVariables false
namespace Go.Eng
open Go Go.RowKit

section
variable {P : Program} {ops : Array Oper} {Q : Exit → Act → World → Prop} {md : Region.Mode} {S : World → Prop} {late : Nat → Bool}

/-- Whatever order is picked from here on; behind each operation that is not late, S holds. -/
def wpX (P : Program) (md : Region.Mode) (ops : Array Oper) (Q : Exit → Act → World → Prop) (S : World → Prop) (late : Nat → Bool) : Nat → Array Bool → Act → World → Prop
  | 0, listed, a, w => Region.ready md ops listed = [] ∧ Q .normal a w
  | fuel + 1, listed, a, w =>
    (Region.ready md ops listed = [] → Q .normal a w) ∧
    ∀ i ∈ Region.ready md ops listed, wpOp P ops Q i (fun a' w' => (late i = false → S w → S w') ∧ wpX P md ops Q S late fuel (listed.setIfInBounds i true) a' w') a w

theorem wpAny_of_X : ∀ (fuel : Nat) (listed : Array Bool) (a : Act) (w : World), wpX P md ops Q S late fuel listed a w → wpAny P md ops Q fuel listed a w
  | 0, _, _, _, h => h
  | fuel + 1, _, _, _, h => ⟨h.1, fun i hi => wpOp_mono (fun a' w' h' => wpAny_of_X fuel _ a' w' h'.2) (h.2 i hi)⟩

theorem wpX_first {i : Nat} {oi : Oper} {v : Value} (hi : ops[i]? = some oi) (hsel : ∀ (j : Nat) (o : Oper) cs b, ops[j]? = some o → o.op ≠ .select cs b)
    (hQ : ∀ c a w, Q (.panic c) (a.put oi.dst v) w → Q (.panic c) a w)
    (hlate : ∀ j oj, late j = true → ops[j]? = some oj → ∃ e ∈ oj.after, Region.binds md e = true ∧ e.on = i) :
    ∀ (fuel : Nat) (listed : Array Bool) (a : Act) (w : World),
      (∀ j oj, ops[j]? = some oj → j ≠ i → listed.getD j true = false → (∀ e ∈ oj.after, Region.binds md e = true → e.on ≠ i) → oi.apart ops oj = true) →
      i ∈ Region.ready md ops listed → YieldsIf P ops S oi v a → S w →
      wpX P md ops Q S late fuel (listed.setIfInBounds i true) (a.put oi.dst v) w → wpX P md ops Q S late (fuel + 1) listed a w := by
  intro fuel
  induction fuel with
  | zero =>
    intro listed a w _ hr hy hS H
    refine ⟨fun h => (by rw [h] at hr; cases hr), fun j hj => ?_⟩
    by_cases hji : j = i
    · subst hji; exact hy.wpOp hi hS ⟨fun _ h => h, H⟩
    · have := ready_mono hj hji
      rw [H.1] at this
      cases this
  | succ fuel ih =>
    intro listed a w hfree hr hy hS H
    refine ⟨fun h => (by rw [h] at hr; cases hr), fun j hj => ?_⟩
    by_cases hji : j = i
    · subst hji; exact hy.wpOp hi hS ⟨fun _ h => h, H⟩
    · have h1 := H.2 j (ready_mono hj hji)
      obtain ⟨hjun, oj, hoj, hall⟩ := mem_ready.1 hj
      have hnot : ∀ e ∈ oj.after, Region.binds md e = true → e.on ≠ i := fun e he hb heq => by
        have h1 := hall e he hb
        have h0 := (mem_ready.1 hr).1
        rw [heq] at h1
        rcases Nat.lt_or_ge i listed.size with h' | h'
        · simp [h'] at h0 h1; rw [h0] at h1; cases h1
        · simp [Array.getElem?_eq_none h'] at h1
      have hl : late j = false := by
        cases hl : late j with
        | false => rfl
        | true =>
          obtain ⟨e, he, hb, heq⟩ := hlate j oj hl hoj
          exact absurd heq (hnot e he hb)
      have h2 := wpOp_putIf hoj (hfree j oj hoj hji hjun hnot) (fun cs b => hsel i oi cs b hi) (fun cs b => hsel j oj cs b hoj) hQ hy h1
      have hfree' : ∀ k ok, ops[k]? = some ok → k ≠ i → (listed.setIfInBounds j true).getD k true = false →
          (∀ e ∈ ok.after, Region.binds md e = true → e.on ≠ i) → oi.apart ops ok = true := fun k ok hk hki hun hno => by
        refine hfree k ok hk hki ?_ hno
        by_cases hjk : j = k
        · subst hjk; exact hjun
        · rw [getD_set_ne true hjk] at hun; exact hun
      refine wpOp_mono (fun a' w' h3 => ⟨h3.2.1, ih (listed.setIfInBounds j true) a' w' hfree' (ready_mono hr (Ne.symm hji)) h3.1 (h3.2.1 hl hS) ?_⟩) h2
      rw [Array.setIfInBounds_comm _ _ hji]
      exact h3.2.2

/-- What is taken bears all that it waits for. -/
def ClosedL (md : Region.Mode) (ops : Array Oper) (listed : Array Bool) : Prop := ∀ (k : Nat) (ok : Oper), ops[k]? = some ok → listed.getD k false = true → ∀ e ∈ ok.after, Region.binds md e = true → listed.getD e.on false = true

/-- Operation j waits for operation i, perhaps through others. -/
def Waits (md : Region.Mode) (ops : Array Oper) : Nat → Nat → Nat → Prop
  | 0, _, _ => False
  | n + 1, j, i => ∃ oj, ops[j]? = some oj ∧ ∃ e ∈ oj.after, Region.binds md e = true ∧ (e.on = i ∨ Waits md ops n e.on i)

omit md in
theorem closed_waits {md : Region.Mode} {listed : Array Bool} (hcl : ClosedL md ops listed) {i : Nat} : ∀ (n j : Nat), listed.getD j false = true → Waits md ops n j i → listed.getD i false = true
  | 0, _, _, h => h.elim
  | n + 1, j, hj, ⟨oj, ho, e, he, hb, h⟩ => by
    have h1 := hcl j oj ho hj e he hb
    rcases h with rfl | h
    · exact h1
    · exact closed_waits hcl n _ h1 h

omit md in
theorem ready_waits {md : Region.Mode} {listed : Array Bool} (hcl : ClosedL md ops listed) {i j n : Nat} (hj : j ∈ Region.ready md ops listed) (h : Waits md ops n j i) : listed.getD i false = true := by
  cases n with
  | zero => exact h.elim
  | succ n =>
    obtain ⟨oj, ho, e, he, hb, h⟩ := h
    obtain ⟨_, o, ho', hall⟩ := mem_ready.1 hj
    rw [ho] at ho'
    simp only [Option.some.injEq] at ho'
    subst ho'
    have h1 := hall e he hb
    rcases h with rfl | h
    · exact h1
    · exact closed_waits hcl n _ h1 h

omit md in
theorem ClosedL.set {md : Region.Mode} {listed : Array Bool} (hcl : ClosedL md ops listed) {j : Nat} (hj : j ∈ Region.ready md ops listed) : ClosedL md ops (listed.setIfInBounds j true) := by
  intro k ok hk hl e he hb
  obtain ⟨_, o, ho, hall⟩ := mem_ready.1 hj
  by_cases hkj : j = k
  · subst hkj
    rw [ho] at hk
    simp only [Option.some.injEq] at hk
    subst hk
    exact getD_set_true (hall e he hb)
  · have hl' : listed.getD k false = true := by
      rw [Array.getD_eq_getD_getElem?, Array.getElem?_setIfInBounds_ne hkj] at hl
      rw [Array.getD_eq_getD_getElem?]; exact hl
    exact getD_set_true (hcl k ok hk hl' e he hb)

theorem wpX_firstT {i : Nat} {oi : Oper} {v : Value} (hi : ops[i]? = some oi) (hsel : ∀ (j : Nat) (o : Oper) cs b, ops[j]? = some o → o.op ≠ .select cs b)
    (hQ : ∀ c a w, Q (.panic c) (a.put oi.dst v) w → Q (.panic c) a w)
    (hlate : ∀ j oj, late j = true → ops[j]? = some oj → ∃ n, Waits md ops n j i) :
    ∀ (fuel : Nat) (listed : Array Bool) (a : Act) (w : World), ClosedL md ops listed →
      (∀ j oj, ops[j]? = some oj → j ≠ i → listed.getD j true = false → (∀ e ∈ oj.after, Region.binds md e = true → e.on ≠ i) → oi.apart ops oj = true) →
      i ∈ Region.ready md ops listed → YieldsIf P ops S oi v a → S w →
      wpX P md ops Q S late fuel (listed.setIfInBounds i true) (a.put oi.dst v) w → wpX P md ops Q S late (fuel + 1) listed a w := by
  intro fuel
  induction fuel with
  | zero =>
    intro listed a w _ _ hr hy hS H
    refine ⟨fun h => (by rw [h] at hr; cases hr), fun j hj => ?_⟩
    by_cases hji : j = i
    · subst hji; exact hy.wpOp hi hS ⟨fun _ h => h, H⟩
    · have := ready_mono hj hji
      rw [H.1] at this
      cases this
  | succ fuel ih =>
    intro listed a w hcl hfree hr hy hS H
    refine ⟨fun h => (by rw [h] at hr; cases hr), fun j hj => ?_⟩
    by_cases hji : j = i
    · subst hji; exact hy.wpOp hi hS ⟨fun _ h => h, H⟩
    · have h1 := H.2 j (ready_mono hj hji)
      obtain ⟨hjun, oj, hoj, hall⟩ := mem_ready.1 hj
      have hnot : ∀ e ∈ oj.after, Region.binds md e = true → e.on ≠ i := fun e he hb heq => by
        have h1 := hall e he hb
        have h0 := (mem_ready.1 hr).1
        rw [heq] at h1
        rcases Nat.lt_or_ge i listed.size with h' | h'
        · simp [h'] at h0 h1; rw [h0] at h1; cases h1
        · simp [Array.getElem?_eq_none h'] at h1
      have hl : late j = false := by
        cases hl : late j with
        | false => rfl
        | true =>
          obtain ⟨n, hw⟩ := hlate j oj hl hoj
          have h1 := ready_waits hcl hj hw
          have h0 := (mem_ready.1 hr).1
          rcases Nat.lt_or_ge i listed.size with h' | h'
          · simp [h'] at h0 h1; rw [h0] at h1; cases h1
          · simp [Array.getElem?_eq_none h'] at h1
      have h2 := wpOp_putIf hoj (hfree j oj hoj hji hjun hnot) (fun cs b => hsel i oi cs b hi) (fun cs b => hsel j oj cs b hoj) hQ hy h1
      have hfree' : ∀ k ok, ops[k]? = some ok → k ≠ i → (listed.setIfInBounds j true).getD k true = false →
          (∀ e ∈ ok.after, Region.binds md e = true → e.on ≠ i) → oi.apart ops ok = true := fun k ok hk hki hun hno => by
        refine hfree k ok hk hki ?_ hno
        by_cases hjk : j = k
        · subst hjk; exact hjun
        · rw [getD_set_ne true hjk] at hun; exact hun
      refine wpOp_mono (fun a' w' h3 => ⟨h3.2.1, ih (listed.setIfInBounds j true) a' w' (hcl.set hj) hfree' (ready_mono hr (Ne.symm hji)) h3.1 (h3.2.1 hl hS) ?_⟩) h2
      rw [Array.setIfInBounds_comm _ _ hji]
      exact h3.2.2

theorem wpX_firstP {i : Nat} {oi : Oper} {v : Value} (hi : ops[i]? = some oi) (hsel : ∀ (j : Nat) (o : Oper) cs b, ops[j]? = some o → o.op ≠ .select cs b)
    (hQ : ∀ c a w, Q (.panic c) (a.put oi.dst v) w → Q (.panic c) a w):
    ∀ (fuel : Nat) (listed : Array Bool) (a : Act) (w : World),
      (∀ j oj, ops[j]? = some oj → j ≠ i → listed.getD j true = false → (∀ e ∈ oj.after, Region.binds md e = true → e.on ≠ i) → oi.apart ops oj = true) →
      i ∈ Region.ready md ops listed → Yields P ops oi v a →
      wpX P md ops Q S late fuel (listed.setIfInBounds i true) (a.put oi.dst v) w → wpX P md ops Q S late (fuel + 1) listed a w := by
  intro fuel
  induction fuel with
  | zero =>
    intro listed a w _ hr hy H
    refine ⟨fun h => (by rw [h] at hr; cases hr), fun j hj => ?_⟩
    by_cases hji : j = i
    · subst hji; exact hy.wpOp hi ⟨fun _ h => h, H⟩
    · have := ready_mono hj hji
      rw [H.1] at this
      cases this
  | succ fuel ih =>
    intro listed a w hfree hr hy H
    refine ⟨fun h => (by rw [h] at hr; cases hr), fun j hj => ?_⟩
    by_cases hji : j = i
    · subst hji; exact hy.wpOp hi ⟨fun _ h => h, H⟩
    · have h1 := H.2 j (ready_mono hj hji)
      obtain ⟨hjun, oj, hoj, hall⟩ := mem_ready.1 hj
      have hnot : ∀ e ∈ oj.after, Region.binds md e = true → e.on ≠ i := fun e he hb heq => by
        have h1 := hall e he hb
        have h0 := (mem_ready.1 hr).1
        rw [heq] at h1
        rcases Nat.lt_or_ge i listed.size with h' | h'
        · simp [h'] at h0 h1; rw [h0] at h1; cases h1
        · simp [Array.getElem?_eq_none h'] at h1
      have h2 := wpOp_put hoj (hfree j oj hoj hji hjun hnot) (fun cs b => hsel i oi cs b hi) (fun cs b => hsel j oj cs b hoj) hQ hy h1
      have hfree' : ∀ k ok, ops[k]? = some ok → k ≠ i → (listed.setIfInBounds j true).getD k true = false →
          (∀ e ∈ ok.after, Region.binds md e = true → e.on ≠ i) → oi.apart ops ok = true := fun k ok hk hki hun hno => by
        refine hfree k ok hk hki ?_ hno
        by_cases hjk : j = k
        · subst hjk; exact hjun
        · rw [getD_set_ne true hjk] at hun; exact hun
      refine wpOp_mono (fun a' w' h3 => ⟨h3.2.1, ih (listed.setIfInBounds j true) a' w' hfree' (ready_mono hr (Ne.symm hji)) h3.1 ?_⟩) h2
      rw [Array.setIfInBounds_comm _ _ hji]
      exact h3.2.2
end

/-- What the loads of a region lean on: some boxes, some facts. -/
structure SD where
  B : BL
  R : List Fact
  β : Nat → Nat

def SD.P (s : SD) (w : World) : Prop := BoxOk w s.β s.B ∧ ∀ f ∈ s.R, ∃ L, f.rep false w L
def SD.L (s : SD) (β : Nat → Nat) : Prop := ∀ k ∈ s.B.ids, β k = s.β k

def lateF (late : List Nat) (i : Nat) : Bool := late.any (Nat.beq i)

def JA (c : Cx) (ops : Array Oper) (s : SD) (late : List Nat) (fuel : Nat) (listed : Array Bool) (stk : List SI) (e : Env) (B : BL) (R O : List Fact) : Prop :=
  JK c s.L (wpX c.P .any ops (Kn c stk) s.P (lateF late) fuel listed) e B R O

def PanicOk (c : Cx) : Prop := ∀ ch d v a w, c.fin (.panic ch) (a.put d v) w → c.fin (.panic ch) a w

theorem Kn_panic {c : Cx} (h : PanicOk c) {ch : List PanicEntry} {d : Option Tmp} {v : Value} {a : Act} {w : World} : ∀ {stk : List SI}, Kn c stk (.panic ch) (a.put d v) w → Kn c stk (.panic ch) a w
  | [], h' => h _ _ _ _ _ h'
  | .c _ :: r, h' => Kn_panic (stk := r) h h'
  | .b _ :: r, h' => Kn_panic (stk := r) h h'
  | .l _ :: r, h' => Kn_panic (stk := r) h h'

theorem panic_cx {ρ : Type} {P : Program} {T : TT} {fn : Func} {w0 : World} {φ : ρ → Prop} {val : ρ → Value} {fs : ρ → List Fact} : PanicOk (cx P T fn w0 φ val fs) := by
  intro ch d v a w h
  obtain ⟨h1, h2⟩ := h
  exact ⟨by rw [put_defers] at h1; exact h1, h2⟩
theorem panic_cxX {ρ : Type} {P : Program} {T : TT} {fn : Func} {w0 : World} {X : List Nat} {φ : ρ → Prop} {val : ρ → Value} {fs : ρ → List Fact} : PanicOk (cxX P T fn w0 X φ val fs) := by
  intro ch d v a w h
  obtain ⟨h1, h2⟩ := h
  exact ⟨by rw [put_defers] at h1; exact h1, h2⟩

section
variable {c : Cx} {e : Env} {B : BL} {R O : List Fact} {stk : List SI}

theorem sd_holds {BS : BL} {RS : List Fact} {w : World} {β β0 : Nat → Nat} (h : Inv c.X c.w0 w β B R O) (hL : ∀ k ∈ BS.ids, β k = β0 k) (hB : BSub BS B BS.ids) (idx : List Nat) (hR : getF (R ++ O) idx = some RS) : (SD.mk BS RS β0).P w := by
  obtain ⟨hb, _⟩ := hB.spec
  refine ⟨fun k hk => ?_, fun f hf => h.fact (getF_mem hR f hf)⟩
  obtain ⟨h1, h2, h3⟩ := hb k hk
  have := h.box k h1
  rw [hL k hk] at this
  rw [h2, h3]
  exact this

/-- The beginning: what the loads lean on is named. -/
theorem JS.regionA {id : Nat} {ops : Array Oper} (hm : c.P.follows .mixedOrders = true) (BS : BL) (idx : List Nat) {RS : List Fact} (late : List Nat) (hB : BSub BS B BS.ids) (hR : getF (R ++ O) idx = some RS)
    (k : ∀ β0, JA c ops ⟨BS, RS, β0⟩ late ops.size (Array.replicate ops.size false) stk e B R O) : JS c (.c (.region id ops true) :: stk) e B R O := by
  intro a w β hs
  refine wp_region_any hm (wpAny_of_X (S := (SD.mk BS RS β).P) (late := lateF late) _ _ _ _ ?_)
  exact k β a _ β ⟨hs.env, hs.flat, hs.size, hs.def_, inv_drew hs.inv⟩ (fun _ _ => rfl)

theorem JA.done {ops : Array Oper} {s : SD} {late : List Nat} {fuel : Nat} {listed : Array Bool} (hr : Region.ready .any ops listed = []) (h : JS c stk e B R O) : JA c ops s late fuel listed stk e B R O := by
  intro a w β hs _
  have hk := h a w β hs
  cases fuel with
  | zero => exact ⟨hr, hk⟩
  | succ n => exact ⟨fun _ => hk, by rw [hr]; simp⟩

/-- One of those that may come up. -/
theorem JA.all {ops : Array Oper} {s : SD} {late : List Nat} {fuel : Nat} {listed : Array Bool} {rs : List Nat} (hr : Region.ready .any ops listed = rs) (hne : rs.isEmpty = false)
    (h : ∀ i ∈ rs, JK c s.L (wpOp c.P ops (Kn c stk) i (fun a' w' => (lateF late i = false → s.P w') ∧ wpX c.P .any ops (Kn c stk) s.P (lateF late) fuel (listed.setIfInBounds i true) a' w')) e B R O) : JA c ops s late (fuel + 1) listed stk e B R O := by
  intro a w β hs hΛ
  refine ⟨fun h0 => ?_, fun i hi => ?_⟩
  · rw [hr] at h0; subst h0; simp at hne
  · rw [hr] at hi; exact wpOp_mono (fun a' w' h' => ⟨fun hl _ => h'.1 hl, h'.2⟩) (h i hi a w β hs hΛ)

theorem JA.one {ops : Array Oper} {s : SD} {late : List Nat} {fuel : Nat} {listed : Array Bool} (i : Nat) (hr : Region.ready .any ops listed = [i])
    (h : JK c s.L (wpOp c.P ops (Kn c stk) i (fun a' w' => (lateF late i = false → s.P w') ∧ wpX c.P .any ops (Kn c stk) s.P (lateF late) fuel (listed.setIfInBounds i true) a' w')) e B R O) : JA c ops s late (fuel + 1) listed stk e B R O :=
  JA.all hr rfl fun j hj => by simp only [List.mem_singleton] at hj; subst hj; exact h

/-- Behind an operation. -/
theorem JA.next {ops : Array Oper} {BS : BL} {RS : List Fact} {β0 : Nat → Nat} {late : List Nat} {fuel : Nat} {listed : Array Bool} {i : Nat} (hB : BSub BS B BS.ids) (idx : List Nat) (hR : getF (R ++ O) idx = some RS)
    (h : JA c ops ⟨BS, RS, β0⟩ late fuel (listed.setIfInBounds i true) stk e B R O) :
    JK c (SD.mk BS RS β0).L (fun a' w' => (lateF late i = false → (SD.mk BS RS β0).P w') ∧ wpX c.P .any ops (Kn c stk) (SD.mk BS RS β0).P (lateF late) fuel (listed.setIfInBounds i true) a' w') e B R O :=
  fun a w β hs hΛ => ⟨fun _ => sd_holds hs.inv hΛ hB idx hR, h a w β hs hΛ⟩

/-- Behind an operation that is late. -/
theorem JA.nextL {ops : Array Oper} {s : SD} {late : List Nat} {fuel : Nat} {listed : Array Bool} {i : Nat} (hl : lateF late i = true) (h : JA c ops s late fuel (listed.setIfInBounds i true) stk e B R O) :
    JK c s.L (fun a' w' => (lateF late i = false → s.P w') ∧ wpX c.P .any ops (Kn c stk) s.P (lateF late) fuel (listed.setIfInBounds i true) a' w') e B R O :=
  fun a w β hs hΛ => ⟨fun hf => (by rw [hl] at hf; cases hf), h a w β hs hΛ⟩
end
end Go.Eng

set_option linter.unusedSimpArgs false
set_option linter.unusedVariables false
namespace Go.Eng
open Go Go.RowKit

def waitsB (ops : Array Oper) (j i : Nat) : Bool := match ops[j]? with
  | some oj => oj.after.any fun e => Region.binds .any e && Nat.beq e.on i
  | none => true

theorem waitsB_spec {ops : Array Oper} {j i : Nat} (h : waitsB ops j i = true) {oj : Oper} (ho : ops[j]? = some oj) : ∃ e ∈ oj.after, Region.binds .any e = true ∧ e.on = i := by
  unfold waitsB at h
  rw [ho] at h
  simp only at h
  obtain ⟨e, he, hb⟩ := Array.any_eq_true'.1 h
  simp only [Bool.and_eq_true] at hb
  exact ⟨e, he, hb.1, Nat.eq_of_beq_eq_true hb.2⟩

/-- The same, through others. -/
def waitsT (ops : Array Oper) : Nat → Nat → Nat → Bool
  | 0, _, _ => false
  | n + 1, j, i => match ops[j]? with
    | some oj => oj.after.any fun e => Region.binds .any e && (Nat.beq e.on i || waitsT ops n e.on i)
    | none => false

theorem waitsT_spec {ops : Array Oper} {i : Nat} : ∀ (n j : Nat), waitsT ops n j i = true → Waits .any ops n j i
  | 0, _, h => by cases h
  | n + 1, j, h => by
    unfold waitsT at h
    split at h
    · rename_i oj ho
      obtain ⟨e, he, hb⟩ := Array.any_eq_true'.1 h
      simp only [Bool.and_eq_true, Bool.or_eq_true] at hb
      refine ⟨oj, ho, e, he, hb.1, ?_⟩
      rcases hb.2 with hb | hb
      · exact .inl (Nat.eq_of_beq_eq_true hb)
      · exact .inr (waitsT_spec n _ hb)
    · cases h

def closedB (ops : Array Oper) (L : Array Bool) : Bool := (List.range ops.size).all fun k => match ops[k]? with
  | some o => !(L.getD k false) || o.after.all fun e => !(Region.binds .any e) || L.getD e.on false
  | none => true

theorem closedB_spec {ops : Array Oper} {L : Array Bool} (h : closedB ops L = true) : ClosedL .any ops L := by
  intro k ok hk hl e he hb
  have hlt : k < ops.size := (Array.getElem?_eq_some_iff.1 hk).1
  have := List.all_eq_true.1 h k (List.mem_range.2 hlt)
  rw [hk] at this
  simp only [hl, Bool.not_true, Bool.false_or] at this
  have := Array.all_eq_true'.1 this e he
  simpa [hb] using this

theorem lateF_mem {late : List Nat} {j : Nat} (h : lateF late j = true) : j ∈ late := by
  obtain ⟨k, hk, he⟩ := List.any_eq_true.1 h
  rw [Nat.eq_of_beq_eq_true he]; exact hk

/-- Operation i may be taken first (ld: it may read memory, and what is late waits for it; else it is late itself). -/
def takeOk (ops : Array Oper) (late : List Nat) (ld : Bool) (listed : Array Bool) (i : Nat) : Bool :=
  Region.noSelect ops && Region.free .any ops listed i && (Region.ready .any ops listed).contains i && (bif ld then late.all (fun j => waitsB ops j i) || (closedB ops listed && late.all (fun j => waitsT ops 5 j i)) else true)

section
variable {c : Cx} {e : Env} {B : BL} {R O : List Fact} {stk : List SI}

theorem JA.take_step (hq : PanicOk c) {ops : Array Oper} {s : SD} {late : List Nat} {ld : Bool} {fuel : Nat} {listed : Array Bool} {i : Nat} {o : Oper} (ho : ops.toList[i]? = some o) (hok : takeOk ops late ld listed i = true)
    {G : List (Nat × Bool)} (hG : gpath ops.toList e o = some G) {d : Nat} (hd : o.dst = some d) {x : SV} (hp : (okPut c.nt e x d && notIn d G) = true)
    (hrun : ∀ a β w, EnvOk β a e → s.L β → (ld = true → s.P w) → Holds a G → (execOp a.eval o).run c.P w = .ok (.value (x.den β)) w)
    (hS : ld = true → ∀ w β, Inv c.X c.w0 w β B R O → s.L β → s.P w)
    (k : JA c ops s late fuel (listed.setIfInBounds i true) stk ((d, wrapG G x) :: e) B R O) : JA c ops s late (fuel + 1) listed stk e B R O := by
  intro a w β hs hΛ
  have ho' : ops[i]? = some o := by simpa using ho
  simp only [takeOk, Bool.and_eq_true] at hok
  obtain ⟨⟨⟨hns, hfree⟩, hready⟩, hld⟩ := hok
  simp only [Bool.and_eq_true] at hp
  obtain ⟨h1, h2, h3⟩ := okPut_spec hp.1
  have hGd := notIn_spec hp.2
  have hw := gpath_sound hs.env hG
  have next : ∀ v, (Holds a G → v = x.den β) → (¬ Holds a G → v = undef) → St c (a.put o.dst v) w β ((d, wrapG G x) :: e) B R O := by
    intro v hv1 hv2
    rw [hd]
    have hiff := holds_put (a := a) (v := v) hGd
    exact ⟨env_put hs.env hs.flat (by rw [hs.size]; exact h1) h2 (wrapG_is h3 (fun h => by rw [hv1 (hiff.1 h)]; exact den_is h3) (fun h => hv2 fun h' => h (hiff.2 h'))), flat_put hs.flat (flat_wrapG h3), by rw [put_size]; exact hs.size, by rw [put_defers]; exact hs.def_, hs.inv⟩
  have hy : ∀ (T : World → Prop), (∀ w, T w → ld = true → s.P w) → ∃ v, YieldsIf c.P ops T o v a ∧ (Holds a G → v = x.den β) ∧ (¬ Holds a G → v = undef) := by
    intro T hT
    cases hwv : Region.wanted o (yielded ops a.tmps) with
    | true =>
      have hH := hw.1 hwv
      exact ⟨x.den β, .inl ⟨hwv, fun w' hw' => hrun a β w' hs.env hΛ (hT w' hw') hH⟩, fun _ => rfl, fun h => absurd hH h⟩
    | false =>
      have hH : ¬ Holds a G := fun h => by rw [hw.2 h] at hwv; cases hwv
      exact ⟨undef, .inr ⟨hwv, rfl⟩, fun h => absurd h hH, fun _ => rfl⟩
  have hpan : ∀ v ch a' w', Kn c stk (.panic ch) (a'.put o.dst v) w' → Kn c stk (.panic ch) a' w' := fun v ch a' w' h => Kn_panic hq h
  cases ld with
  | true =>
    obtain ⟨v, hy1, hy2, hy3⟩ := hy s.P (fun w hw _ => hw)
    rw [cond_true, Bool.or_eq_true] at hld
    rcases hld with hld | hld
    case inr =>
      rw [Bool.and_eq_true] at hld
      obtain ⟨hcl, hld⟩ := hld
      simp only [List.all_eq_true] at hld
      exact wpX_firstT ho' (Region.noSelect_spec hns) (hpan v) (fun j oj hj hoj => ⟨5, waitsT_spec _ _ (hld j (lateF_mem hj))⟩) fuel listed a w (closedB_spec hcl) (Region.free_spec ho' hfree) (by simpa using hready) hy1 (hS rfl w β hs.inv hΛ)
        (k _ w β (next v hy2 hy3) hΛ)
    simp only [List.all_eq_true] at hld
    exact wpX_first ho' (Region.noSelect_spec hns) (hpan v) (fun j oj hj hoj => waitsB_spec (hld j (lateF_mem hj)) hoj) fuel listed a w (Region.free_spec ho' hfree) (by simpa using hready) hy1 (hS rfl w β hs.inv hΛ)
      (k _ w β (next v hy2 hy3) hΛ)
  | false =>
    obtain ⟨v, hy1, hy2, hy3⟩ := hy (fun _ => True) (fun _ _ h => by cases h)
    have hy1' : Yields c.P ops o v a := by
      rcases hy1 with ⟨z1, z2⟩ | z
      · exact .inl ⟨z1, fun w => z2 w trivial⟩
      · exact .inr z
    exact wpX_firstP ho' (Region.noSelect_spec hns) (hpan v) fuel listed a w (Region.free_spec ho' hfree) (by simpa using hready) hy1' (k _ w β (next v hy2 hy3) hΛ)

def markL (L : Array Bool) : List Nat → Array Bool
  | [] => L
  | i :: r => markL (L.setIfInBounds i true) r

def takesOk (ops : Array Oper) (late : List Nat) (ld : Bool) : Array Bool → List Nat → Bool
  | _, [] => true
  | L, i :: r => takeOk ops late ld L i && takesOk ops late ld (L.setIfInBounds i true) r

/-- Some pure operations, one after the other, each taken first. -/
def ax (T : TT) (nt : Nat) (ops : Array Oper) (B : BL) : List Nat → Env → List Int → (Env → Prop) → Prop
  | [], e, _, K => K e
  | i :: r, e, ws, K => match ops.toList[i]? with
    | none => False
    | some o => match gpath ops.toList e o with
      | none => False
      | some G => match pureOp T e B G o.op, o.dst with
        | .ok x, some d => bif okPut nt e x d && notIn d G then ax T nt ops B r ((d, wrapG G x) :: e) ws K else False
        | .cond c x, some d => bif okPut nt e x d && notIn d G then gImp e G c ∧ ax T nt ops B r ((d, wrapG G x) :: e) ws K else False
        | .num k c q, some d => match ws with
          | q' :: ws' => bif okPut nt e (.v (.int k q')) d && notIn d G then gImp e G (c ∧ k.wrap q = q') ∧ ax T nt ops B r ((d, wrapG G (.v (.int k q'))) :: e) ws' K else False
          | [] => False
        | _, _ => False

/-- The operations with these numbers. -/
def opsAt (ops : List Oper) (is : List Nat) : List Oper := is.filterMap fun i => ops[i]?

theorem JA.ax_sound (hT : TTok c.P c.T) (hq : PanicOk c) {ops : Array Oper} {BS : BL} {RS : List Fact} {β0 : Nat → Nat} {late : List Nat} {ld : Bool} {BL' : BL} (hBL : BL' = bif ld then BS else .nil)
    (hS : ld = true → ∀ w β, Inv c.X c.w0 w β B R O → (SD.mk BS RS β0).L β → (SD.mk BS RS β0).P w) {K : Env → Prop} {m : Nat} {e0 : Env} {S : List Nat} :
    ∀ (is : List Nat), (∀ i ∈ is, i ∈ S) → ∀ (L : Array Bool) (e : Env) (ws : List Int), takesOk ops late ld L is = true → ax c.T c.nt ops BL' is e ws K →
      (∃ pref, e = pref ++ e0 ∧ ∀ t x, eget pref t = some x → ∃ (i : Nat) (o : Oper), i ∈ S ∧ ops.toList[i]? = some o ∧ o.dst = some t) →
      (∀ e', K e' → (∃ pref, e' = pref ++ e0 ∧ ∀ t x, eget pref t = some x → ∃ (i : Nat) (o : Oper), i ∈ S ∧ ops.toList[i]? = some o ∧ o.dst = some t) → JA c ops ⟨BS, RS, β0⟩ late m (markL L is) stk e' B R O) → JA c ops ⟨BS, RS, β0⟩ late (m + is.length) L stk e B R O := by
  intro is
  induction is with
  | nil => intro _ L e ws _ h hp k; exact k e h hp
  | cons i r ih =>
    intro hSS L e ws hoks h hp k
    simp only [takesOk, Bool.and_eq_true] at hoks
    obtain ⟨hok, hoks⟩ := hoks
    simp only [ax] at h
    · split at h
      · exact h.elim
      · rename_i o ho
        split at h
        · exact h.elim
        · rename_i G hG
          have hp' : ∀ (d : Nat) (x : SV), o.dst = some d → ∃ pref, ((d, x) :: e) = pref ++ e0 ∧ ∀ t x, eget pref t = some x → ∃ (i : Nat) (o : Oper), i ∈ S ∧ ops.toList[i]? = some o ∧ o.dst = some t := by
            intro d x hd
            obtain ⟨pref, he, hk⟩ := hp
            refine ⟨(d, x) :: pref, by rw [he]; rfl, fun t y hy => ?_⟩
            simp only [eget] at hy
            cases hkk : Nat.beq d t with
            | true => exact ⟨i, o, hSS i (List.mem_cons_self ..), ho, by rw [hd, Nat.eq_of_beq_eq_true hkk]⟩
            | false => rw [hkk, cond_false] at hy; exact hk t y hy
          have hbox : ∀ β w, (SD.mk BS RS β0).L β → (ld = true → (SD.mk BS RS β0).P w) → BoxOk w β BL' := by
            intro β w hL hP
            subst hBL
            cases ld with
            | false => intro k hk; cases hk
            | true =>
              intro k hk
              have := (hP rfl).1 k hk
              rw [hL k hk]
              exact this
          have step : ∀ (d : Nat) (x : SV) (ws' : List Int), o.dst = some d → (okPut c.nt e x d && notIn d G) = true →
              (∀ a β w, EnvOk β a e → BoxOk w β BL' → Holds a G → ∃ v, (execOp a.eval o).run c.P w = .ok (.value v) w ∧ x.is β a v) →
              ax c.T c.nt ops BL' r ((d, wrapG G x) :: e) ws' K → JA c ops ⟨BS, RS, β0⟩ late (m + (r.length + 1)) L stk e B R O := by
            intro d x ws' hd hput hr hax
            refine JA.take_step (fuel := m + r.length) hq ho hok hG hd hput (fun a β w he hL hP hH => ?_) hS (ih (fun i hi => hSS i (List.mem_cons_of_mem _ hi)) _ _ _ hoks hax (hp' d _ hd) k)
            obtain ⟨v, hv, hx⟩ := hr a β w he (hbox β w hL hP) hH
            simp only [Bool.and_eq_true] at hput
            rw [hv, is_den (okPut_spec hput.1).2.2 hx]
          have hps : ∀ a β w, EnvOk β a e → BoxOk w β BL' → Holds a G → Pure.sound c.P β a w o (pureOp c.T e BL' G o.op) := fun a β w he hB hH => pure_sound hT he hB hH o
          split at h
          · rename_i x d hpo hd
            cases hput : (okPut c.nt e x d && notIn d G) with
            | false => rw [hput] at h; exact h.elim
            | true =>
              rw [hput, cond_true] at h
              refine step d x ws hd hput (fun a β w he hB hH => ?_) h
              have := hps a β w he hB hH
              rw [hpo] at this
              exact this
          · rename_i cc x d hpo hd
            cases hput : (okPut c.nt e x d && notIn d G) with
            | false => rw [hput] at h; exact h.elim
            | true =>
              rw [hput, cond_true] at h
              refine step d x ws hd hput (fun a β w he hB hH => ?_) h.2
              have := hps a β w he hB hH
              rw [hpo] at this
              exact this (gImp_sound he hH h.1)
          · rename_i kk cc q d hpo hd
            split at h
            · rename_i q' ws'
              cases hput : (okPut c.nt e (.v (.int kk q')) d && notIn d G) with
              | false => rw [hput] at h; exact h.elim
              | true =>
                rw [hput, cond_true] at h
                refine step d _ ws' hd hput (fun a β w he hB hH => ?_) h.2
                have := hps a β w he hB hH
                rw [hpo] at this
                obtain ⟨g1, g2⟩ := gImp_sound he hH h.1
                have h5 := this g1
                rw [g2] at h5
                exact ⟨_, h5, rfl⟩
            · exact h.elim
          · exact h.elim

theorem JA.reg (hT : TTok c.P c.T) (hq : PanicOk c) {ops : Array Oper} {BS : BL} {RS : List Fact} {β0 : Nat → Nat} {late : List Nat} (ld : Bool) {n : Nat} {L : Array Bool} (m : Nat) (is : List Nat) (hn : n = m + is.length) (hok : takesOk ops late ld L is = true) (ws : List Int) (d : Env)
    (hB : BSub BS B BS.ids) (idx : List Nat) (hR : getF (R ++ O) idx = some RS) (hst : allIn (stale (opsAt ops.toList is) e) d = true)
    (h : ax c.T c.nt ops (bif ld then BS else .nil) is e ws (fun e' => EnvSub d e'))
    (k : JA c ops ⟨BS, RS, β0⟩ late m (markL L is) stk (d ++ e) B R O) : JA c ops ⟨BS, RS, β0⟩ late n L stk e B R O := by
  subst hn
  refine JA.ax_sound hT hq rfl (fun _ w β hi hL => sd_holds hi hL hB idx hR) (e0 := e) is (S := is) (fun _ h => h) L e ws hok h ⟨[], rfl, fun t x hx => by simp [eget] at hx⟩ ?_
  rintro e' hsub ⟨pref, rfl, hkeys⟩ a w β hs' hΛ
  refine k a w β ⟨?_, ?_, hs'.size, hs'.def_, hs'.inv⟩ hΛ
  · intro t x hx
    rw [eget_append] at hx
    cases hd : eget d t with
    | some y =>
      rw [hd] at hx
      simp only [Option.some.injEq] at hx
      subst hx
      obtain ⟨h1, h2, _⟩ := hsub.get hs'.env t y hd
      exact ⟨h1, h2⟩
    | none =>
      rw [hd] at hx
      simp only at hx
      have hp : eget pref t = none := by
        cases hp : eget pref t with
        | none => rfl
        | some y =>
          obtain ⟨i, o, hiS, ho, hod⟩ := hkeys t y hp
          have := stale_mem hx ⟨o, List.mem_filterMap.2 ⟨i, hiS, ho⟩, hod⟩
          have := List.all_eq_true.1 hst t this
          rw [hd] at this; simp at this
      exact hs'.env t x (by rw [eget_append, hp]; exact hx)
  · intro t x hx
    rw [eget_append] at hx
    cases hd : eget d t with
    | some y =>
      rw [hd] at hx
      simp only [Option.some.injEq] at hx
      subst hx
      obtain ⟨_, _, h3⟩ := hsub.get hs'.env t y hd
      exact hs'.flat t y h3
    | none =>
      rw [hd] at hx
      simp only at hx
      have hp : eget pref t = none := by
        cases hp : eget pref t with
        | none => rfl
        | some y =>
          obtain ⟨i, o, hiS, ho, hod⟩ := hkeys t y hp
          have := stale_mem hx ⟨o, List.mem_filterMap.2 ⟨i, hiS, ho⟩, hod⟩
          have := List.all_eq_true.1 hst t this
          rw [hd] at this; simp at this
      exact hs'.flat t x (by rw [eget_append, hp]; exact hx)

/-- A load of a plain cell of a slice's element, taken first. -/
theorem JA.load (hT : TTok c.P c.T) (hq : PanicOk c) {ops : Array Oper} {BS : BL} {RS : List Fact} {β0 : Nat → Nat} {late : List Nat} {m : Nat} {L : Array Bool} (i : Nat) {o : Oper} (ho : ops.toList[i]? = some o) (hok : takeOk ops late true L i = true)
    {t : Nat} {p : Operand} (hl : loadOf o = some (t, p)) {d : Nat} (hd : o.dst = some d)
    {G : List (Nat × Bool)} (hG : gpath ops.toList e o = some G) {ti : TI} (hti : c.T.get t = some ti) (hna : ti.isAgg = false) {s : Sl} {cc : Nat} (hp : evs e G p = some (.ep s cc))
    (idx : Nat) {f : Fact} (hf : RS[idx]? = some f) (hs : f.s = s) (j off : Nat) (y : f.t.den) (hj : gImp e G (f.xs[j]? = some y ∧ cc = j * f.t.size + off)) {v : Value} (hv : leafAt f.t y off = some v) (hput : (okPut c.nt e (.v v) d && notIn d G) = true)
    (hB : BSub BS B BS.ids) (idxR : List Nat) (hR : getF (R ++ O) idxR = some RS)
    (k : JA c ops ⟨BS, RS, β0⟩ late m (L.setIfInBounds i true) stk ((d, wrapG G (.v v)) :: e) B R O) : JA c ops ⟨BS, RS, β0⟩ late (m + 1) L stk e B R O := by
  refine JA.take_step hq ho hok hG hd hput (fun a β w he hL hP hH => ?_) (fun _ w β hi hL => sd_holds hi hL hB idxR hR) k
  obtain ⟨M, hM⟩ := (hP rfl).2 f (List.mem_of_getElem? hf)
  obtain ⟨h1, h2⟩ := gImp_sound he hH hj
  exact run_loadEp hT hl hti hna (evs_sound he hH hp) hM hs h1 h2 hv
end
end Go.Eng

set_option linter.unusedSimpArgs false
set_option linter.unusedVariables false
namespace Go.Eng
open Go Go.RowKit

section
variable {c : Cx} {e : Env} {B : BL} {R O : List Fact} {stk : List SI} {Λ : (Nat → Nat) → Prop} {K : Act → World → Prop} {Q : Exit → Act → World → Prop}

theorem JO.ofK {ops : Array Oper} {i : Nat} {o : Oper} (ho : ops.toList[i]? = some o) (h : JK c (fun _ => True) (wpOp c.P ops (Kn c stk) i (wpOps c.P ops (Kn c stk) (List.range' (i + 1) (ops.size - (i + 1))))) e B R O) : JO c ops i stk e B R O := by
  intro a w β hs
  obtain ⟨ho', hr⟩ := range'_cons ho
  rw [hr, Go.wpOps_cons]
  exact h a w β hs trivial

theorem JO.toK {ops : Array Oper} {i : Nat} (h : JO c ops i stk e B R O) : JK c (fun _ => True) (wpOps c.P ops (Kn c stk) (List.range' i (ops.size - i))) e B R O := fun a w β hs _ => h a w β hs

theorem pickO_all (l : List Fact) : pickO (List.replicate l.length 0) l = some (l, []) := by
  induction l with
  | nil => rfl
  | cons f l ih => simp [List.replicate_succ, pickO, ih]

theorem JS.boxes {B' : BL} (hB : BSub B' B B'.ids) (k : JS c stk e B' R O) : JS c stk e B R O := fun a w β hs => k a w β ⟨hs.env, hs.flat, hs.size, hs.def_, inv_sub hs.inv hB (fun f hf => hf) (pickO_all O)⟩

def okStore (B : BL) (k0 off : Nat) (cs : List Value) (n : Nat) : Bool := B.ids.any (Nat.beq k0) && Nat.beq cs.length n && Nat.ble (off + cs.length) (B.cells k0).length && cs.all one

theorem JK.stBox (hT : TTok c.P c.T) {ops : Array Oper} {i : Nat} {o : Oper} (ho : ops.toList[i]? = some o) (hg : o.guard = none) (hd : o.dst = none) {t : Nat} {p x : Operand} (ha : storeOf o = some (t, p, x)) {ti : TI} (hti : c.T.get t = some ti)
    {k0 off : Nat} (hp : evs e [] p = some (.bp k0 off)) {v : Value} (hx : evv e [] x = some v) (hc : okStore B k0 off v.cells.toList ti.size = true) (k : JK c Λ K e (.st k0 off v.cells.toList B) R O) : JK c Λ (wpOp c.P ops Q i K) e B R O := by
  intro a w β hs hΛ
  have ho' : ops[i]? = some o := by simpa using ho
  have hw : Region.wanted o (yielded ops a.tmps) = true := by simp [Region.wanted, hg]
  simp only [okStore, Bool.and_eq_true] at hc
  obtain ⟨⟨⟨hk, hsz⟩, hle⟩, hone⟩ := hc
  have hop : o.op = .store t p x := by
    unfold storeOf at ha
    split at ha
    · rename_i t' p' x' h; simp only [Option.some.injEq, Prod.mk.injEq] at ha; obtain ⟨rfl, rfl, rfl⟩ := ha; exact h
    · cases ha
  have hev := evv_sound hs.env (g := []) (fun p hp => by cases hp) hx
  have hpv : a.eval p = .pointer (some ⟨β k0, off, none⟩) := evs_sound hs.env (g := []) (fun p hp => by cases hp) hp
  have hkm : k0 ∈ B.ids := by
    obtain ⟨j, hj, he⟩ := List.any_eq_true.1 hk
    rw [Nat.eq_of_beq_eq_true he]; exact hj
  have hb := hs.inv.box k0 hkm
  have hle' := Nat.le_of_ble_eq_true hle
  have hst := run_storeCells_box (P := c.P) v.cells.toList (β k0) off 0 (B.cells k0).toArray (B.ty k0) w hb (by simpa using hle') hone
  have hrun : (execOp a.eval o).run c.P w = .ok .skip { w with heap := w.heap.modify (β k0) fun _ => .cells (splice (B.cells k0) off v.cells.toList).toArray (B.ty k0) (0, 0) } := by
    have hszr := run_sizeOf hT hti w
    have hq : v.cells.size = ti.size := by simpa using Nat.eq_of_beq_eq_true hsz
    unfold execOp
    rw [hop]
    simp only [hev, hpv, Instr.storeAt, Instr.sureAddr]
    show ((storeVar t ⟨β k0, off, none⟩ v) >>= fun _ => pure Next.skip : Sem Next).run c.P w = _
    rw [Sem.run_bind]
    unfold storeVar
    simp only [Sem.run_bind, hszr, Result.andThen_ok, hq, ne_eq, not_true_eq_false, if_false]
    simp only [Nat.add_zero, List.toList_toArray] at hst
    rw [hst]
    rfl
  refine wpOp_of ho' hw (wp_skip' hrun ?_)
  rw [hd]
  exact k _ _ β ⟨hs.env, hs.flat, hs.size, hs.def_, inv_st hs.inv hk⟩ hΛ

def buildSliceOf (o : Oper) : Option (Nat × Nat × List (Nat × Operand)) := match o.op with
  | .buildSlice t n ps => some (t, n, ps.toList)
  | _ => none

def fillE (size : Nat) (cs : List Value) : List (Nat × Value) → Option (List Value)
  | [] => some cs
  | (i, v) :: r => bif Nat.beq v.cells.toList.length size && Nat.ble (i * size + v.cells.toList.length) cs.length then fillE size (splice cs (i * size) v.cells.toList) r else none

theorem fillE_sound {size : Nat} : ∀ (ps : List (Nat × Value)) (cs : Array Value) (cs' : List Value), fillE size cs.toList ps = some cs' → Instr.fill (fun i => some (i * size, size)) cs ps = some cs'.toArray
  | [], cs, cs', h => by simp only [fillE, Option.some.injEq] at h; subst h; simp [Instr.fill]
  | (i, v) :: r, cs, cs', h => by
    simp only [fillE] at h
    cases hc : (Nat.beq v.cells.toList.length size && Nat.ble (i * size + v.cells.toList.length) cs.toList.length) with
    | false => rw [hc] at h; cases h
    | true =>
      rw [hc, cond_true] at h
      simp only [Bool.and_eq_true] at hc
      have h1 := Nat.eq_of_beq_eq_true hc.1
      have h2 := Nat.le_of_ble_eq_true hc.2
      simp only [Array.length_toList] at h1 h2
      simp only [Instr.fill]
      rw [if_neg (by simp; omega)]
      have hfold := foldl_splice v.cells.toList (i * size) 0 cs (by simpa using h2)
      simp only [Nat.add_zero] at hfold
      rw [← Array.foldl_toList, Array.toList_zipIdx, hfold]
      exact fillE_sound r _ _ (by simpa using h)

theorem run_buildSlice {P : Program} {T : TT} (hT : TTok P T) {a : Act} {w : World} {β : Nat → Nat} (he : EnvOk β a e) {o : Oper} {t el' n : Nat} {ps : List (Nat × Operand)} {ei : TI} (ho : buildSliceOf o = some (t, n, ps)) (hkt : T.kind t = some (.slice el')) (hei : T.get el' = some ei)
    {vs : List (Nat × Value)} (hvs : evParts e [] ps = some vs) {cs : List Value} (hcs : fillE ei.size (List.replicate n ei.zero).flatten vs = some cs) (hz : ei.zero.length = ei.size) (hs : 0 < ei.size) (hn : n * ei.size ≤ 16777216) :
    (execOp a.eval o).run P w = .ok (.value (.slice (some ⟨w.heap.size, 0, none⟩) n n)) { w with heap := w.heap.push (.cells cs.toArray el') } := by
  obtain ⟨d, op, ty', po, af, gu⟩ := o
  unfold buildSliceOf at ho
  simp only at ho
  split at ho
  · rename_i t n ps
    simp only [Option.some.injEq, Prod.mk.injEq] at ho
    obtain ⟨rfl, rfl, rfl⟩ := ho
    obtain ⟨ti, hti, hik⟩ := kind_get hkt
    have hu := (hT _ _ hti).und
    simp only [hik] at hu
    have hund : (underlying t).run P w = .ok (.slice el') w := by simp [underlying, go_sem, hu]
    obtain ⟨inf, z, i1, i2, i3, i4, i5⟩ := (hT _ _ hei).info
    have hsz : (sizeOf el').run P w = .ok ei.size w := by simp [sizeOf, typeInfo, go_sem, i1, i2]
    have hzv : (zeroValue el').run P w = .ok z w := by simp [zeroValue, typeInfo, go_sem, i1, i4]
    have hrow : ∀ cs w, (newRow el' cs).run P w = .ok ⟨w.heap.size, 0, none⟩ { w with heap := w.heap.push (.cells cs el') } := fun _ _ => rfl
    have hzc : z.cells = ei.zero.toArray := by rw [← i5]
    have hl := evParts_sound' he (g := []) (fun p hp => by cases hp) hvs
    have hl' : (ps.map fun p => (p.1, a.eval p.2)).toList = vs := by simpa using hl
    have hq : execOp a.eval ⟨d, .buildSlice t n ps, ty', po, af, gu⟩ = (Instr.buildSlice t n (ps.map fun p => (p.1, a.eval p.2)) >>= fun v => pure (.value v)) := rfl
    have hbig : ¬ (n * ei.size > 2 ^ 24) := by omega
    have hcells : (Array.range (n * ei.size)).map (fun i => ei.zero.toArray[i % ei.zero.toArray.size]!) = (List.replicate n ei.zero).flatten.toArray := by
      apply Array.ext'
      rw [flat_replicate_get hz hs]
    rw [hq, Sem.run_bind]
    unfold Instr.buildSlice
    simp only [Sem.run_bind, hund, hsz, Result.andThen_ok]
    rw [if_neg hbig]
    by_cases hn0 : n = 0
    · subst hn0
      have h0 : ((Array.range (0 * ei.size)).map (fun i => (#[] : Array Value)[i % (#[] : Array Value).size]!)) = #[] := by apply Array.ext'; simp
      have hf := fillE_sound (size := ei.size) vs #[] cs (by simpa using hcs)
      simp only [Nat.zero_mul, if_true, Sem.run_bind, Sem.run_pure, Result.andThen_ok, hl']
      have h0' : ((Array.range 0).map (fun i => (#[] : Array Value)[i % (#[] : Array Value).size]!)) = #[] := by apply Array.ext'; simp
      rw [h0', hf]
      simp only [Sem.run_bind, hrow, Result.andThen_ok]
      rfl
    · have hne : ¬ (n * ei.size = 0) := Nat.mul_ne_zero hn0 (by omega)
      have hf := fillE_sound (size := ei.size) vs (List.replicate n ei.zero).flatten.toArray cs (by simpa using hcs)
      simp only [hne, if_false, Sem.run_bind, hzv, hzc, Sem.run_pure, Result.andThen_ok, hl']
      rw [hcells, hf]
      simp only [Sem.run_bind, hrow, Result.andThen_ok]
      rfl
  · cases ho

theorem JK.buildSlice (hT : TTok c.P c.T) {ops : Array Oper} {i : Nat} {o : Oper} (ho : ops.toList[i]? = some o) (hg : o.guard = none) {d : Nat} (hd : o.dst = some d) {tt el' n : Nat} {ps : List (Nat × Operand)} (ha : buildSliceOf o = some (tt, n, ps))
    {ei : TI} (hkt : c.T.kind tt = some (.slice el')) (hei : c.T.get el' = some ei) {vs : List (Nat × Value)} (hvs : evParts e [] ps = some vs) {cs : List Value} (hcs : fillE ei.size (List.replicate n ei.zero).flatten vs = some cs)
    (hz : ei.zero.length = ei.size) (hs : Nat.blt 0 ei.size = true) (hn : Nat.ble (n * ei.size) 16777216 = true) (idx : List Nat) {pO rest : List Fact} (hp : pickO idx O = some (pO, rest)) (t : Ty) (xs : List t.den) (hx : takeFs t xs pO fun c' r => r = [] ∧ cs = c') (hl : xs.length = n)
    (hput : okPut c.nt e (.v undef) d = true)
    (k : ∀ (a : Option Addr), JK c Λ K ((d, .v (Sl.v ⟨a, xs.length, xs.length⟩)) :: e) B R (⟨t, ⟨a, xs.length, xs.length⟩, xs⟩ :: rest)) : JK c Λ (wpOp c.P ops Q i K) e B R O := by
  subst hl
  refine JK.step ho hg hd fun a w β hst => ?_
  have hrun := run_buildSlice hT (w := w) hst.env ha hkt hei hvs hcs hz (by simpa [Nat.blt_eq] using hs) (Nat.le_of_ble_eq_true hn)
  exact ⟨_, _, .v _, _, hrun, by exact hput, rfl, inv_row hst.inv hp (cs := cs.toArray) (ty := el') (by simpa using hx), k _⟩
end
end Go.Eng

set_option linter.unusedSimpArgs false
set_option linter.unusedVariables false
namespace Go.Eng
open Go Go.RowKit

section
variable {c : Cx} {e : Env} {B : BL} {R O : List Fact} {stk : List SI}

/-- The same, of operations that are late and read no memory. -/
theorem JA.regL (hT : TTok c.P c.T) (hq : PanicOk c) {ops : Array Oper} {BS : BL} {RS : List Fact} {β0 : Nat → Nat} {late : List Nat} {n : Nat} {L : Array Bool} (m : Nat) (is : List Nat) (hn : n = m + is.length) (hok : takesOk ops late false L is = true) (ws : List Int) (d : Env)
    (hst : allIn (stale (opsAt ops.toList is) e) d = true)
    (h : ax c.T c.nt ops .nil is e ws (fun e' => EnvSub d e'))
    (k : JA c ops ⟨BS, RS, β0⟩ late m (markL L is) stk (d ++ e) B R O) : JA c ops ⟨BS, RS, β0⟩ late n L stk e B R O := by
  subst hn
  refine JA.ax_sound (ld := false) hT hq rfl (fun h => by cases h) (e0 := e) is (S := is) (fun _ h => h) L e ws hok h ⟨[], rfl, fun t x hx => by simp [eget] at hx⟩ ?_
  rintro e' hsub ⟨pref, rfl, hkeys⟩ a w β hs' hΛ
  refine k a w β ⟨?_, ?_, hs'.size, hs'.def_, hs'.inv⟩ hΛ
  · intro t x hx
    rw [eget_append] at hx
    cases hd : eget d t with
    | some y =>
      rw [hd] at hx
      simp only [Option.some.injEq] at hx
      subst hx
      obtain ⟨h1, h2, _⟩ := hsub.get hs'.env t y hd
      exact ⟨h1, h2⟩
    | none =>
      rw [hd] at hx
      simp only at hx
      have hp : eget pref t = none := by
        cases hp : eget pref t with
        | none => rfl
        | some y =>
          obtain ⟨i, o, hiS, ho, hod⟩ := hkeys t y hp
          have := stale_mem hx ⟨o, List.mem_filterMap.2 ⟨i, hiS, ho⟩, hod⟩
          have := List.all_eq_true.1 hst t this
          rw [hd] at this; simp at this
      exact hs'.env t x (by rw [eget_append, hp]; exact hx)
  · intro t x hx
    rw [eget_append] at hx
    cases hd : eget d t with
    | some y =>
      rw [hd] at hx
      simp only [Option.some.injEq] at hx
      subst hx
      obtain ⟨_, _, h3⟩ := hsub.get hs'.env t y hd
      exact hs'.flat t y h3
    | none =>
      rw [hd] at hx
      simp only at hx
      have hp : eget pref t = none := by
        cases hp : eget pref t with
        | none => rfl
        | some y =>
          obtain ⟨i, o, hiS, ho, hod⟩ := hkeys t y hp
          have := stale_mem hx ⟨o, List.mem_filterMap.2 ⟨i, hiS, ho⟩, hod⟩
          have := List.all_eq_true.1 hst t this
          rw [hd] at this; simp at this
      exact hs'.flat t x (by rw [eget_append, hp]; exact hx)

end
end Go.Eng

set_option linter.unusedSimpArgs false
set_option linter.unusedVariables false
namespace Go.Eng
open Go Go.RowKit

def RepR (w : World) : List Fact → List Nat → Prop
  | [], L => L = []
  | f :: fs, L => ∃ L1 L2, f.rep false w L1 ∧ RepR w fs L2 ∧ L = L1 ++ L2

theorem RepR.append {w : World} : ∀ {fs gs : List Fact} {L M : List Nat}, RepR w fs L → RepR w gs M → RepR w (fs ++ gs) (L ++ M)
  | [], gs, L, M, h, h' => by have h0 : L = [] := h; subst h0; exact h'
  | f :: fs, gs, L, M, ⟨L1, L2, h1, h2, h3⟩, h' => ⟨L1, L2 ++ M, h1, RepR.append h2 h', by rw [h3, List.append_assoc]⟩

theorem RepR.mem {w : World} : ∀ {fs : List Fact} {L : List Nat} {f : Fact}, RepR w fs L → f ∈ fs → ∃ M, f.rep false w M ∧ ∀ b ∈ M, b ∈ L
  | [], _, _, _, h => by cases h
  | g :: fs, L, f, ⟨L1, L2, h1, h2, h3⟩, hf => by
    subst h3
    rcases List.mem_cons.1 hf with rfl | hf
    · exact ⟨L1, h1, fun b hb => List.mem_append_left _ hb⟩
    · obtain ⟨M, hM, hs⟩ := RepR.mem h2 hf
      exact ⟨M, hM, fun b hb => List.mem_append_right _ (hs b hb)⟩

end Go.Eng

set_option linter.unusedSimpArgs false
set_option linter.unusedVariables false
namespace Go.Eng
open Go Go.RowKit

section
variable {c : Cx} {e : Env} {B : BL} {R O : List Fact} {stk : List SI}

def flatC : (t : Ty) → t.den → Option (List Value)
  | .int k, x => some [.int k x]
  | .byte, x => some [.int .u8 (x.toNat : Int)]
  | .bool, x => some [.bool x]
  | .str, x => some [.string (bs x)]
  | .val, x => some [x]
  | .alt t, .inl y => flatC t y
  | .alt t, .inr l => some l
  | .both t, x => some x.2
  | .sl _, _ => none
  | .pair a b, x => match flatC a x.1, flatC b x.2 with
    | some l, some m => some (l ++ m)
    | _, _ => none

theorem flatC_sound {own : Bool} {w : World} : ∀ {t : Ty} {x : t.den} {l cs : List Value} {L : List Nat}, flatC t x = some l → Rep own w t cs x L → cs = l
  | .int k, x, l, cs, L, h, hr => by simp only [flatC, Option.some.injEq] at h; rw [← h]; exact hr.1
  | .byte, x, l, cs, L, h, hr => by simp only [flatC, Option.some.injEq] at h; rw [← h]; exact hr.1
  | .bool, x, l, cs, L, h, hr => by simp only [flatC, Option.some.injEq] at h; rw [← h]; exact hr.1
  | .str, x, l, cs, L, h, hr => by simp only [flatC, Option.some.injEq] at h; rw [← h]; exact hr.1
  | .val, x, l, cs, L, h, hr => by simp only [flatC, Option.some.injEq] at h; rw [← h]; exact hr.1.1
  | .alt t, .inl y, l, cs, L, h, hr => flatC_sound (t := t) h hr
  | .alt t, .inr y, l, cs, L, h, hr => by simp only [flatC, Option.some.injEq] at h; rw [← h]; exact hr.1.1
  | .both t, x, l, cs, L, h, hr => by simp only [flatC, Option.some.injEq] at h; rw [← h]; exact hr.1
  | .sl t, x, l, cs, L, h, hr => by simp [flatC] at h
  | .pair a b, x, l, cs, L, h, hr => by
    obtain ⟨c1, c2, L1, L2, rfl, rfl, h3, h4⟩ := hr
    simp only [flatC] at h
    split at h
    · rename_i l m h1 h2
      simp only [Option.some.injEq] at h
      rw [← h, flatC_sound h1 h3, flatC_sound h2 h4]
    · cases h

theorem varAt_at {ti : TI} {pre l post : List Value} {off : Nat} {v : Value} (h : varAt ti l off = some v) : varAt ti (pre ++ l ++ post) (pre.length + off) = some v := by
  unfold varAt at h ⊢
  cases ha : ti.isAgg with
  | true =>
    simp only [ha, cond_true] at h ⊢
    cases hle : Nat.ble (off + ti.size) l.length with
    | false => rw [hle] at h; simp at h
    | true =>
      have hl := Nat.le_of_ble_eq_true hle
      rw [hle, cond_true] at h
      have : Nat.ble (pre.length + off + ti.size) (pre ++ l ++ post).length = true := by
        rw [Nat.ble_eq]; simp; omega
      rw [this, cond_true, ← h]
      congr 3
      rw [List.append_assoc, List.drop_append, List.drop_of_length_le (by omega), List.nil_append, show pre.length + off - pre.length = off by omega, List.drop_append_of_le_length (by omega), List.take_append_of_le_length (by simp; omega)]
  | false =>
    simp only [ha, cond_false, cellAt_eq] at h ⊢
    have hlt : off < l.length := by obtain ⟨h, _⟩ := List.getElem?_eq_some_iff.1 h; exact h
    rw [List.append_assoc, List.getElem?_append_right (by omega), show pre.length + off - pre.length = off by omega, List.getElem?_append_left hlt]
    exact h

theorem run_loadEpV {P : Program} {T : TT} (hT : TTok P T) {a : Act} {w : World} {o : Oper} {t : Nat} {x : Operand} (hl : loadOf o = some (t, x)) {ti : TI} (hti : T.get t = some ti) {s : Sl} {cc : Nat} (hx : a.eval x = .pointer (s.a.map (·.add cc)))
    {f : Fact} {L : List Nat} (hf : f.rep false w L) (hs : f.s = s) {j i : Nat} {y : f.t.den} (hj : f.xs[j]? = some y) (hcc : cc = j * f.t.size + i) {l : List Value} (hc : flatC f.t y = some l) {v : Value} (hv : varAt ti l i = some v) :
    (execOp a.eval o).run P w = .ok (.value v) w := by
  obtain ⟨b, off, c, ty, fz, L', h1, h2, h3, h4, h5, _, _, h6⟩ := fact_cells hf hj
  have hcs := flatC_sound hc h6
  have hlen := Rep.length f.t _ _ _ h6
  have hsplit : c.toList = c.toList.take (off + j * f.t.size) ++ l ++ c.toList.drop (off + j * f.t.size + f.t.size) := by
    rw [← hcs]
    unfold elemCells
    have hd : c.toList.drop (off + j * f.t.size + f.t.size) = (c.toList.drop (off + j * f.t.size)).drop f.t.size := by rw [List.drop_drop]
    rw [List.append_assoc, hd, List.take_append_drop, List.take_append_drop]
  have hpl : (c.toList.take (off + j * f.t.size)).length = off + j * f.t.size := by
    rw [hcs] at hlen
    have h7 : (j + 1) * f.t.size ≤ f.s.cap * f.t.size := Nat.mul_le_mul_right _ (by omega)
    rw [Nat.add_mul] at h7
    simp
    omega
  have hvar : varAt ti c.toList (off + j * f.t.size + i) = some v := by
    rw [hsplit]
    have := varAt_at (pre := c.toList.take (off + j * f.t.size)) (post := c.toList.drop (off + j * f.t.size + f.t.size)) hv
    rw [hpl] at this
    exact this
  obtain ⟨d, op, ty', po, af, gu⟩ := o
  unfold loadOf at hl
  simp only at hl
  split at hl
  · simp only [Option.some.injEq, Prod.mk.injEq] at hl
    obtain ⟨rfl, rfl⟩ := hl
    rename_i t x
    subst hs hcc
    rw [h1] at hx
    have hadd : Addr.add ⟨b, off, none⟩ (j * f.t.size + i) = ⟨b, off + j * f.t.size + i, none⟩ := by
      simp only [Addr.add]; split
      · rename_i h; simp [h]
      · simp [Nat.add_assoc]
    simp only [Option.map_some, hadd] at hx
    have hq : execOp a.eval ⟨d, .load t x, ty', po, af, gu⟩ = (loadVar t ⟨b, off + j * f.t.size + i, none⟩ >>= fun v => pure (.value v)) := by
      simp only [execOp, Instr.loadAt, Instr.sureAddr, hx]
      rfl
    rw [hq, Sem.run_bind, run_loadVar hT hti _ _ c ty fz h2 hvar]
    rfl
  · cases hl

theorem JO.loadV (hT : TTok c.P c.T) {ops : Array Oper} {i : Nat} {o : Oper} (ho : ops.toList[i]? = some o) {t : Nat} {p : Operand} (hl : loadOf o = some (t, p)) {d : Nat} (hd : o.dst = some d)
    {G : List (Nat × Bool)} (hG : gpath ops.toList e o = some G) {ti : TI} (hti : c.T.get t = some ti) {s : Sl} {cc : Nat} (hp : evs e G p = some (.ep s cc))
    (idx : Nat) {f : Fact} (hf : (R ++ O)[idx]? = some f) (hs : f.s = s) (j off : Nat) (y : f.t.den) (hj : gImp e G (f.xs[j]? = some y ∧ cc = j * f.t.size + off)) {l : List Value} (hc : flatC f.t y = some l) {v : Value} (hv : varAt ti l off = some v) (hput : (okPut c.nt e (.v v) d && notIn d G) = true)
    (k : JO c ops (i + 1) stk ((d, wrapG G (.v v)) :: e) B R O) : JO c ops i stk e B R O := by
  intro a w β hst
  obtain ⟨ho', hr⟩ := range'_cons ho
  rw [hr]
  simp only [Bool.and_eq_true] at hput
  refine step_pure hst ho' hG hd hput.1 (notIn_spec hput.2) (fun hH => ?_) (fun a' hs' => k a' w β hs')
  obtain ⟨L, hL⟩ := hst.inv.fact (List.mem_of_getElem? hf)
  obtain ⟨h1, h2⟩ := gImp_sound hst.env hH hj
  exact ⟨v, run_loadEpV hT hl hti (evs_sound hst.env hH hp) hL hs h1 h2 hc hv, rfl⟩

theorem JQ.loadV (hT : TTok c.P c.T) {ops : Array Oper} {i : Nat} {o : Oper} (ho : ops.toList[i]? = some o) {t : Nat} {p : Operand} (hl : loadOf o = some (t, p)) {d : Nat} (hd : o.dst = some d)
    {G : List (Nat × Bool)} (hG : gpath ops.toList e o = some G) {ti : TI} (hti : c.T.get t = some ti) {s : Sl} {cc : Nat} (hp : evs e G p = some (.ep s cc))
    (idx : Nat) {f : Fact} (hf : (R ++ O)[idx]? = some f) (hs : f.s = s) (j off : Nat) (y : f.t.den) (hj : gImp e G (f.xs[j]? = some y ∧ cc = j * f.t.size + off)) {l : List Value} (hc : flatC f.t y = some l) {v : Value} (hv : varAt ti l off = some v) (hput : (okPut c.nt e (.v v) d && notIn d G) = true)
    (k : JQ c ops (i + 1) stk ((d, wrapG G (.v v)) :: e) B R O) : JQ c ops i stk e B R O := by
  intro a β hst
  refine quiet_step hst ho hG hd hput (fun hH w hw => ?_) (fun a' hs' => k a' β hs')
  obtain ⟨L, hL⟩ := hw.fact (List.mem_of_getElem? hf)
  obtain ⟨h1, h2⟩ := gImp_sound hst.env hH hj
  unfold Oper.quietAt
  rw [run_loadEpV hT hl hti (evs_sound hst.env hH hp) hL hs h1 h2 hc hv]
  exact ⟨rfl, rfl⟩

theorem JA.loadV (hT : TTok c.P c.T) (hq : PanicOk c) {ops : Array Oper} {BS : BL} {RS : List Fact} {β0 : Nat → Nat} {late : List Nat} {m : Nat} {L : Array Bool} (i : Nat) {o : Oper} (ho : ops.toList[i]? = some o) (hok : takeOk ops late true L i = true)
    {t : Nat} {p : Operand} (hl : loadOf o = some (t, p)) {d : Nat} (hd : o.dst = some d)
    {G : List (Nat × Bool)} (hG : gpath ops.toList e o = some G) {ti : TI} (hti : c.T.get t = some ti) {s : Sl} {cc : Nat} (hp : evs e G p = some (.ep s cc))
    (idx : Nat) {f : Fact} (hf : RS[idx]? = some f) (hs : f.s = s) (j off : Nat) (y : f.t.den) (hj : gImp e G (f.xs[j]? = some y ∧ cc = j * f.t.size + off)) {l : List Value} (hc : flatC f.t y = some l) {v : Value} (hv : varAt ti l off = some v) (hput : (okPut c.nt e (.v v) d && notIn d G) = true)
    (hB : BSub BS B BS.ids) (idxR : List Nat) (hR : getF (R ++ O) idxR = some RS)
    (k : JA c ops ⟨BS, RS, β0⟩ late m (L.setIfInBounds i true) stk ((d, wrapG G (.v v)) :: e) B R O) : JA c ops ⟨BS, RS, β0⟩ late (m + 1) L stk e B R O := by
  refine JA.take_step hq ho hok hG hd hput (fun a β w he hL hP hH => ?_) (fun _ w β hi hL => sd_holds hi hL hB idxR hR) k
  obtain ⟨M, hM⟩ := (hP rfl).2 f (List.mem_of_getElem? hf)
  obtain ⟨h1, h2⟩ := gImp_sound he hH hj
  exact run_loadEpV hT hl hti (evs_sound he hH hp) hM hs h1 h2 hc hv
end
end Go.Eng

set_option linter.unusedSimpArgs false
set_option linter.unusedVariables false
namespace Go.Eng
open Go Go.RowKit

def unbV (k : Nat) (s : Sl) : SV → SV
  | .bp j off => bif Nat.beq j k then .ep s off else .bp j off
  | .cd g (.bp j off) => bif Nat.beq j k then .cd g (.ep s off) else .cd g (.bp j off)
  | x => x
def unb (k : Nat) (s : Sl) : Env → Env
  | [] => []
  | (t, x) :: r => (t, unbV k s x) :: unb k s r

theorem unb_get {k : Nat} {s : Sl} : ∀ {e : Env} {t : Nat}, eget (unb k s e) t = (eget e t).map (unbV k s)
  | [], t => rfl
  | (j, x) :: r, t => by
    simp only [unb, eget]
    cases Nat.beq j t with
    | true => rfl
    | false => exact unb_get

theorem unbV_is {β : Nat → Nat} {a : Act} {k : Nat} {x : SV} {v : Value} (hf : flat x = true) (h : x.is β a v) : (unbV k ⟨some ⟨β k, 0, none⟩, 1, 1⟩ x).is β a v := by
  have hadd : ∀ off, Addr.add ⟨β k, 0, none⟩ off = ⟨β k, off, none⟩ := by
    intro off
    simp only [Addr.add]; split
    · rename_i h; simp [h]
    · simp
  cases x with
  | v x => exact h
  | ep s c => exact h
  | bp j off =>
    simp only [unbV]
    cases hb : Nat.beq j k with
    | false => exact h
    | true =>
      have := Nat.eq_of_beq_eq_true hb
      subst this
      simp only [cond_true, SV.is, Option.map_some, hadd]
      exact h
  | cd g y =>
    cases y with
    | v x => exact h
    | ep s c => exact h
    | cd g' y => simp [flat] at hf
    | bp j off =>
      simp only [unbV]
      cases hb : Nat.beq j k with
      | false => exact h
      | true =>
        have := Nat.eq_of_beq_eq_true hb
        subst this
        refine ⟨fun hg => ?_, h.2⟩
        have := h.1 hg
        simp only [SV.is, Option.map_some, hadd] at this ⊢
        exact this

theorem flat_unbV {k : Nat} {s : Sl} {x : SV} (h : flat x = true) : flat (unbV k s x) = true := by
  cases x with
  | v x => rfl
  | ep s c => rfl
  | bp j off => simp only [unbV]; cases Nat.beq j k <;> rfl
  | cd g y =>
    cases y with
    | v x => rfl
    | ep s c => rfl
    | cd g' y => simp [flat] at h
    | bp j off => simp only [unbV]; cases Nat.beq j k <;> rfl

section
variable {c : Cx} {e : Env} {B : BL} {R O : List Fact} {stk : List SI}

theorem st_unbox {a : Act} {w : World} {β : Nat → Nat} (hs : St c a w β e B R O) (k0 : Nat) (hk : B.ids.any (Nat.beq k0) = true) {B' : BL} (hB : BSub B' B B'.ids) (hk' : B'.ids.any (Nat.beq k0) = false) (t : Ty) (x : t.den)
    (hx : takeF t x [] fun c r => r = [] ∧ B.cells k0 = c) : St c a w β (unb k0 ⟨some ⟨β k0, 0, none⟩, 1, 1⟩ e) B' R (⟨t, ⟨some ⟨β k0, 0, none⟩, 1, 1⟩, [x]⟩ :: O) := by
  have hkm : k0 ∈ B.ids := by
    obtain ⟨j, hj, he⟩ := List.any_eq_true.1 hk
    rw [Nat.eq_of_beq_eq_true he]; exact hj
  have hkn : ∀ j ∈ B'.ids, j ≠ k0 := by
    intro j hj he
    subst he
    have := List.any_eq_false.1 hk' j hj
    simp at this
  refine ⟨?_, ?_, hs.size, hs.def_, ?_⟩
  · intro t y hy
    rw [unb_get] at hy
    cases hq : eget e t with
    | none => rw [hq] at hy; cases hy
    | some z =>
      rw [hq] at hy
      simp only [Option.map_some, Option.some.injEq] at hy
      subst hy
      obtain ⟨h1, h2⟩ := hs.env t z hq
      exact ⟨h1, unbV_is (hs.flat t z hq) h2⟩
  · intro t y hy
    rw [unb_get] at hy
    cases hq : eget e t with
    | none => rw [hq] at hy; cases hy
    | some z =>
      rw [hq] at hy
      simp only [Option.map_some, Option.some.injEq] at hy
      subst hy
      exact flat_unbV (hs.flat t z hq)
  · obtain ⟨h1, h2, LO, h3, h4, h5, h6⟩ := hs.inv
    obtain ⟨hb1, hb2⟩ := hB.spec
    obtain ⟨n1, n2, n3⟩ := List.nodup_append.1 h4
    have hbk := h2 k0 hkm
    have hkb : β k0 ∈ B.ids.map β := List.mem_map.2 ⟨k0, hkm, rfl⟩
    obtain ⟨cs, used, rest, e1, ⟨rfl, e2⟩, h7⟩ := takeF_sound hx
    have hu : used = [] := by simpa using e1.symm
    subst hu
    have hrep := h7 w [] rfl
    have hcl := Rep.length t _ _ _ hrep
    have hfact : Fact.rep true w ⟨t, ⟨some ⟨β k0, 0, none⟩, 1, 1⟩, [x]⟩ [β k0] := by
      refine ⟨rfl, .inr ⟨β k0, 0, (B.cells k0).toArray, B.ty k0, (0, 0), [[]], rfl, hbk, Nat.le_refl _, ?_, ?_, by simp, rfl, ?_⟩⟩
      · simp [e2, hcl]
      · intro _ i _ h; omega
      · intro i hi hi'
        have : i = 0 := by simpa using hi
        subst this
        unfold elemCells
        simp only [List.getElem_cons_zero, Nat.zero_mul, Nat.add_zero, List.drop_zero, List.toList_toArray]
        rw [e2, List.take_of_length_le (by omega)]
        exact hrep
    have hsub : ∀ b ∈ B'.ids.map β ++ (β k0 :: LO), b ∈ B.ids.map β ++ LO := by
      intro b hb
      rcases List.mem_append.1 hb with hb | hb
      · obtain ⟨k, hk, rfl⟩ := List.mem_map.1 hb
        exact List.mem_append_left _ (List.mem_map.2 ⟨k, (hb1 k hk).1, rfl⟩)
      · rcases List.mem_cons.1 hb with rfl | hb
        · exact List.mem_append_left _ hkb
        · exact List.mem_append_right _ hb
    refine ⟨h1, ?_, β k0 :: LO, ⟨[β k0], LO, hfact, h3, rfl⟩, ?_, fun b hb => h5 b (hsub b hb), fun f hf => ?_⟩
    · intro k hk
      obtain ⟨h, e1, e2⟩ := hb1 k hk
      rw [e1, e2]; exact h2 k h
    · refine List.nodup_append.2 ⟨nodup_map n1 hb2 fun k hk => (hb1 k hk).1, List.nodup_cons.2 ⟨fun hm => n3 _ hkb _ hm rfl, n2⟩, fun z hz y hy => ?_⟩
      obtain ⟨k, hk, rfl⟩ := List.mem_map.1 hz
      rcases List.mem_cons.1 hy with rfl | hy
      · exact fun he => hkn k hk (nodup_map_inj n1 (hb1 k hk).1 hkm he)
      · exact n3 _ (List.mem_map.2 ⟨k, (hb1 k hk).1, rfl⟩) y hy
    · obtain ⟨L, hL, hd⟩ := h6 f hf
      exact ⟨L, hL, fun b hb hm => hd b hb (hsub b hm)⟩

theorem JS.unbox (k0 : Nat) (hk : B.ids.any (Nat.beq k0) = true) {B' : BL} (hB : BSub B' B B'.ids) (hk' : B'.ids.any (Nat.beq k0) = false) (t : Ty) (x : t.den) (hx : takeF t x [] fun c r => r = [] ∧ B.cells k0 = c)
    (e' : Option Addr → Env) (he : ∀ a, EnvSub (e' a) (unb k0 ⟨a, 1, 1⟩ e)) (k : ∀ a, JS c stk (e' a) B' R (⟨t, ⟨a, 1, 1⟩, [x]⟩ :: O)) : JS c stk e B R O := by
  intro a w β hs
  have h := st_unbox hs k0 hk hB hk' t x hx
  exact k _ a w β ⟨(he _).ok h.env, (he _).flat h.env h.flat, h.size, h.def_, h.inv⟩

theorem JO.unbox {ops : Array Oper} {i : Nat} (k0 : Nat) (hk : B.ids.any (Nat.beq k0) = true) {B' : BL} (hB : BSub B' B B'.ids) (hk' : B'.ids.any (Nat.beq k0) = false) (t : Ty) (x : t.den) (hx : takeF t x [] fun c r => r = [] ∧ B.cells k0 = c)
    (e' : Option Addr → Env) (he : ∀ a, EnvSub (e' a) (unb k0 ⟨a, 1, 1⟩ e)) (k : ∀ a, JO c ops i stk (e' a) B' R (⟨t, ⟨a, 1, 1⟩, [x]⟩ :: O)) : JO c ops i stk e B R O := by
  intro a w β hs
  have h := st_unbox hs k0 hk hB hk' t x hx
  exact k _ a w β ⟨(he _).ok h.env, (he _).flat h.env h.flat, h.size, h.def_, h.inv⟩

theorem is_ptr {β : Nat → Nat} {a : Act} {p : Option Addr} {v : Value} (h : (SV.v (.pointer p)).is β a v) : (SV.ep ⟨p, 1, 1⟩ 0).is β a v := by
  have h' : v = .pointer p := h
  subst h'
  show Value.pointer p = _
  cases p with
  | none => rfl
  | some q => simp [Addr.add]

/-- The slot t holds the pointer p: it is read as the address of a row. -/
theorem JS.ptr (t : Nat) (p : Option Addr) (ht : eget e t = some (.v (.pointer p))) (k : JS c stk ((t, .ep ⟨p, 1, 1⟩ 0) :: e) B R O) : JS c stk e B R O := by
  intro a w β hs
  refine k a w β ⟨?_, ?_, hs.size, hs.def_, hs.inv⟩
  · intro u x hx
    simp only [eget] at hx
    cases hb : Nat.beq t u with
    | true =>
      rw [hb, cond_true] at hx
      simp only [Option.some.injEq] at hx
      subst hx
      have := Nat.eq_of_beq_eq_true hb
      subst this
      obtain ⟨h1, h2⟩ := hs.env _ _ ht
      exact ⟨h1, is_ptr h2⟩
    | false => rw [hb, cond_false] at hx; exact hs.env _ _ hx
  · intro u x hx
    simp only [eget] at hx
    cases hb : Nat.beq t u with
    | true =>
      rw [hb, cond_true] at hx
      simp only [Option.some.injEq] at hx
      subst hx; rfl
    | false => rw [hb, cond_false] at hx; exact hs.flat _ _ hx
end
end Go.Eng

set_option linter.unusedSimpArgs false
set_option linter.unusedVariables false
namespace Go.Eng
open Go Go.RowKit

def convOf (o : Oper) : Option (Nat × Nat × Operand) := match o.op with
  | .convert s d x => some (s, d, x)
  | _ => none

theorem foldl_bs (xs : List UInt8) : (xs.map fun x => (x.toNat : Int)).foldl (fun r n => r.push (UInt8.ofNat n.toNat)) ByteArray.empty = bs xs := by
  have key : ∀ (xs : List UInt8) (r : ByteArray), ((xs.map fun x => (x.toNat : Int)).foldl (fun r n => r.push (UInt8.ofNat n.toNat)) r) = ⟨(r.data.toList ++ xs).toArray⟩ := by
    intro xs
    induction xs with
    | nil => intro r; simp
    | cons x xs ih =>
      intro r
      simp only [List.map_cons, List.foldl_cons]
      rw [ih]
      congr 1
      simp [ByteArray.push]
  rw [key]
  rfl

theorem fact_bytes {P : Program} {w : World} {s : Sl} {xs : List UInt8} {L : List Nat} (h : Fact.rep false w ⟨.byte, s, xs⟩ L) :
    (Conv.bytesToString s.v).run P w = .ok (.string (bs xs)) w := by
  obtain ⟨hl, h⟩ := h
  simp only at hl h
  obtain ⟨a, len, cap⟩ := s
  simp only at hl h
  subst hl
  rcases h with ⟨_, rfl, _⟩ | ⟨b, off, c, ty, fz, Ls, rfl, h2, h3, h4, _, _, h7, h8⟩
  · cases a with
    | none => rfl
    | some a =>
      have := run_bytesToString (P := P) w a 0 cap [] (by simp [loadCells, Sem.run_pure]; rfl)
      exact this
  · have hload : (loadCells ⟨b, off, none⟩ xs.length).run P w = .ok ((xs.map fun x => (x.toNat : Int)).map (Value.int .u8)).toArray w := by
      have h4' : off + cap * 1 ≤ c.size := h4
      rw [run_loadCells' b off xs.length c ty fz h2 (by omega)]
      congr 2
      apply List.ext_getElem?
      intro i
      by_cases hi : i < xs.length
      · have hq := h8 i hi (by omega)
        have hq' : elemCells c off 1 i = [.int .u8 (xs[i].toNat : Int)] := hq.1
        unfold elemCells at hq'
        have := congrArg (fun l => l[0]?) hq'
        simp only [List.getElem?_take, List.getElem?_drop, Nat.mul_one, Nat.zero_lt_one, if_true, Nat.add_zero] at this
        rw [List.getElem?_take_of_lt hi, List.getElem?_drop, this]
        simp [hi]
      · rw [List.getElem?_eq_none (by simp; omega), List.getElem?_eq_none (by simp; omega)]
    have := run_bytesToString (P := P) w ⟨b, off, none⟩ xs.length cap _ hload
    rw [foldl_bs] at this
    exact this

theorem run_strOf {P : Program} {T : TT} (hT : TTok P T) {a : Act} {w : World} {o : Oper} {src dst el' : Nat} {x : Operand} (hc : convOf o = some (src, dst, x)) (hsrc : T.kind src = some (.slice el')) (hel : T.kind el' = some (.int .u8)) (hdst : T.kind dst = some .str)
    {s : Sl} (hx : a.eval x = s.v) {xs : List UInt8} {L : List Nat} (hf : Fact.rep false w ⟨.byte, s, xs⟩ L) :
    (execOp a.eval o).run P w = .ok (.value (.string (bs xs))) w := by
  obtain ⟨d, op, ty', po, af, gu⟩ := o
  unfold convOf at hc
  simp only at hc
  split at hc
  · rename_i s' d' x'
    simp only [Option.some.injEq, Prod.mk.injEq] at hc
    obtain ⟨rfl, rfl, rfl⟩ := hc
    obtain ⟨i1, j1, k1⟩ := kind_get hsrc
    obtain ⟨i2, j2, k2⟩ := kind_get hel
    obtain ⟨i3, j3, k3⟩ := kind_get hdst
    have u1 := (hT _ _ j1).und
    have u2 := (hT _ _ j2).und
    have u3 := (hT _ _ j3).und
    simp only [k1] at u1
    simp only [k2] at u2
    simp only [k3] at u3
    have hq : execOp a.eval ⟨d, .convert s' d' x', ty', po, af, gu⟩ = (convert s' d' (a.eval x') >>= fun v => pure (.value v)) := rfl
    rw [hq, hx, Sem.run_bind]
    obtain ⟨sa, sl, sc⟩ := s
    rw [run_convert_bytes_string w _ _ _ sa sl sc u1 u2 u3]
    have := fact_bytes (P := P) hf
    rw [this]
    rfl
  · cases hc

section
variable {c : Cx} {e : Env} {B : BL} {R O : List Fact} {stk : List SI}

theorem JA.strOf (hT : TTok c.P c.T) (hq : PanicOk c) {ops : Array Oper} {BS : BL} {RS : List Fact} {β0 : Nat → Nat} {late : List Nat} {m : Nat} {L : Array Bool} (i : Nat) {o : Oper} (ho : ops.toList[i]? = some o) (hok : takeOk ops late true L i = true)
    {src dst el' : Nat} {p : Operand} (hl : convOf o = some (src, dst, p)) {d : Nat} (hd : o.dst = some d)
    {G : List (Nat × Bool)} (hG : gpath ops.toList e o = some G) (hsrc : c.T.kind src = some (.slice el')) (hel : c.T.kind el' = some (.int .u8)) (hdst : c.T.kind dst = some .str) {s : Sl} (hp : evv e G p = some s.v)
    (idx : Nat) {xs : List UInt8} (hf : RS[idx]? = some ⟨.byte, s, xs⟩) (hput : (okPut c.nt e (.v (.string (bs xs))) d && notIn d G) = true)
    (hB : BSub BS B BS.ids) (idxR : List Nat) (hR : getF (R ++ O) idxR = some RS)
    (k : JA c ops ⟨BS, RS, β0⟩ late m (L.setIfInBounds i true) stk ((d, wrapG G (.v (.string (bs xs)))) :: e) B R O) : JA c ops ⟨BS, RS, β0⟩ late (m + 1) L stk e B R O := by
  refine JA.take_step hq ho hok hG hd hput (fun a β w he hL hP hH => ?_) (fun _ w β hi hL => sd_holds hi hL hB idxR hR) k
  obtain ⟨M, hM⟩ := (hP rfl).2 _ (List.mem_of_getElem? hf)
  exact run_strOf hT hl hsrc hel hdst (evv_sound he hH hp) hM
end
end Go.Eng

set_option linter.unusedSimpArgs false
set_option linter.unusedVariables false
namespace Go.Eng
open Go Go.RowKit

theorem ptr0 : (0 : Int) ≤ 0 ∧ (0 : Int) < ((1 : Nat) : Int) := by decide

section
variable {c : Cx} {e : Env} {B : BL} {R O : List Fact} {stk : List SI}
theorem st_ptr {a : Act} {w : World} {β : Nat → Nat} (hs : St c a w β e B R O) (t : Nat) (p : Option Addr) (ht : eget e t = some (.v (.pointer p))) : St c a w β ((t, .ep ⟨p, 1, 1⟩ 0) :: e) B R O := by
  refine ⟨?_, ?_, hs.size, hs.def_, hs.inv⟩
  · intro u x hx
    simp only [eget] at hx
    cases hb : Nat.beq t u with
    | true =>
      rw [hb, cond_true] at hx
      simp only [Option.some.injEq] at hx
      subst hx
      have := Nat.eq_of_beq_eq_true hb
      subst this
      obtain ⟨h1, h2⟩ := hs.env _ _ ht
      exact ⟨h1, is_ptr h2⟩
    | false => rw [hb, cond_false] at hx; exact hs.env _ _ hx
  · intro u x hx
    simp only [eget] at hx
    cases hb : Nat.beq t u with
    | true =>
      rw [hb, cond_true] at hx
      simp only [Option.some.injEq] at hx
      subst hx; rfl
    | false => rw [hb, cond_false] at hx; exact hs.flat _ _ hx
theorem JO.ptr {ops : Array Oper} {i : Nat} (t : Nat) (p : Option Addr) (ht : eget e t = some (.v (.pointer p))) (k : JO c ops i stk ((t, .ep ⟨p, 1, 1⟩ 0) :: e) B R O) : JO c ops i stk e B R O :=
  fun a w β hs => k a w β (st_ptr hs t p ht)
end
end Go.Eng

set_option linter.unusedSimpArgs false
set_option linter.unusedVariables false
namespace Go.Eng
open Go Go.RowKit

end Go.Eng

set_option linter.unusedSimpArgs false
set_option linter.unusedVariables false
namespace Go.Eng
open Go Go.RowKit

def subS (s : Sl) (size l h : Nat) : Sl := ⟨if s.cap = l then s.a else s.a.map (·.add (l * size)), h - l, s.cap - l⟩

theorem run_sliceG {P : Program} {T : TT} (hT : TTok P T) {a : Act} {w : World} {β : Nat → Nat} {e : Env} {g : List (Nat × Bool)} (he : EnvOk β a e) (hg : Holds a g) {o : Oper} {tt : Nat} {x : Operand} {lo hi : Option Operand} (ho : sliceOf o = some (tt, x, lo, hi)) {el' : Nat} {ei : TI} (hk : T.kind tt = some (.slice el')) (hei : T.get el' = some ei)
    {s : Sl} (hx : evv e g x = some s.v) {l h : Int} (hl : bnd e g 0 lo = some l) (hh : bnd e g s.len hi = some h) (hc : 0 ≤ l ∧ l ≤ h ∧ h ≤ s.cap) (hlc : s.len ≤ s.cap) :
    (execOp a.eval o).run P w = .ok (.value (subS s ei.size l.toNat h.toNat).v) w := by
  obtain ⟨d, op, ty, po, af, gu⟩ := o
  unfold sliceOf at ho
  simp only at ho
  split at ho
  · split at ho
    · rename_i _ t x' lo' hi' _
      simp only [Option.some.injEq, Prod.mk.injEq] at ho
      obtain ⟨rfl, rfl, rfl, rfl⟩ := ho
      have h1 := evv_sound he hg hx
      obtain ⟨ti, hti, hik⟩ := kind_get hk
      have hu := (hT _ _ hti).und
      simp only [hik] at hu
      have hund : (underlying t).run P w = .ok (.slice el') w := by simp [underlying, go_sem, hu]
      have hsz := run_sizeOf hT hei w
      obtain ⟨c1, c2, c3⟩ := hc
      have hb : (Instr.sliceBounds true s.len s.cap (lo'.map a.eval) (hi'.map a.eval) none).run P w = .ok (l.toNat, h.toNat, s.cap) w := by
        rcases bnd_sound' he hg hl with ⟨rfl, rfl⟩ | ⟨xl, kl, rfl, hxl⟩ <;> rcases bnd_sound' he hg hh with ⟨rfl, rfl⟩ | ⟨xh, kh, rfl, hxh⟩
        · simp [Instr.sliceBounds, Sem.run_bind]
        · have b1 := sliceBound_run (P := P) (w := w) (k := kh) (code := .sliceAcap) (y := s.cap) (by omega : 0 ≤ h) (by omega)
          simp [Instr.sliceBounds, Sem.run_bind, hxh, b1]
        · have b1 := sliceBound_run (P := P) (w := w) (k := kl) (code := .sliceB) (y := s.len) (by omega : 0 ≤ l) (by omega)
          simp [Instr.sliceBounds, Sem.run_bind, hxl, b1]
        · have b1 := sliceBound_run (P := P) (w := w) (k := kh) (code := .sliceAcap) (y := s.cap) (by omega : 0 ≤ h) (by omega)
          have b2 := sliceBound_run (P := P) (w := w) (k := kl) (code := .sliceB) (y := h.toNat) (by omega : 0 ≤ l) (by omega)
          simp [Instr.sliceBounds, Sem.run_bind, hxl, hxh, b1, b2]
      have hq : execOp a.eval ⟨d, .slice t x' lo' hi' none, ty, po, af, gu⟩ = (Instr.sliceAt t (a.eval x') (lo'.map a.eval) (hi'.map a.eval) none >>= fun v => pure (.value v)) := rfl
      rw [hq, h1]
      unfold Instr.sliceAt
      simp only [Sem.run_bind, hund, Result.andThen_ok]
      unfold Instr.slice
      simp only [Sem.run_bind, hund, Result.andThen_ok, Sl.v]
      simp [Sem.run_bind, hb, hsz, subS]
    · cases ho
  · cases ho

section
variable {c : Cx} {e : Env} {B : BL} {R O : List Fact} {stk : List SI}

theorem st_sub' {a : Act} {w : World} {β : Nat → Nat} (hs : St c a w β e B R O) (j : Nat) {t : Ty} {s : Sl} {xs : List t.den} (hj : R[j]? = some ⟨t, s, xs⟩) (l h : Int) :
    ∃ a' cap', (0 ≤ l ∧ l ≤ h ∧ h ≤ (xs.length : Int) → subS s t.size l.toNat h.toNat = ⟨a', (sub' xs l h).length, cap'⟩) ∧ St c a w β e B (⟨t, ⟨a', (sub' xs l h).length, cap'⟩, sub' xs l h⟩ :: R) O := by
  obtain ⟨h1, h2, LO, h3, h4, h5, h6⟩ := hs.inv
  obtain ⟨L, hL, hd⟩ := h6 _ (List.mem_of_getElem? hj)
  have hlen : s.len = xs.length := hL.1
  have key : ∃ (a' : Option Addr) (cap' : Nat) (L' : List Nat), (0 ≤ l ∧ l ≤ h ∧ h ≤ (xs.length : Int) → subS s t.size l.toNat h.toNat = ⟨a', (sub' xs l h).length, cap'⟩) ∧ Fact.rep false w ⟨t, ⟨a', (sub' xs l h).length, cap'⟩, sub' xs l h⟩ L' ∧ ∀ b ∈ L', b ∈ L := by
    by_cases hr : 0 ≤ l ∧ l ≤ h ∧ h ≤ (xs.length : Int)
    · obtain ⟨L', hL', hsub⟩ := rep_sub hL (l := l.toNat) (h := h.toNat) (by omega) (by omega)
      have hsl := sub_len hr
      refine ⟨if s.cap = l.toNat then s.a else s.a.map (·.add (l.toNat * t.size)), s.cap - l.toNat, L', fun _ => ?_, ?_, fun b hb => hsub.subset hb⟩
      · unfold subS; rw [hsl]
      · rw [hsl]; exact hL'
    · by_cases hn : (sub' xs l h).length = 0
      · refine ⟨none, 0, [], fun hh => absurd hh hr, ?_, by simp⟩
        have : sub' xs l h = [] := List.eq_nil_of_length_eq_zero hn
        rw [this]
        exact ⟨rfl, .inl ⟨rfl, rfl, rfl⟩⟩
      · have hle : l.toNat + (sub' xs l h).length ≤ xs.length := by
          unfold sub' at hn ⊢
          simp only [List.length_take, List.length_drop] at hn ⊢
          omega
        have heq : sub' xs l h = (xs.drop l.toNat).take (l.toNat + (sub' xs l h).length - l.toNat) := by
          have e : l.toNat + (sub' xs l h).length - l.toNat = (sub' xs l h).length := by omega
          rw [e]
          unfold sub'
          rw [List.length_take, List.take_eq_take_iff]
          omega
        obtain ⟨L', hL', hsub⟩ := rep_sub hL (l := l.toNat) (h := l.toNat + (sub' xs l h).length) (by omega) (by omega)
        rw [← heq] at hL'
        have e : l.toNat + (sub' xs l h).length - l.toNat = (sub' xs l h).length := by omega
        rw [e] at hL'
        exact ⟨if s.cap = l.toNat then s.a else s.a.map (·.add (l.toNat * t.size)), s.cap - l.toNat, L', fun hh => absurd hh hr, hL', fun b hb => hsub.subset hb⟩
  obtain ⟨a', cap', L', k1, k2, k3⟩ := key
  refine ⟨a', cap', k1, ⟨hs.env, hs.flat, hs.size, hs.def_, h1, h2, LO, h3, h4, h5, fun f hf => ?_⟩⟩
  rcases List.mem_cons.1 hf with rfl | hf
  · exact ⟨L', k2, fun b hb => hd b (k3 b hb)⟩
  · exact h6 f hf

theorem JS.subR (j : Nat) {t : Ty} {s : Sl} {xs : List t.den} (hj : R[j]? = some ⟨t, s, xs⟩) (l h : Int)
    (k : ∀ a' cap', (0 ≤ l ∧ l ≤ h ∧ h ≤ (xs.length : Int) → subS s t.size l.toNat h.toNat = ⟨a', (sub' xs l h).length, cap'⟩) → JS c stk e B (⟨t, ⟨a', (sub' xs l h).length, cap'⟩, sub' xs l h⟩ :: R) O) : JS c stk e B R O := by
  intro a w β hs
  obtain ⟨a', cap', h1, h2⟩ := st_sub' hs j hj l h
  exact k a' cap' h1 a w β h2

theorem JA.sliceP (hT : TTok c.P c.T) (hq : PanicOk c) {ops : Array Oper} {s0 : SD} {late : List Nat} {m : Nat} {L : Array Bool} (i : Nat) {o : Oper} (ho : ops.toList[i]? = some o) (hok : takeOk ops late false L i = true)
    {tt : Nat} {x : Operand} {lo hi : Option Operand} (ha : sliceOf o = some (tt, x, lo, hi)) {d : Nat} (hd : o.dst = some d)
    {G : List (Nat × Bool)} (hG : gpath ops.toList e o = some G) {el' : Nat} {ei : TI} (hk : c.T.kind tt = some (.slice el')) (hei : c.T.get el' = some ei) {s s' : Sl} (hx : evv e G x = some s.v) (l h : Int) (hl : bnd e G 0 lo = some l) (hh : bnd e G s.len hi = some h)
    (hc : gImp e G (0 ≤ l ∧ l ≤ h ∧ h ≤ (s.len : Int) ∧ s.len ≤ s.cap ∧ subS s ei.size l.toNat h.toNat = s')) (hput : (okPut c.nt e (.v s'.v) d && notIn d G) = true)
    (k : JA c ops s0 late m (L.setIfInBounds i true) stk ((d, wrapG G (.v s'.v)) :: e) B R O) : JA c ops s0 late (m + 1) L stk e B R O := by
  refine JA.take_step (ld := false) hq ho hok hG hd hput (fun a β w he hL hP hH => ?_) (fun h => by cases h) k
  obtain ⟨h1, h2, h3, h4, h5⟩ := gImp_sound he hH hc
  have := run_sliceG hT (w := w) he hH ha hk hei hx hl hh ⟨h1, h2, by omega⟩ h4
  rw [h5] at this
  exact this

variable {Λ : (Nat → Nat) → Prop} {K : Act → World → Prop} {Q : Exit → Act → World → Prop}

theorem JK.strOf (hT : TTok c.P c.T) {ops : Array Oper} {i : Nat} {o : Oper} (ho : ops.toList[i]? = some o) (hg : o.guard = none) {src dst el' : Nat} {p : Operand} (hl : convOf o = some (src, dst, p)) {d : Nat} (hd : o.dst = some d)
    (hsrc : c.T.kind src = some (.slice el')) (hel : c.T.kind el' = some (.int .u8)) (hdst : c.T.kind dst = some .str) {s : Sl} (hp : evv e [] p = some s.v)
    (idx : Nat) {xs : List UInt8} (hf : (R ++ O)[idx]? = some ⟨.byte, s, xs⟩) (hput : okPut c.nt e (.v (.string (bs xs))) d = true)
    (k : JK c Λ K ((d, .v (.string (bs xs))) :: e) B R O) : JK c Λ (wpOp c.P ops Q i K) e B R O := by
  refine JK.step ho hg hd fun a w β hst => ?_
  obtain ⟨L, hL⟩ := hst.inv.fact (List.mem_of_getElem? hf)
  exact ⟨_, w, .v _, O, run_strOf hT hl hsrc hel hdst (evv_sound hst.env (g := []) (fun p hp => by cases hp) hp) hL, hput, rfl, hst.inv, k⟩
end
end Go.Eng

set_option linter.unusedSimpArgs false
set_option linter.unusedVariables false
namespace Go.Eng
open Go Go.RowKit

def mkFuncOf (o : Oper) : Option (Nat × List Operand) := match o.op with
  | .makeFunc fn first captured => match fn, first.toList with
    | .func f, [] => some (f, captured.toList)
    | _, _ => none
  | _ => none

theorem run_mkFunc {P : Program} {a : Act} {o : Oper} {f : Nat} {os : List Operand} {w : World} (h : mkFuncOf o = some (f, os)) :
    (execOp a.eval o).run P w = .ok (.value (.func (.func f) #[] (os.map a.eval).toArray)) w := by
  obtain ⟨d, op, ty, po, af, gu⟩ := o
  unfold mkFuncOf at h
  simp only at h
  split at h
  · rename_i fn first captured
    split at h
    · rename_i f' hf
      simp only [Option.some.injEq, Prod.mk.injEq] at h
      obtain ⟨rfl, rfl⟩ := h
      have hfe : first = #[] := by apply Array.ext'; simpa using hf
      subst hfe
      have : execOp a.eval ⟨d, .makeFunc (.func f') #[] captured, ty, po, af, gu⟩ = (Instr.makeFunc (.func f') (#[].map a.eval) (captured.map a.eval) >>= fun v => pure (.value v)) := rfl
      rw [this, Sem.run_bind]
      have e : captured.map a.eval = (captured.toList.map a.eval).toArray := by apply Array.ext'; simp
      have e0 : (#[] : Array Operand).map a.eval = #[] := by simp
      rw [e, e0]
      rfl
    · cases h
  · cases h

def callVOf (o : Oper) : Option (Operand × List Operand) := match o.op with
  | .call c => match c.callee with
    | .value f => some (f, c.args.toList)
    | _ => none
  | _ => none

theorem run_callV {P : Program} {a : Act} {o : Oper} {fo : Operand} {f : Nat} {caps : List Value} {os : List Operand} {w : World} (h : callVOf o = some (fo, os)) (hf : a.eval fo = .func (.func f) #[] caps.toArray) (henter : ∀ args w, (callFunc f args).run P w = .ok (.enter f args) w) :
    (execOp a.eval o).run P w = .ok (.enter f (os.map a.eval ++ caps).toArray) w := by
  obtain ⟨d, op, ty, po, af, gu⟩ := o
  unfold callVOf at h
  simp only at h
  split at h
  · rename_i c
    split at h
    · rename_i f' hc
      obtain ⟨ca, args, ts⟩ := c
      simp only [Option.some.injEq, Prod.mk.injEq] at h hc
      obtain ⟨rfl, rfl⟩ := h
      subst hc
      have hq : execOp a.eval ⟨d, .call ⟨.value f', args, ts⟩, ty, po, af, gu⟩ = (resolve a.eval ⟨.value f', args, ts⟩ ty >>= fun d => invoke d.target d.args : Sem Next) := rfl
      rw [hq, Sem.run_bind]
      unfold resolve
      simp only [hf]
      have hd : (Deferred.ofValue (.func (.func f) #[] caps.toArray) (args.map a.eval)).run P w = .ok { target := .fn (.func f) caps.toArray, args := #[] ++ args.map a.eval } w := rfl
      rw [hd]
      simp only [Result.andThen_ok]
      show (callFunc f ((#[] ++ args.map a.eval) ++ caps.toArray)).run P w = _
      rw [henter]
      congr 2
      apply Array.ext'
      simp
    · cases h
  · cases h

section
variable {c : Cx} {e : Env} {B : BL} {R O : List Fact} {stk : List SI}

theorem JO.mkFunc {ops : Array Oper} {i : Nat} {o : Oper} (ho : ops.toList[i]? = some o) (hg : o.guard = none) {f : Nat} {os : List Operand} (hc : mkFuncOf o = some (f, os)) {d : Nat} (hd : o.dst = some d) {vs : List Value} (hvs : evvs e [] os = some vs)
    (hput : okPut c.nt e (.v undef) d = true) (k : JO c ops (i + 1) stk ((d, .v (.func (.func f) #[] vs.toArray)) :: e) B R O) : JO c ops i stk e B R O := by
  refine JO.step ho hg hd fun a w β hst => ?_
  have hargs := evvs_sound hst.env (g := []) (fun p hp => by cases hp) hvs
  have hrun := run_mkFunc (P := c.P) (a := a) (w := w) hc
  rw [hargs] at hrun
  exact ⟨_, w, .v _, O, hrun, by exact hput, rfl, hst.inv, k⟩

/-- A call of a function value that is known. -/
theorem JO.callXV {ops : Array Oper} {i : Nat} {o : Oper} (ho : ops.toList[i]? = some o) {fo : Operand} {f : Nat} {caps : List Value} {os : List Operand} (hc : callVOf o = some (fo, os)) (hfo : evv e [] fo = some (.func (.func f) #[] caps.toArray)) {d : Nat} (hd : o.dst = some d) (hg : o.guard = none)
    {vs0 : List Value} {pR pO : List Fact} {ρ : Type} {φ : ρ → Prop} {val : ρ → Value} {fs : ρ → List Fact} (C : FX c.P f (vs0 ++ caps) pR pO φ val fs) (hvs : evvs e [] os = some vs0)
    (idx : List Nat) {rest : List Fact} (hp : pickO idx O = some (pO, rest)) (idxR : List Nat) (hpre : getF R idxR = some pR) (hput : okPut c.nt e (.v undef) d = true)
    (k : ∀ r, φ r → JO c ops (i + 1) stk ((d, .v (val r)) :: e) B R (fs r ++ rest)) : JO c ops i stk e B R O := by
  intro a w β hs
  obtain ⟨ho', hr⟩ := range'_cons ho
  rw [hr]
  have hw : Region.wanted o (yielded ops a.tmps) = true := by simp [Region.wanted, hg]
  refine wpOps_cons ho' (fun _ => ?_) (fun h => by rw [hw] at h; cases h)
  have hargs := evvs_sound hs.env (g := []) (fun p hp => by cases hp) hvs
  have hfv := evv_sound hs.env (g := []) (fun p hp => by cases hp) hfo
  have hrun := run_callV (a := a) (w := w) hc hfv C.enter
  rw [hargs] at hrun
  obtain ⟨h1, h2, LO, h3, h4, h5, h6⟩ := hs.inv.pick hp
  obtain ⟨L, Lr, k1, k2, rfl⟩ := h3.split
  obtain ⟨n1, n2, n3⟩ := List.nodup_append.1 h4
  refine wp_enter hrun (C.calls w L k1 (List.nodup_append.1 n2).1 fun x hx => ?_) ?_ ?_ ?_
  · obtain ⟨M, hM, hd'⟩ := h6 x (getF_mem hpre x hx)
    exact ⟨M, hM, fun b hb hm => hd' b hb (List.mem_append_right _ (List.mem_append_left _ hm))⟩
  · rintro v w' ⟨r, hφ, he, hk, L', hL', hnd, hge⟩
    simp only [Ending.returned.injEq] at he
    subst he
    rw [hd]
    exact k r hφ _ _ β (st_put hs (by exact hput) rfl (inv_change h1 h2 k1 k2 h4 h5 h6 hk hL' hnd hge))
  · rintro ch w' ⟨r, hφ, he, _⟩; cases he
  · rintro w' ⟨r, hφ, he, _⟩; cases he
end
end Go.Eng

set_option linter.unusedSimpArgs false
set_option linter.unusedVariables false
namespace Go.Eng
open Go Go.RowKit

/-- What a guarded slice is: empty where the guard does not hold. -/
def gl {α : Type} (c : Bool) (xs : List α) : List α := bif c then xs else []

end Go.Eng

set_option linter.unusedSimpArgs false
set_option linter.unusedVariables false
namespace Go.Eng
open Go Go.RowKit

end Go.Eng

set_option linter.unusedSimpArgs false
set_option linter.unusedVariables false
namespace Go.Eng
open Go Go.RowKit

def nodupB : List Nat → Bool
  | [] => true
  | i :: r => r.all (fun j => !(Nat.beq i j)) && nodupB r

theorem getF_cons {L : List Fact} {i : Nat} {r : List Nat} {l : List Fact} (h : getF L (i :: r) = some l) : ∃ f fs, L[i]? = some f ∧ getF L r = some fs ∧ l = f :: fs := by
  simp only [getF] at h
  split at h
  · rename_i f fs h1 h2
    simp only [Option.some.injEq] at h
    exact ⟨f, fs, h1, h2, h.symm⟩
  · cases h

theorem getF_erase {O : List Fact} {i : Nat} : ∀ (r : List Nat), (∀ j ∈ r, j ≠ i) → getF (O.eraseIdx i) (r.map fun j => if j < i then j else j - 1) = getF O r
  | [], _ => rfl
  | j :: r, h => by
    have hj := h j (by simp)
    have e : (O.eraseIdx i)[if j < i then j else j - 1]? = O[j]? := by
      rw [List.getElem?_eraseIdx]
      by_cases hlt : j < i
      · rw [if_pos hlt, if_pos hlt]
      · rw [if_neg hlt, if_neg (by omega)]
        congr 1; omega
    simp only [List.map_cons, getF, e, getF_erase r (fun k hk => h k (by simp [hk]))]

theorem nodup_shift {i : Nat} : ∀ (r : List Nat), (∀ j ∈ r, j ≠ i) → nodupB r = true → nodupB (r.map fun j => if j < i then j else j - 1) = true
  | [], _, _ => rfl
  | j :: r, h, hn => by
    simp only [nodupB, Bool.and_eq_true, List.all_eq_true] at hn
    simp only [List.map_cons, nodupB, Bool.and_eq_true, List.all_eq_true]
    refine ⟨fun k hk => ?_, nodup_shift r (fun k hk => h k (by simp [hk])) hn.2⟩
    obtain ⟨q, hq, rfl⟩ := List.mem_map.1 hk
    have h1 := hn.1 q hq
    have hj := h j (by simp)
    have hqi := h q (by simp [hq])
    have hne : j ≠ q := by
      intro e; subst e
      simp at h1
    have : ¬ (if j < i then j else j - 1) = (if q < i then q else q - 1) := by
      split <;> split <;> omega
    cases hb : Nat.beq (if j < i then j else j - 1) (if q < i then q else q - 1) with
    | false => rfl
    | true => exact absurd (Nat.eq_of_beq_eq_true hb) this

theorem pick_abs : ∀ (idx : List Nat) {O fs : List Fact}, getF O idx = some fs → nodupB idx = true → ∃ idx' rest, pickO idx' O = some (fs, rest)
  | [], O, fs, h, _ => by
    simp only [getF, Option.some.injEq] at h
    subst h
    exact ⟨[], O, rfl⟩
  | i :: r, O, fs, h, hn => by
    obtain ⟨f, fs', h1, h2, rfl⟩ := getF_cons h
    simp only [nodupB, Bool.and_eq_true, List.all_eq_true] at hn
    have hne : ∀ j ∈ r, j ≠ i := by
      intro j hj e
      have := hn.1 j hj
      subst e
      simp at this
    have h3 : getF (O.eraseIdx i) (r.map fun j => if j < i then j else j - 1) = some fs' := by rw [getF_erase r hne]; exact h2
    have hlen : (r.map fun j => if j < i then j else j - 1).length = r.length := by simp
    obtain ⟨idx', rest, k⟩ := pick_abs (r.map fun j => if j < i then j else j - 1) h3 (nodup_shift r hne hn.2)
    exact ⟨i :: idx', rest, by simp only [pickO, h1, k]⟩
termination_by idx => idx.length

section
variable {c : Cx} {e : Env} {B : BL} {R O : List Fact} {stk : List SI}
/-- A join's end: the owned facts by their places in the list as it is. -/
theorem JS.endJA {ι : Type} {I : LS ι} (x : ι) (hx : I.Φ x) (he : EnvSub (I.E x) e) (hB : BSub (I.B x) B (I.B x).ids) (idxR : List Nat) (hR : getF R idxR = some (I.R x)) (idx : List Nat) (hO : getF O idx = some (I.O x)) (hn : nodupB idx = true) :
    JS c (.l (LJ c I) :: stk) e B R O := by
  obtain ⟨idx', rest, h⟩ := pick_abs idx hO hn
  exact JS.endJ x hx he hB idxR hR idx' h

theorem JS.endLA {ι : Type} {I : LS ι} {n : Nat} (x : ι) (hx : I.Φ x) (hm : I.m x < n) (he : EnvSub (I.E x) e) (hB : BSub (I.B x) B (I.B x).ids) (idxR : List Nat) (hR : getF R idxR = some (I.R x)) (idx : List Nat) (hO : getF O idx = some (I.O x)) (hn : nodupB idx = true) :
    JS c (.l (LEnd c I n) :: stk) e B R O := by
  obtain ⟨idx', rest, h⟩ := pick_abs idx hO hn
  exact JS.endL x hx hm he hB idxR hR idx' h
end
end Go.Eng

set_option linter.unusedSimpArgs false
set_option linter.unusedVariables false
namespace Go.Eng
open Go Go.RowKit

end Go.Eng

set_option linter.unusedSimpArgs false
set_option linter.unusedVariables false
namespace Go.Eng
open Go Go.RowKit

end Go.Eng

set_option linter.unusedSimpArgs false
set_option linter.unusedVariables false
namespace Go.Eng
open Go Go.RowKit

end Go.Eng

set_option linter.unusedSimpArgs false
set_option linter.unusedVariables false
namespace Go.Eng
open Go Go.RowKit

end Go.Eng

set_option linter.unusedSimpArgs false
set_option linter.unusedVariables false
namespace Go.Eng
open Go Go.RowKit

end Go.Eng

set_option linter.unusedVariables false
namespace Go.Eng
open Go Go.RowKit

end Go.Eng

namespace Go.Eng
open Go Go.RowKit

end Go.Eng

namespace Go
end Go

namespace Go.Eng
open Go Go.RowKit

theorem Es : ∀ {d e : Env}, (d.map fun p => eget e p.1) = (d.map fun p => some p.2) → EnvSub d e
  | [], _, _ => trivial
  | (t, x) :: r, e, h => by
    simp only [List.map_cons, List.cons.injEq] at h
    exact ⟨h.1, Es h.2⟩

def bOk (B : BL) : List Nat → Bool
  | [] => true
  | k :: r => B.ids.any (Nat.beq k) && !r.any (Nat.beq k) && bOk B r

theorem Bs {B' B : BL} : ∀ {l : List Nat}, bOk B l = true → (l.map fun k => (B'.cells k, B'.ty k)) = (l.map fun k => (B.cells k, B.ty k)) → BSub B' B l
  | [], _, _ => trivial
  | k :: r, h1, h2 => by
    simp only [bOk, Bool.and_eq_true, Bool.not_eq_true'] at h1
    simp only [List.map_cons, List.cons.injEq, Prod.mk.injEq] at h2
    exact ⟨h1.1.1, h2.1.1, h2.1.2, h1.1.2, Bs h1.2 h2.2⟩

section
variable {c : Cx} {e : Env} {B : BL} {R O : List Fact} {stk : List SI}

theorem JS.rg (hT : TTok c.P c.T) {id : Nat} {ops : Array Oper} {b : Code} (n : Nat) (ws : List Int) (ks : List Nat) (d : Env) (B' : BL)
    (h : sx c.T c.nt ops.toList ((ops.toList.drop 0).take n) e B ws ks (fun e' B'' => EnvSub d e' ∧ B'' = B'))
    (hst : allIn (stale ((ops.toList.drop 0).take n) e) d = true) (hi : Nat.ble ops.size (0 + n) = true)
    (k : JS c (.c b :: stk) (d ++ e) B' R O) : JS c (.c (.seq (.region id ops false) b) :: stk) e B R O :=
  JS.seq (JS.region (JO.reg hT n ws ks d B' hst h (JO.done hi k)))

theorem JS.rg0 (hT : TTok c.P c.T) {id : Nat} {ops : Array Oper} {b : Code} (n : Nat) (d : Env)
    (h : sx c.T c.nt ops.toList ((ops.toList.drop 0).take n) e B [] [] (fun e' B'' => EnvSub d e' ∧ B'' = B))
    (hst : allIn (stale ((ops.toList.drop 0).take n) e) d = true) (hi : Nat.ble ops.size (0 + n) = true)
    (k : JS c (.c b :: stk) (d ++ e) B R O) : JS c (.c (.seq (.region id ops false) b) :: stk) e B R O :=
  JS.rg hT n [] [] d B h hst hi k

theorem JS.re (hT : TTok c.P c.T) {id : Nat} {ops : Array Oper} (n : Nat) (ws : List Int) (ks : List Nat) (d : Env) (B' : BL)
    (h : sx c.T c.nt ops.toList ((ops.toList.drop 0).take n) e B ws ks (fun e' B'' => EnvSub d e' ∧ B'' = B'))
    (hst : allIn (stale ((ops.toList.drop 0).take n) e) d = true) (hi : Nat.ble ops.size (0 + n) = true)
    (k : JS c stk (d ++ e) B' R O) : JS c (.c (.region id ops false) :: stk) e B R O :=
  JS.region (JO.reg hT n ws ks d B' hst h (JO.done hi k))

theorem JS.rgB (hT : TTok c.P c.T) {id : Nat} {ops : Array Oper} {b : Code} (n : Nat) (ws : List Int) (ks : List Nat) (d : Env) (B' : BL)
    (h : sx c.T c.nt ops.toList ((ops.toList.drop 0).take n) e B ws ks (fun e' B'' => EnvSub d e' ∧ BSub B' B'' B'.ids))
    (hst : allIn (stale ((ops.toList.drop 0).take n) e) d = true) (hi : Nat.ble ops.size (0 + n) = true)
    (k : JS c (.c b :: stk) (d ++ e) B' R O) : JS c (.c (.seq (.region id ops false) b) :: stk) e B R O :=
  JS.seq (JS.region (JO.regB hT n ws ks d B' hst h (JO.done hi k)))

theorem JS.reB (hT : TTok c.P c.T) {id : Nat} {ops : Array Oper} (n : Nat) (ws : List Int) (ks : List Nat) (d : Env) (B' : BL)
    (h : sx c.T c.nt ops.toList ((ops.toList.drop 0).take n) e B ws ks (fun e' B'' => EnvSub d e' ∧ BSub B' B'' B'.ids))
    (hst : allIn (stale ((ops.toList.drop 0).take n) e) d = true) (hi : Nat.ble ops.size (0 + n) = true)
    (k : JS c stk (d ++ e) B' R O) : JS c (.c (.region id ops false) :: stk) e B R O :=
  JS.region (JO.regB hT n ws ks d B' hst h (JO.done hi k))
end
end Go.Eng

set_option linter.unusedSimpArgs false
set_option linter.unusedVariables false
namespace Go.Eng
open Go Go.RowKit

def IsC (w : World) (b : Nat) : Prop := ∃ c ty fz, w.heap[b]? = some (Obj.cells c ty fz)
theorem SlRep.isc {own : Bool} {w : World} {size : Nat} {α : Type} {f : List Value → α → List Nat → Prop} {s : Sl} {xs : List α} {L : List Nat}
    (h : SlRep own w size f s xs L) (hf : ∀ cs x L', f cs x L' → ∀ b ∈ L', IsC w b) : ∀ b ∈ L, IsC w b := by
  obtain ⟨hl, h⟩ := h
  rcases h with ⟨_, _, rfl⟩ | ⟨b, off, c, ty, fz, Ls, h1, h2, h3, h4, h5, rfl, h7, h8⟩
  · simp
  · intro b' hb'
    rcases List.mem_cons.1 hb' with rfl | hb'
    · exact ⟨_, _, _, h2⟩
    · obtain ⟨l, hl', hb''⟩ := List.mem_flatten.1 hb'
      obtain ⟨i, hi, rfl⟩ := List.mem_iff_getElem.1 hl'
      exact hf _ _ _ (h8 i (by omega) hi) b' hb''

theorem Rep.isc {own : Bool} {w : World} : ∀ (t : Ty) (cs : List Value) (x : t.den) (L : List Nat), Rep own w t cs x L → ∀ b ∈ L, IsC w b
  | .int _, _, _, _, h => by simp [h.2]
  | .byte, _, _, _, h => by simp [h.2]
  | .bool, _, _, _, h => by simp [h.2]
  | .str, _, _, _, h => by simp [h.2]
  | .val, _, _, _, h => by simp [h.2]
  | .pair a b, cs, x, L, h => by
    obtain ⟨c1, c2, L1, L2, h1, rfl, h3, h4⟩ := h
    intro b' hb'
    rcases List.mem_append.1 hb' with hb' | hb'
    · exact Rep.isc a _ _ _ h3 b' hb'
    · exact Rep.isc b _ _ _ h4 b' hb'
  | .sl t, cs, xs, L, h => by
    obtain ⟨s, h1, h2⟩ := h
    exact h2.isc fun cs x L' hf => Rep.isc t cs x L' hf
  | .alt t, cs, .inl y, L, h => Rep.isc t cs y L h
  | .alt t, cs, .inr l, L, h => by have h' : L = [] := h.2; simp [h']
  | .both t, cs, x, L, h => Rep.isc t cs x.1 L h.2

theorem Fact.isc {own : Bool} {w : World} {f : Fact} {L : List Nat} (h : f.rep own w L) : ∀ b ∈ L, IsC w b := SlRep.isc h fun cs x L' hf => Rep.isc _ cs x L' hf

theorem OwnL.isc {w : World} : ∀ {fs : List Fact} {L : List Nat}, OwnL w fs L → ∀ b ∈ L, IsC w b
  | [], L, h => by simp [show L = [] from h]
  | f :: fs, L, ⟨L1, L2, h1, h2, h3⟩ => by
    subst h3
    intro b hb
    rcases List.mem_append.1 hb with hb | hb
    · exact Fact.isc h1 b hb
    · exact h2.isc b hb

def mEs : List (Int × Int) → Nat → List MapEntry
  | [], _ => []
  | (k, v) :: r, n => { key := .int .i64 k, val := .int .i64 v, born := n } :: mEs r (n + 1)
structure MapAt (c : Cx) (r : Nat) (kvs : List (Int × Int)) (w1 : World) (X : List Nat) : Prop where
  obj : w1.heap[r]? = some (.map (mEs kvs 0).toArray kvs.length)
  nin : r ∉ X
  new : c.w0.heap.size ≤ r
  keep : Keep c.X c.w0 w1
  sub : ∀ b, w1.heap.size ≤ b ∨ b ∈ X → c.w0.heap.size ≤ b ∨ b ∈ c.X

theorem MapAt.through {c : Cx} {r : Nat} {kvs : List (Int × Int)} {w1 w : World} {X : List Nat} (M : MapAt c r kvs w1 X) (h : Keep X w1 w) : Keep c.X c.w0 w :=
  ⟨h.os.trans M.keep.os, h.tape.trans M.keep.tape, h.output.trans M.keep.output, Nat.le_trans M.keep.size h.size, fun b hb hn =>
    (h.block b (Nat.lt_of_lt_of_le hb M.keep.size) fun hx => by
      rcases M.sub b (.inr hx) with h' | h'
      · omega
      · exact hn h').trans (M.keep.block b hb hn)⟩

theorem OwnL.blocks {X : List Nat} {w0 w : World} {β : Nat → Nat} {B : BL} {R O : List Fact} (h : Inv X w0 w β B R O) : ∃ LO, OwnL w O LO ∧ (B.ids.map β ++ LO).Nodup ∧ (∀ b ∈ B.ids.map β ++ LO, w0.heap.size ≤ b ∨ b ∈ X) ∧
    (∀ f ∈ R, ∃ L, f.rep false w L ∧ ∀ b ∈ L, b ∉ B.ids.map β ++ LO) ∧ ∀ b ∈ B.ids.map β ++ LO, IsC w b := by
  obtain ⟨hkeep, hbox, LO, hO, hnd, hge, hR⟩ := h
  refine ⟨LO, hO, hnd, hge, hR, fun b hb => ?_⟩
  rcases List.mem_append.1 hb with hb | hb
  · obtain ⟨k, hk, rfl⟩ := List.mem_map.1 hb
    exact ⟨_, _, _, hbox k hk⟩
  · exact hO.isc b hb

end Go.Eng

