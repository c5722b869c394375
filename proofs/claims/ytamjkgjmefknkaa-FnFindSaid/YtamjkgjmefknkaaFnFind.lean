/- FnFind: for every input the given law returns true and leaves its arguments as they were. No condition. -/
import Derived.Test.YtamjkgjmefknkaaFnFindWalkA
import Derived.Test.YtamjkgjmefknkaaRows
import Derived.WalkKit
import Derived.ProofKit
import Derived.OpenShut
import Derived.ShutString
set_option linter.unusedVariables false
set_option linter.unusedSimpArgs false
namespace Go.Eng
open Go Go.Proofs


theorem bindO_of {α β : Type} {m : Option α} {k : α → Option β} {y : α} (h : m = some y) : bindO m k = k y := by rw [h]; rfl

theorem wf64 {a : Int} (h : (Lit.int .i64 a).wf = true) : -9223372036854775808 ≤ a ∧ a ≤ 9223372036854775807 := by
  simpa [Lit.wf, IntKind.min, IntKind.max, IntKind.signed, IntKind.bits] using h


/-! Draws -/
def CurOk (c : List UInt8 × Int × Int) : Prop := 0 ≤ c.2.1 ∧ c.2.1 ≤ (c.1.length : Int) ∧ (c.1.length : Int) ≤ 1048576

theorem and_bound (x : BitVec 64) (n : Nat) (hn : n < 2 ^ 64) : (x &&& BitVec.ofInt 64 (n : Int)).toNat ≤ n := by
  rw [BitVec.toNat_and]
  have : (BitVec.ofInt 64 (n : Int)).toNat = n := by
    rw [BitVec.toNat_ofInt]
    have h : ((n : Int) % ((2 ^ 64 : Nat) : Int)) = n := Int.emod_eq_of_lt (by omega) (by exact_mod_cast hn)
    rw [h]; rfl
  rw [this]
  exact Nat.and_le_right

theorem and255 (x : BitVec 64) : 0 ≤ W (((x &&& BitVec.ofInt 64 255).toNat : Nat) : Int) ∧ W (((x &&& BitVec.ofInt 64 255).toNat : Nat) : Int) ≤ 255 := by
  have h := and_bound x 255 (by decide)
  have h' : (x &&& BitVec.ofInt 64 255).toNat ≤ 255 := h
  rw [W_eq (by omega) (by omega)]
  omega

theorem byte_ok (c : List UInt8 × Int × Int) (hc : CurOk c) : ∃ y i h, M_s_l01Byte c = some (y, (c.1, i, h)) ∧ CurOk (c.1, i, h) ∧ 0 ≤ y ∧ y ≤ 255 := by
  obtain ⟨h1, h2, h3⟩ := hc
  unfold M_s_l01Byte
  simp only [joinO, Bool.cond_decide, guardO]
  split
  · rw [if_pos ⟨h1, by assumption⟩]
    exact ⟨_, _, _, rfl, ⟨by simp only; rw [W_eq (by omega) (by omega)]; omega, by simp only; rw [W_eq (by omega) (by omega)]; omega, h3⟩, and255 _⟩
  · exact ⟨_, _, _, rfl, ⟨h1, h2, h3⟩, and255 _⟩

theorem below_ok (c : List UInt8 × Int × Int) (hc : CurOk c) (n : Int) : ∃ y i h, M_s_l01Below c n = some (y, (c.1, i, h)) ∧ CurOk (c.1, i, h) ∧ 0 ≤ y ∧ (0 < n → y < n) ∧ (n ≤ 0 → y = 0) := by
  unfold M_s_l01Below
  simp only [Bool.cond_decide]
  split
  · exact ⟨0, c.2.1, c.2.2, rfl, hc, by omega, by omega, by omega⟩
  · split
    · obtain ⟨y, i, h, e, ho, y0, y1⟩ := byte_ok _ hc
      have e' : M_s_l01Byte (c.1, c.2.1, c.2.2) = _ := e
      rw [bindO_of e']
      simp only [guardO]
      rw [if_pos (by omega)]
      exact ⟨_, i, h, rfl, ho, Int.tmod_nonneg _ y0, fun hn => Int.tmod_lt_of_pos _ hn, by omega⟩
    · obtain ⟨ya, ia, ha, e1, o1, a0, a1⟩ := byte_ok _ hc
      obtain ⟨yb, ib, hb, e2, o2, b0, b1⟩ := byte_ok _ o1
      obtain ⟨yc, ic, hcc, e3, o3, c0, c1⟩ := byte_ok _ o2
      obtain ⟨yd, id, hd, e4, o4, d0, d1⟩ := byte_ok _ o3
      have e1' : M_s_l01Byte (c.1, c.2.1, c.2.2) = _ := e1
      rw [bindO_of e1', bindO_of e2, bindO_of e3, bindO_of e4]
      simp only [guardO]
      rw [if_pos (by omega)]
      rw [W_eq (x := ya * 16777216) (by omega) (by omega), W_eq (x := yb * 65536) (by omega) (by omega), W_eq (x := yc * 256) (by omega) (by omega), W_eq (x := ya * 16777216 + yb * 65536) (by omega) (by omega),
        W_eq (x := ya * 16777216 + yb * 65536 + yc * 256) (by omega) (by omega), W_eq (x := ya * 16777216 + yb * 65536 + yc * 256 + yd) (by omega) (by omega)]
      exact ⟨_, id, hd, rfl, o4, Int.tmod_nonneg _ (by omega), fun hn => Int.tmod_lt_of_pos _ hn, by omega⟩

theorem new_loop (l : List UInt8) (hl : (l.length : Int) ≤ 1048576) : ∀ (m : Nat) (h k : Int), 0 ≤ k → k ≤ 4000 → 4000 - k < m → ∃ v, fixF (M_s_l01New_L1 l fun x15 => some (l, 0, x15)) m (h, k) = some (l, 0, v) := by
  intro m
  induction m with
  | zero => intro h k _ _ h'; omega
  | succ m ih =>
    intro h k hk hk' hm
    simp only [fixF, M_s_l01New_L1, guardO, Bool.cond_decide]
    by_cases h1 : k < (l.length : Int)
    · by_cases h2 : k < 4000
      · simp only [h1, h2, hk, if_true, and_self, decide_true]
        rw [W_eq (x := k + 1) (by omega) (by omega)]
        exact ih _ _ (by omega) (by omega) (by omega)
      · simp only [h1, h2, if_true, decide_false, Bool.false_eq_true, if_false]
        exact ⟨h, rfl⟩
    · simp only [h1, if_false, cond_false]
      exact ⟨h, rfl⟩

theorem new_ok (l : List UInt8) (hl : (l.length : Int) ≤ 1048576) : ∃ h, M_s_l01New l = some (l, 0, h) ∧ CurOk (l, 0, h) := by
  unfold M_s_l01New
  simp only [joinO]
  obtain ⟨v, hv⟩ := new_loop l hl FUEL (W (600128 + (l.length : Int))) 0 (by omega) (by omega) (by rw [fuel_eq]; omega)
  exact ⟨v, hv, ⟨by simp, by simp, hl⟩⟩

theorem drop_at {α : Type} [Inhabited α] {l : List α} {k : Int} (h0 : 0 ≤ k) (h : k < (l.length : Int)) : l.drop k.toNat = at' l k :: l.drop (k + 1).toNat := by
  have hlt : k.toNat < l.length := by omega
  rw [List.drop_eq_getElem_cons hlt]
  have : (k + 1).toNat = k.toNat + 1 := by omega
  rw [this]
  congr 1
  simp [at', List.getD_eq_getElem?_getD, hlt]

theorem sub_all {α : Type} {l : List α} {k : Int} (h0 : 0 ≤ k) : sub' l k (l.length : Int) = l.drop k.toNat := by
  unfold sub'
  rw [List.take_of_length_le]
  simp

theorem byte_eq {b : UInt8} {n : Nat} (hn : n < 256) : ((b.toNat : Int) = n) ↔ b = UInt8.ofNat n := by
  constructor
  · intro h; apply UInt8.toNat_inj.1; simp; omega
  · intro h; rw [h]; simp; omega


/-- The runes that are drawn. -/
def Drawn (r : Int) : Prop := r ∈ ([97, 98, 99, 120, 49, 50, 32, 32, 46, 45, 95, 233, 4352, 20013, 128512, 47] : List Int) ∨ (33 ≤ r ∧ r ≤ 126) ∨ (160 ≤ r ∧ r ≤ 459) ∨ (19968 ≤ r ∧ r ≤ 21967)

theorem rune_ok (c : List UInt8 × Int × Int) (hc : CurOk c) : ∃ y i h, M_s_l02Rune c = some (y, (c.1, i, h)) ∧ CurOk (c.1, i, h) ∧ Drawn y := by
  unfold M_s_l02Rune
  obtain ⟨y, i, h, e, ho, y0, y1, _⟩ := below_ok _ hc 12
  have e' : M_s_l01Below (c.1, c.2.1, c.2.2) 12 = _ := e
  rw [bindO_of e']
  simp only [Bool.cond_decide]
  have two : ∀ n, 0 < n → ∃ y2 i2 h2, M_s_l01Below (c.1, i, h) n = some (y2, (c.1, i2, h2)) ∧ CurOk (c.1, i2, h2) ∧ 0 ≤ y2 ∧ y2 < n := by
    intro n hn
    obtain ⟨y2, i2, h2, e2, o2, p0, p1, _⟩ := below_ok _ ho n
    exact ⟨y2, i2, h2, e2, o2, p0, p1 hn⟩
  split
  · obtain ⟨y2, i2, h2, e2, o2, p0, p1⟩ := two 16 (by omega)
    rw [bindO_of e2]
    simp only [guardO]
    rw [if_pos ⟨p0, p1⟩]
    exact ⟨_, i2, h2, rfl, o2, .inl (List.mem_of_getElem? (at_some ⟨p0, p1⟩))⟩
  · split
    · obtain ⟨y2, i2, h2, e2, o2, p0, p1⟩ := two 94 (by omega)
      rw [bindO_of e2]
      simp only
      rw [W_eq (by omega) (by omega)]
      exact ⟨_, i2, h2, rfl, o2, .inr (.inl ⟨by omega, by omega⟩)⟩
    · split
      · obtain ⟨y2, i2, h2, e2, o2, p0, p1⟩ := two 300 (by omega)
        rw [bindO_of e2]
        simp only
        rw [W_eq (by omega) (by omega)]
        exact ⟨_, i2, h2, rfl, o2, .inr (.inr (.inl ⟨by omega, by omega⟩))⟩
      · obtain ⟨y2, i2, h2, e2, o2, p0, p1⟩ := two 2000 (by omega)
        rw [bindO_of e2]
        simp only
        rw [W_eq (by omega) (by omega)]
        exact ⟨_, i2, h2, rfl, o2, .inr (.inr (.inr ⟨by omega, by omega⟩))⟩

theorem runes_loop (c : List UInt8 × Int × Int) : ∀ (m : Nat) (o : List Int) (n i h : Int), CurOk (c.1, i, h) → 0 ≤ n → n ≤ 100000 → (o.length : Int) + n ≤ 100000 → n < m → (∀ r ∈ o, Drawn r) →
    ∃ l i' h', fixF (M_s_l02Runes_L1 c fun (x33, x36, x37) => some (x33, (c.1, x36, x37))) m (o, n, i, h) = some (l, (c.1, i', h')) ∧ CurOk (c.1, i', h') ∧ (l.length : Int) = o.length + n ∧ ∀ r ∈ l, Drawn r := by
  intro m
  induction m with
  | zero => intro o n i h _ _ _ _ hm; omega
  | succ m ih =>
    intro o n i h hc hn hn' ho hm hd
    simp only [fixF, M_s_l02Runes_L1, Bool.cond_decide]
    by_cases h1 : 0 < n
    · rw [if_pos h1]
      obtain ⟨y, i2, h2, e, o2, dy⟩ := rune_ok _ hc
      have e' : M_s_l02Rune (c.1, i, h) = some (y, (c.1, i2, h2)) := e
      rw [bindO_of e']
      simp only [guardO]
      rw [if_pos (by simp; omega), W_eq (by omega) (by omega)]
      obtain ⟨l, i', h', r1, r2, r3, r4⟩ := ih (o ++ [y]) (n - 1) i2 h2 o2 (by omega) (by omega) (by simp; omega) (by omega) (by
        intro r hr
        rcases List.mem_append.1 hr with hr | hr
        · exact hd r hr
        · simp only [List.mem_singleton] at hr; subst hr; exact dy)
      exact ⟨l, i', h', r1, r2, by simp at r3; omega, r4⟩
    · rw [if_neg h1]
      exact ⟨o, i, h, rfl, hc, by omega, hd⟩

theorem runes_ok (c : List UInt8 × Int × Int) (hc : CurOk c) (most : Int) (hm : 0 ≤ most) (hm' : most ≤ 1000) : ∃ l i h, M_s_l02Runes c most = some (l, (c.1, i, h)) ∧ CurOk (c.1, i, h) ∧ (l.length : Int) ≤ most ∧ ∀ r ∈ l, Drawn r := by
  unfold M_s_l02Runes
  rw [W_eq (by omega) (by omega)]
  obtain ⟨y, i, h, e, ho, y0, y1, _⟩ := below_ok _ hc (most + 1)
  have e' : M_s_l01Below (c.1, c.2.1, c.2.2) (most + 1) = _ := e
  rw [bindO_of e']
  simp only [joinO]
  have := y1 (by omega)
  obtain ⟨l, i', h', r1, r2, r3, r4⟩ := runes_loop c FUEL [] y i h ho y0 (by omega) (by simp; omega) (by rw [fuel_eq]; omega) (by simp)
  exact ⟨l, i', h', r1, r2, by simp at r3; omega, r4⟩

/-- The runes of a line that is drawn. -/
def LineR (r : Int) : Prop := Drawn r ∨ r = 9 ∨ r = 10 ∨ (65 ≤ r ∧ r ≤ 90)

theorem set_all {p : Int → Prop} {l : List Int} {i : Nat} {v : Int} (h : ∀ r ∈ l, p r) (hv : p v) : ∀ r ∈ List.set l i v, p r := by
  intro r hr
  rcases List.mem_or_eq_of_mem_set hr with h' | h'
  · exact h r h'
  · subst h'; exact hv

theorem l13_loop (c : List UInt8 × Int × Int) (t : List Int) (ht : (t.length : Int) ≤ 1000) : ∀ (m : Nat) (u : List Int) (k i h : Int), CurOk (c.1, i, h) → 0 ≤ k → k ≤ (t.length : Int) → u.length = t.length → (t.length : Int) - k < m → 0 < m → (∀ r ∈ u, LineR r) →
    ∃ l i' h', fixF (M_s_l13Runes_L1 c t fun (x101, x104, x105) => some (x101, (c.1, x104, x105))) m (u, k, i, h) = some (l, (c.1, i', h')) ∧ CurOk (c.1, i', h') ∧ l.length = t.length ∧ ∀ r ∈ l, LineR r := by
  intro m
  induction m with
  | zero => intro u k i h _ _ _ _ _ hm; omega
  | succ m ih =>
    intro u k i h hc hk hk' hu hm _ hd
    simp only [fixF, M_s_l13Runes_L1, Bool.cond_decide, joinO]
    by_cases h1 : k < (t.length : Int)
    · rw [if_pos h1]
      obtain ⟨y, i2, h2, e, o2, y0, y1, _⟩ := below_ok _ hc 14
      have e' : M_s_l01Below (c.1, i, h) 14 = some (y, (c.1, i2, h2)) := e
      rw [bindO_of e']
      simp only [guardO]
      rw [W_eq (x := k + 1) (by omega) (by omega)]
      have step : ∀ u' i3 h3, CurOk (c.1, i3, h3) → u'.length = t.length → (∀ r ∈ u', LineR r) →
          ∃ l i' h', fixF (M_s_l13Runes_L1 c t fun (x101, x104, x105) => some (x101, (c.1, x104, x105))) m (u', k + 1, i3, h3) = some (l, (c.1, i', h')) ∧ CurOk (c.1, i', h') ∧ l.length = t.length ∧ ∀ r ∈ l, LineR r :=
        fun u' i3 h3 q1 q2 q3 => ih u' (k + 1) i3 h3 q1 (by omega) (by omega) q2 (by omega) (by omega) q3
      by_cases c0 : y = 0
      · subst c0
        simp only [if_true]
        rw [if_pos ⟨hk, by omega⟩]
        simp only [show ¬ ((0 : Int) = 1) by decide, show ¬ ((0 : Int) = 2) by decide, if_false]
        exact step _ _ _ o2 (by simpa using hu) (set_all hd (.inr (.inl rfl)))
      · simp only [c0, if_false]
        by_cases c1 : y = 1
        · subst c1
          simp only [if_true]
          rw [if_pos ⟨hk, by omega⟩]
          simp only [show ¬ ((1 : Int) = 2) by decide, if_false]
          exact step _ _ _ o2 (by simpa using hu) (set_all hd (.inr (.inr (.inl rfl))))
        · simp only [c1, if_false]
          by_cases c2 : y = 2
          · subst c2
            simp only [if_true]
            obtain ⟨y3, i3, h3, e3, o3, p0, p1, _⟩ := below_ok _ o2 26
            have e3' : M_s_l01Below (c.1, i2, h2) 26 = some (y3, (c.1, i3, h3)) := e3
            rw [bindO_of e3']
            simp only
            have := p1 (by omega)
            rw [if_pos ⟨hk, by omega⟩, W_eq (by omega) (by omega)]
            exact step _ _ _ o3 (by simpa using hu) (set_all hd (.inr (.inr (.inr ⟨by omega, by omega⟩))))
          · simp only [c2, if_false]
            exact step _ _ _ o2 hu hd
    · rw [if_neg h1]
      exact ⟨u, i, h, rfl, hc, hu, hd⟩

theorem l13_ok (c : List UInt8 × Int × Int) (hc : CurOk c) (most : Int) (hm : 0 ≤ most) (hm' : most ≤ 1000) : ∃ l i h, M_s_l13Runes c most = some (l, (c.1, i, h)) ∧ CurOk (c.1, i, h) ∧ (l.length : Int) ≤ most ∧ ∀ r ∈ l, LineR r := by
  unfold M_s_l13Runes
  obtain ⟨t, i, h, e, ho, t1, t2⟩ := runes_ok _ hc most hm hm'
  have e' : M_s_l02Runes (c.1, c.2.1, c.2.2) most = _ := e
  rw [bindO_of e']
  simp only [joinO]
  obtain ⟨l, i', h', r1, r2, r3, r4⟩ := l13_loop c t (by omega) FUEL t 0 i h ho (by omega) (by omega) rfl (by rw [fuel_eq]; omega) (by rw [fuel_eq]; omega) (fun r hr => .inl (t2 r hr))
  exact ⟨l, i', h', r1, r2, by omega, r4⟩

theorem l13Draw_ok (c : List UInt8 × Int × Int) (hc : CurOk c) : ∃ t a i h, M_s_l13Draw c = some ((t, a), (c.1, i, h)) ∧ CurOk (c.1, i, h) ∧ (t.length : Int) ≤ 16 ∧ (∀ r ∈ t, LineR r) ∧ 0 ≤ a ∧ a ≤ (t.length : Int) := by
  unfold M_s_l13Draw
  obtain ⟨t, i, h, e, ho, t1, t2⟩ := l13_ok _ hc 16 (by omega) (by omega)
  have e' : M_s_l13Runes (c.1, c.2.1, c.2.2) 16 = _ := e
  rw [bindO_of e']
  simp only
  rw [W_eq (by omega) (by omega)]
  obtain ⟨y, i2, h2, e2, o2, y0, y1, _⟩ := below_ok _ ho ((t.length : Int) + 1)
  have e2' : M_s_l01Below (c.1, i, h) ((t.length : Int) + 1) = _ := e2
  rw [bindO_of e2']
  have := y1 (by omega)
  exact ⟨t, y, i2, h2, rfl, o2, t1, t2, y0, by omega⟩

theorem makeLine_ok (l : List UInt8) (hl : (l.length : Int) ≤ 1048576) : ∃ t p u a b, M_s_MakeLine l = some ((t, p), u, a, b) ∧ (t.length : Int) ≤ 16 ∧ (∀ r ∈ t, LineR r) ∧ 0 ≤ p ∧ p ≤ (t.length : Int) ∧ (u.length : Int) ≤ 5 ∧ (∀ r ∈ u, LineR r) ∧ 0 ≤ a ∧ a ≤ b ∧ b ≤ (t.length : Int) := by
  unfold M_s_MakeLine
  obtain ⟨h, e, ho⟩ := new_ok l hl
  rw [bindO_of e]
  simp only
  obtain ⟨t, p, i1, h1, e1, o1, t1, t2, p0, p1⟩ := l13Draw_ok _ ho
  have e1' : M_s_l13Draw (l, 0, h) = some ((t, p), (l, i1, h1)) := e1
  rw [bindO_of e1']
  simp only
  rw [W_eq (x := (t.length : Int) + 1) (by omega) (by omega)]
  obtain ⟨a, i2, h2, e2, o2, a0, a1, _⟩ := below_ok _ o1 ((t.length : Int) + 1)
  have e2' : M_s_l01Below (l, i1, h1) ((t.length : Int) + 1) = some (a, (l, i2, h2)) := e2
  rw [bindO_of e2']
  simp only
  have ha := a1 (by omega)
  rw [W_eq (x := (t.length : Int) - a) (by omega) (by omega), W_eq (x := (t.length : Int) - a + 1) (by omega) (by omega)]
  obtain ⟨b, i3, h3, e3, o3, b0, b1, _⟩ := below_ok _ o2 ((t.length : Int) - a + 1)
  have e3' : M_s_l01Below (l, i2, h2) ((t.length : Int) - a + 1) = some (b, (l, i3, h3)) := e3
  rw [bindO_of e3']
  simp only
  have hb := b1 (by omega)
  obtain ⟨u, i4, h4, e4, o4, u1, u2⟩ := l13_ok _ o3 5 (by omega) (by omega)
  have e4' : M_s_l13Runes (l, i3, h3) 5 = some (u, (l, i4, h4)) := e4
  rw [bindO_of e4']
  simp only
  rw [W_eq (x := a + b) (by omega) (by omega)]
  exact ⟨t, p, u, a, a + b, rfl, t1, t2, p0, p1, u1, u2, a0, by omega, by omega⟩

theorem on_loop (t : List Int) (ht : (t.length : Int) ≤ 1000) (r : Int) : ∀ (m : Nat) (k : Int), 0 ≤ k → k ≤ 2000 → (t.length : Int) - k < m → 0 < m →
    ∃ v, fixF (M_i_FindRune_L1 t r fun _ => some (-1)) m k = some v ∧ ((v = -1 ∧ ∀ i, k ≤ i → i < (t.length : Int) → at' t i ≠ r) ∨ (k ≤ v ∧ v < (t.length : Int) ∧ at' t v = r ∧ ∀ i, k ≤ i → i < v → at' t i ≠ r)) := by
  intro m
  induction m with
  | zero => intro k _ _ _ hm; omega
  | succ m ih =>
    intro k hk hk' hm _
    simp only [fixF, M_i_FindRune_L1, guardO, Bool.cond_decide]
    by_cases h1 : k < (t.length : Int)
    · rw [if_pos h1, if_pos ⟨hk, h1⟩]
      by_cases h2 : at' t k = r
      · rw [if_pos h2]
        exact ⟨k, rfl, .inr ⟨Int.le_refl _, h1, h2, fun i hi hi' => by omega⟩⟩
      · rw [if_neg h2, W_eq (by omega) (by omega)]
        obtain ⟨v, e, hv⟩ := ih (k + 1) (by omega) (by omega) (by omega) (by omega)
        refine ⟨v, e, ?_⟩
        have ext : ∀ (q : Int → Prop), (∀ i, k + 1 ≤ i → q i → at' t i ≠ r) → ∀ i, k ≤ i → q i → at' t i ≠ r := by
          intro q h i hi hq
          by_cases hik : i = k
          · subst hik; exact h2
          · exact h i (by omega) hq
        rcases hv with ⟨rfl, hv⟩ | ⟨g1, g2, g3, g4⟩
        · exact .inl ⟨rfl, ext (fun i => i < (t.length : Int)) hv⟩
        · exact .inr ⟨by omega, g2, g3, ext (fun i => i < v) g4⟩
    · rw [if_neg h1]
      exact ⟨-1, rfl, .inl ⟨rfl, fun i hi hi' => by omega⟩⟩

theorem back_loop (t : List Int) (ht : (t.length : Int) ≤ 1000) (r : Int) : ∀ (m : Nat) (k : Int), -1 ≤ k → k < (t.length : Int) → k + 1 < m →
    ∃ v, fixF (M_i_FindRune_L2 t r fun _ => some (-1)) m k = some v ∧ ((v = -1 ∧ ∀ i, 0 ≤ i → i ≤ k → at' t i ≠ r) ∨ (0 ≤ v ∧ v ≤ k ∧ at' t v = r ∧ ∀ i, v < i → i ≤ k → at' t i ≠ r)) := by
  intro m
  induction m with
  | zero => intro k _ _ hm; omega
  | succ m ih =>
    intro k hk hk' hm
    simp only [fixF, M_i_FindRune_L2, guardO, Bool.cond_decide]
    by_cases h1 : 0 ≤ k
    · rw [if_pos h1, if_pos ⟨h1, hk'⟩]
      by_cases h2 : at' t k = r
      · rw [if_pos h2]
        exact ⟨k, rfl, .inr ⟨h1, Int.le_refl _, h2, fun i hi hi' => by omega⟩⟩
      · rw [if_neg h2, W_eq (by omega) (by omega)]
        obtain ⟨v, e, hv⟩ := ih (k - 1) (by omega) (by omega) (by omega)
        refine ⟨v, e, ?_⟩
        rcases hv with ⟨rfl, hv⟩ | ⟨g1, g2, g3, g4⟩
        · refine .inl ⟨rfl, fun i hi hi' => ?_⟩
          by_cases hik : i = k
          · subst hik; exact h2
          · exact hv i hi (by omega)
        · refine .inr ⟨g1, by omega, g3, fun i hi hi' => ?_⟩
          by_cases hik : i = k
          · subst hik; exact h2
          · exact g4 i hi (by omega)
    · rw [if_neg h1]
      exact ⟨-1, rfl, .inl ⟨rfl, fun i hi hi' => by omega⟩⟩

theorem till_loop (t : List Int) (ht : (t.length : Int) ≤ 1000) (r : Int) : ∀ (m : Nat) (k : Int), 0 ≤ k → k ≤ 2000 → (t.length : Int) - k < m → 0 < m →
    ∃ v, fixF (M_i_FindRune_L3 t r fun _ => some (-1)) m k = some v ∧ (v = -1 ∨ (k ≤ v ∧ v + 1 < (t.length : Int) ∧ at' t (v + 1) = r)) := by
  intro m
  induction m with
  | zero => intro k _ _ _ hm; omega
  | succ m ih =>
    intro k hk hk' hm _
    simp only [fixF, M_i_FindRune_L3, guardO, Bool.cond_decide]
    rw [W_eq (by omega) (by omega)]
    by_cases h1 : k + 1 < (t.length : Int)
    · rw [if_pos h1, if_pos ⟨by omega, h1⟩]
      by_cases h2 : at' t (k + 1) = r
      · rw [if_pos h2]
        exact ⟨k, rfl, .inr ⟨Int.le_refl _, h1, h2⟩⟩
      · rw [if_neg h2]
        obtain ⟨v, e, hv⟩ := ih (k + 1) (by omega) (by omega) (by omega) (by omega)
        refine ⟨v, e, ?_⟩
        rcases hv with rfl | ⟨g1, g2, g3⟩
        · exact .inl rfl
        · exact .inr ⟨by omega, g2, g3⟩
    · rw [if_neg h1]
      exact ⟨-1, rfl, .inl rfl⟩

theorem find_loop (t : List Int) (p : Int) (ht : (t.length : Int) ≤ 1000) (a b on back : Int) (j : Unit → Option Bool)
    (h : ∀ i, 0 ≤ i → i < (t.length : Int) → at' t i = at' t (Int.tmod b (t.length : Int)) → ¬ ((a < i ∧ (on < 0 ∨ i < on)) ∨ (i < a ∧ back < i))) :
    ∀ (m : Nat) (k : Int), 0 ≤ k → k ≤ (t.length : Int) → (t.length : Int) - k < m → 0 < m → fixF (M_l_FnFind_L1 (t, p) a b on back j) m k = j () := by
  intro m
  induction m with
  | zero => intro k _ _ _ hm; omega
  | succ m ih =>
    intro k hk hk' hm _
    simp only [fixF, M_l_FnFind_L1, guardO, Bool.cond_decide]
    by_cases h1 : k < (t.length : Int)
    · rw [if_pos h1, if_pos ⟨hk, h1⟩, W_eq (by omega) (by omega)]
      have hi := ih (k + 1) (by omega) (by omega) (by omega) (by omega)
      by_cases h2 : at' t k = at' t (Int.tmod b (t.length : Int))
      · have := h k hk h1 h2
        have g : (if a < k then if on < 0 then true else decide (k < on) else false) = false := by
          split
          · split
            · omega
            · simp; omega
          · rfl
        simp only [h2, if_true, g]
        have g2 : (if k < a then decide (back < k) else false) = false := by
          split
          · simp; omega
          · rfl
        simp only [Bool.false_eq_true, if_false, g2, cond_false]
        exact hi
      · simp only [h2, if_false, cond_false]
        exact hi
    · rw [if_neg h1]

theorem fr_on (t : List Int) (ht : (t.length : Int) ≤ 1000) (a r : Int) (a0 : 0 ≤ a) (a1 : a ≤ (t.length : Int)) :
    ∃ v, M_i_FindRune t a r 0 = some v ∧ ((v = -1 ∧ ∀ i, a < i → i < (t.length : Int) → at' t i ≠ r) ∨ (a < v ∧ v < (t.length : Int) ∧ at' t v = r ∧ ∀ i, a < i → i < v → at' t i ≠ r)) := by
  unfold M_i_FindRune M_i_within
  have e : max (0 : Int) (min a (t.length : Int)) = a := by omega
  simp only [bindO, joinO, Bool.cond_decide, if_true, e]
  rw [W_eq (by omega) (by omega)]
  obtain ⟨v, e, hv⟩ := on_loop t ht r FUEL (a + 1) (by omega) (by omega) (by rw [fuel_eq]; omega) (by rw [fuel_eq]; omega)
  refine ⟨v, e, ?_⟩
  rcases hv with ⟨g1, g2⟩ | ⟨g1, g2, g3, g4⟩
  · exact .inl ⟨g1, fun i hi hi' => g2 i (by omega) hi'⟩
  · exact .inr ⟨by omega, g2, g3, fun i hi hi' => g4 i (by omega) hi'⟩

theorem fr_back (t : List Int) (ht : (t.length : Int) ≤ 1000) (a r : Int) (a0 : 0 ≤ a) (a1 : a ≤ (t.length : Int)) :
    ∃ v, M_i_FindRune t a r 1 = some v ∧ ((v = -1 ∧ ∀ i, 0 ≤ i → i < a → at' t i ≠ r) ∨ (0 ≤ v ∧ v < a ∧ at' t v = r ∧ ∀ i, v < i → i < a → at' t i ≠ r)) := by
  unfold M_i_FindRune M_i_within
  have e : max (0 : Int) (min a (t.length : Int)) = a := by omega
  simp only [bindO, joinO, Bool.cond_decide, if_true, e, show ¬ ((1 : Int) = 0) by decide, if_false]
  rw [W_eq (by omega) (by omega)]
  obtain ⟨v, e, hv⟩ := back_loop t ht r FUEL (a - 1) (by omega) (by omega) (by rw [fuel_eq]; omega)
  refine ⟨v, e, ?_⟩
  rcases hv with ⟨g1, g2⟩ | ⟨g1, g2, g3, g4⟩
  · exact .inl ⟨g1, fun i hi hi' => g2 i hi (by omega)⟩
  · exact .inr ⟨g1, by omega, g3, fun i hi hi' => g4 i hi (by omega)⟩

theorem fr_till (t : List Int) (ht : (t.length : Int) ≤ 1000) (a r : Int) (a0 : 0 ≤ a) (a1 : a ≤ (t.length : Int)) :
    ∃ v, M_i_FindRune t a r 2 = some v ∧ (v = -1 ∨ (a < v ∧ v + 1 < (t.length : Int) ∧ at' t (v + 1) = r)) := by
  unfold M_i_FindRune M_i_within
  have e : max (0 : Int) (min a (t.length : Int)) = a := by omega
  simp only [bindO, joinO, Bool.cond_decide, if_true, e, show ¬ ((2 : Int) = 0) by decide, show ¬ ((2 : Int) = 1) by decide, if_false]
  rw [W_eq (by omega) (by omega)]
  obtain ⟨v, e, hv⟩ := till_loop t ht r FUEL (a + 1) (by omega) (by omega) (by rw [fuel_eq]; omega) (by rw [fuel_eq]; omega)
  refine ⟨v, e, ?_⟩
  rcases hv with g1 | ⟨g1, g2, g3⟩
  · exact .inl g1
  · exact .inr ⟨by omega, g2, g3⟩

theorem findTo_one (t : List Int) (a r v : Int) (a0 : 0 ≤ a) (a1 : a ≤ (t.length : Int)) (e : M_i_FindRune t a r 0 = some v) : M_i_FindTo t a r 0 1 = some (if v < 0 then (-1, false) else (v, true)) := by
  unfold M_i_FindTo M_i_within
  have e' : max (0 : Int) (min a (t.length : Int)) = a := by omega
  simp only [bindO, joinO, e']
  obtain ⟨n, hn⟩ : ∃ n, FUEL = n + 2 := ⟨FUEL - 2, by have := fuel_eq; omega⟩
  rw [hn]
  simp only [fixF, M_i_FindTo_L1, Bool.cond_decide, show max (1 : Int) (min 1 999) = 1 by decide, show (0 : Int) < 1 by decide, if_true, e, bindO]
  have w : W (0 + 1) = 1 := by rw [W_eq (by omega) (by omega)]; rfl
  by_cases h : v < 0
  · simp [h]
  · simp only [h, if_false, w, show ¬ ((1 : Int) < 1) by decide]

theorem law_FnFind (l : List UInt8) : M_l_FnFind l = some true := by
  simp only [M_l_FnFind, Bool.cond_decide]
  split
  · rfl
  · rename_i h
    obtain ⟨t, p, u, a, b, e, t1, t2, p0, p1, u1, u2, a0, ab, b1⟩ := makeLine_ok l (by omega)
    rw [bindO_of e]
    simp only
    by_cases hz : (t.length : Int) = 0
    · rw [if_pos hz]
      obtain ⟨v, e1, hv⟩ := fr_on t (by omega) a 120 a0 (by omega)
      have hv1 : v = -1 := by
        rcases hv with ⟨g, _⟩ | ⟨g1, g2, _⟩
        · exact g
        · omega
      subst hv1
      rw [bindO_of e1]
      simp [callO, M_i_HowOf, bindO]
    · rw [if_neg hz]
      have hb0 : 0 ≤ Int.tmod b (t.length : Int) := Int.tmod_nonneg _ (by omega)
      have hb1 : Int.tmod b (t.length : Int) < (t.length : Int) := Int.tmod_lt_of_pos _ (by omega)
      simp only [guardO]
      rw [if_pos hz, if_pos ⟨hb0, hb1⟩]
      generalize hq : Int.tmod b (t.length : Int) = q at *
      obtain ⟨on, e1, hon⟩ := fr_on t (by omega) a (at' t q) a0 (by omega)
      obtain ⟨back, e2, hback⟩ := fr_back t (by omega) a (at' t q) a0 (by omega)
      obtain ⟨till, e3, htill⟩ := fr_till t (by omega) a (at' t q) a0 (by omega)
      have e4 := findTo_one t a (at' t q) on a0 (by omega) e1
      rw [bindO_of e1, bindO_of e2]
      simp only [joinO]
      rw [find_loop t p (by omega) a b on back _ (by
        intro i i0 i1 hi
        rw [hq] at hi
        rintro (⟨g1, g2⟩ | ⟨g1, g2⟩)
        · rcases hon with ⟨_, k2⟩ | ⟨k1, k2, k3, k4⟩
          · exact k2 i g1 i1 hi
          · exact k4 i g1 (by omega) hi
        · rcases hback with ⟨_, k2⟩ | ⟨k1, k2, k3, k4⟩
          · exact k2 i i0 g1 hi
          · exact k4 i g2 g1 hi) FUEL 0 (by omega) (by omega) (by rw [fuel_eq]; omega) (by rw [fuel_eq]; omega)]
      have c1 : (decide (on ≤ a) = false → decide (0 ≤ on) = true → 0 ≤ on ∧ on < (t.length : Int)) := by
        intro _ g
        simp only [decide_eq_true_eq] at g
        rcases hon with ⟨k1, _⟩ | ⟨k1, k2, k3, k4⟩
        · omega
        · exact ⟨g, k2⟩
      rw [if_pos c1]
      have c2 : (if 0 ≤ on then if on ≤ a then true else !decide (at' t on = at' t q) else false) = false := by
        rcases hon with ⟨k1, _⟩ | ⟨k1, k2, k3, k4⟩
        · rw [if_neg (by omega)]
        · rw [if_pos (by omega), if_neg (by omega), k3]; simp
      have c3 : (if 0 ≤ back then if a ≤ back then true else !decide (at' t back = at' t q) else false) = false := by
        rcases hback with ⟨k1, _⟩ | ⟨k1, k2, k3, k4⟩
        · rw [if_neg (by omega)]
        · rw [if_pos (by omega), if_neg (by omega), k3]; simp
      have c4 : (if 0 ≤ till then if till ≤ a then true else !decide (at' t (till + 1) = at' t q) else false) = false := by
        rcases htill with k1 | ⟨k1, k2, k3⟩
        · rw [if_neg (by omega)]
        · rw [if_pos (by omega), if_neg (by omega), k3]; simp
      have wt : W (till + 1) = till + 1 := by
        rcases htill with k1 | ⟨k1, k2, k3⟩ <;> exact W_eq (by omega) (by omega)
      rw [if_pos (by
        intro _ g _
        simp only [decide_eq_true_eq] at g
        rcases hback with ⟨k1, _⟩ | ⟨k1, k2, k3, k4⟩
        · omega
        · exact ⟨g, by omega⟩)]
      simp only [c2, c3, cond_false, Bool.false_eq_true, if_false]
      rw [bindO_of e3]
      simp only [wt]
      rw [if_pos (by
        intro _ g
        simp only [decide_eq_true_eq] at g
        rcases htill with k1 | ⟨k1, k2, k3⟩
        · omega
        · exact ⟨by omega, k2⟩)]
      simp only [c4, cond_false, Bool.false_eq_true, if_false]
      rw [bindO_of e4]
      rcases hon with ⟨k1, k2⟩ | ⟨k1, k2, k3, k4⟩
      · subst k1
        simp only [show ((-1 : Int) < 0) by decide, if_true, show ¬ ((0 : Int) ≤ -1) by decide, decide_false, BEq.rfl, cond_true, Bool.not_false, cond_false]
        rw [if_pos (by
          intro g _ _
          simp only [decide_eq_true_eq] at g
          exact ⟨a0, g⟩)]
        congr 1
        by_cases hqa : q < a
        · rcases hback with ⟨g1, g2⟩ | ⟨g1, g2, g3, g4⟩
          · exact absurd rfl (g2 q hb0 hqa)
          · simp [g1]
        · by_cases hqa' : q = a
          · subst hqa'; simp [hb1]
          · exact absurd rfl (k2 q (by omega) hb1)
      · have n1 : ¬ (on < 0) := by omega
        have n2 : (0 : Int) ≤ on := by omega
        simp [n1, n2]

end Go.Eng

namespace Go.Proofs.Ytamjkgjmefknkaa.fnFind
open Go.ChangeShapes Go.WideShapes Go.ChangeAt Go.RowKit Go.Eng
open Go.ChangeMaps (open_string shut_string)

theorem own : ownKnob Try.prog.godebug = none := by kernel_rfl
theorem laidOut : laidOutB Try.prog = true := by kernel_rfl

theorem walk (a0 : Option Addr) (len0 cap0 : Nat) (z0 : List Int) (w : World) (w0 : IsRow .u8 w a0 len0 cap0 z0) :
    Calls Try.prog 3 #[.slice a0 len0 cap0] w fun e w' => e = .returned (.bool true) ∧ Below w.heap.size w w' := by
  obtain ⟨l0, f0⟩ := w0.byteFact
  have h := ok_l_FnFind (bytesOf (z0.take len0)) a0 cap0 len0 l0 true (law_FnFind (bytesOf (z0.take len0)) )
  refine Calls.mono (h.calls w ?_) ?_
  · intro x hx
    rcases List.mem_cons.1 hx with rfl | hx
    · exact ⟨_, f0.choose_spec⟩
    cases hx
  · rintro e w' ⟨r, -, he, hk, -⟩
    exact ⟨he, hk.below⟩

set_option maxRecDepth 100000 in
theorem lifted (os : Os) (started : os.Started) (H : Type) (enc : TypeId × Value → H) :
    ReturnsInHanded {} Try.checked os 3 .any (Rows.fnFindSpec.pre6 enc Try.prog Try.f3 Rows.fnFindRow.domain false) (Rows.fnFindSpec.post enc Try.prog Try.f3 false true false false) := by
  refine returnsInHanded_of_change (C := Try.checked) own started (by kernel_rfl) Try.func3
    (ChangeSpec.witness6 (enc := enc) (C := Try.checked) false ⟨#[], #[.slice none 0 0], []⟩ 8 (by kernel_rfl) (by kernel_rfl) (by kernel_rfl) (by kernel_rfl)) ?_
  intro W base args ds gs before hval0 hW hcnd _
  have hval : ∀ (j : Nat) t v, Try.f3.params[j]? = some t → args[j]? = some v → Value.okWide Try.prog W .any base t v := hval0
  have hW' := hW
  obtain ⟨p, q, hA0, hV, rfl, hfz, hnd⟩ := hW
  have hA : DataW.TrodAll enc Try.prog W 0 (fun _ => true) true Try.f3.params.toList args.toList ds p := hA0
  rw [Try.params3] at hA hval
  obtain ⟨v0, vs0, d0, ds0, p0, q0, hargs, rfl, rfl, h0, r0⟩ := trodAll_cons hA
  obtain ⟨rfl, rfl, rfl⟩ := trodAll_nil r0
  obtain rfl : args = #[v0] := by cases args; simp_all
  obtain ⟨rfl, rfl⟩ := trodVars_none hV
  obtain ⟨a0, len0, cap0, rfl⟩ := okWide_slice Try.underlying22 (hval 0 22 v0 rfl rfl)
  have k0 := h0
  have lt0 : ∀ x ∈ p0, x.block < W.heap.size := by obtain ⟨m, hm⟩ := k0; exact DataW.trod_lt m _ _ _ hm
  obtain ⟨z0, w0⟩ : ∃ zs, IsRow .u8 W a0 len0 cap0 zs := by
    obtain ⟨fuel, hf⟩ := h0
    rcases open_ints Try.underlying22 Try.underlying5 (by kernel_rfl) hf with ⟨hcs, _⟩ | ⟨x, l, c, zs, hcs, _, hl, hm, hz, _, hcell, hwz⟩
    · simp [Value.cells] at hcs
      obtain ⟨rfl, rfl, rfl⟩ := hcs
      exact ⟨[], .inl ⟨rfl, rfl, rfl, rfl⟩⟩
    · simp [Value.cells] at hcs
      obtain ⟨rfl, rfl, rfl⟩ := hcs
      exact ⟨zs, .inr ⟨_, rfl, hl, hm, by simpa using hz, hcell, hwz⟩⟩
  clear hA0 hval0
  simp only [List.append_nil] at hW'
  refine (walk a0 len0 cap0 z0 W w0).mono fun e W' ⟨he, bel⟩ => ?_
  subst he
  exact ⟨_, rfl, _, _, _, [], _, [], hW', trodAll_mk1 (shut_bool Try.underlying4 _), (trodAll_cons_mk (Below.trod laidOut (by kernel_rfl) (of_decide_eq_true (by kernel_rfl)) k0 bel lt0) trodAll_mk0), rfl, bel.frame _, fun h => by cases h⟩

theorem over : Rows.fnFindRow.holds Try.pinned (OpenSpec.ofChange Rows.fnFindSpec) :=
  OpenClaim.holds_of_wide 3 Try.f3 rfl rfl rfl rfl rfl rfl rfl ⟨rfl, rfl, rfl, rfl, rfl⟩ rfl rfl rfl rfl rfl (by kernel_rfl) Try.func3 (by kernel_rfl)
    (of_decide_eq_true (by kernel_rfl)) (by unfold Func.isWrapper; first | (rw [if_pos (by decide +kernel)]; kernel_rfl) | (rw [if_neg (by decide +kernel)]; exact ⟨rfl, rfl⟩))
    (fun os started H enc _ => lifted os started H enc)

theorem proved : Rows.FnFindSaid := over
#print axioms proved
end Go.Proofs.Ytamjkgjmefknkaa.fnFind
