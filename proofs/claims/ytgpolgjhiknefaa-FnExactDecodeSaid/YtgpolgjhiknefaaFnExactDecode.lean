/- FnExactDecode: for every input the given law returns true and leaves its arguments as they were. No condition. -/
import Derived.Test.YtgpolgjhiknefaaFnExactDecodeWalkB
import Derived.Test.YtgpolgjhiknefaaRows
import Derived.WalkKit
import Derived.ProofKit
import Derived.OpenShut
import Derived.ShutString
set_option linter.unusedVariables false
set_option linter.unusedSimpArgs false
namespace Go.Eng
open Go Go.Proofs


theorem bindO_of {α β : Type} {m : Option α} {k : α → Option β} {y : α} (h : m = some y) : bindO m k = k y := by rw [h]; rfl

theorem wf64 {a : Int} (h : (Lit.int .i64 a).wf = true) : -9223372036854775808 ≤ a ∧ a ≤ 9223372036854775807 := by
  simpa [Lit.wf, IntKind.min, IntKind.max, IntKind.signed, IntKind.bits] using h


theorem drop_at {α : Type} [Inhabited α] {l : List α} {k : Int} (h0 : 0 ≤ k) (h : k < (l.length : Int)) : l.drop k.toNat = at' l k :: l.drop (k + 1).toNat := by
  have hlt : k.toNat < l.length := by omega
  rw [List.drop_eq_getElem_cons hlt]
  have : (k + 1).toNat = k.toNat + 1 := by omega
  rw [this]
  congr 1
  simp [at', List.getD_eq_getElem?_getD, hlt]

theorem sub_all {α : Type} {l : List α} {k : Int} (h0 : 0 ≤ k) : sub' l k (l.length : Int) = l.drop k.toNat := by
  unfold sub'
  rw [List.take_of_length_le]
  simp

theorem byte_eq {b : UInt8} {n : Nat} (hn : n < 256) : ((b.toNat : Int) = n) ↔ b = UInt8.ofNat n := by
  constructor
  · intro h; apply UInt8.toNat_inj.1; simp; omega
  · intro h; rw [h]; simp; omega


def encL (r : Int) : List Int :=
  if ¬ (0 ≤ r ∧ r ≤ 1114111 ∧ (r < 55296 ∨ 57343 < r)) then [] else
  if r < 128 then [r] else if r < 2048 then [192 + r / 64, 128 + r % 64]
  else if r < 65536 then [224 + r / 4096, 128 + r / 64 % 64, 128 + r % 64]
  else [240 + r / 262144, 128 + r / 4096 % 64, 128 + r / 64 % 64, 128 + r % 64]

def enc (r : Int) : List UInt8 := (encL r).map u8

theorem td {a b : Int} (h : 0 ≤ a) : Int.tdiv a b = a / b := Int.tdiv_eq_ediv_of_nonneg h
theorem tm {a b : Int} (h : 0 ≤ a) : Int.tmod a b = a % b := Int.tmod_eq_emod_of_nonneg h

theorem u8_nat {x : Int} (h : 0 ≤ x) (h2 : x < 256) : ((u8 x).toNat : Int) = x := by
  simp [u8]; omega

theorem u8_self (x : UInt8) : u8 (x.toNat : Int) = x := by
  have : x.toNat < 256 := x.toNat_lt
  apply UInt8.toNat_inj.1
  have := u8_nat (x := (x.toNat : Int)) (by omega) (by omega)
  omega

theorem map_u8 : ∀ (l : List Int) (bs : List UInt8), (∀ x ∈ l, 0 ≤ x ∧ x < 256) → (l.map u8 = bs ↔ l = bs.map (fun b => (b.toNat : Int)))
  | [], [], _ => by simp
  | [], b :: bs, _ => by simp
  | x :: l, [], _ => by simp
  | x :: l, b :: bs, h => by
    have hx := h x (by simp)
    have ih := map_u8 l bs (fun y hy => h y (by simp [hy]))
    simp only [List.map_cons, List.cons.injEq, ih]
    constructor
    · rintro ⟨h1, h2⟩
      refine ⟨?_, h2⟩
      rw [← h1, u8_nat hx.1 hx.2]
    · rintro ⟨h1, h2⟩
      refine ⟨?_, h2⟩
      rw [h1, u8_self]

theorem encL_bytes (r : Int) : ∀ x ∈ encL r, 0 ≤ x ∧ x < 256 := by
  intro x
  unfold encL
  split
  · simp
  · split
    · simp; omega
    · split
      · simp; omega
      · split
        · simp; omega
        · simp; omega

theorem enc_iff (r : Int) (bs : List UInt8) : enc r = bs ↔ encL r = bs.map (fun b => (b.toNat : Int)) := map_u8 _ _ (encL_bytes r)

theorem enc_len (r : Int) : (enc r).length ≤ 4 := by
  unfold enc encL
  split
  · simp
  · split
    · simp
    · split
      · simp
      · split <;> simp

def r2 (x y : Int) : Int := (x - 192) * 64 + y - 128
def r3 (x y z : Int) : Int := ((x - 224) * 64 + y - 128) * 64 + z - 128
def r4 (x y z v : Int) : Int := (((x - 240) * 64 + y - 128) * 64 + z - 128) * 64 + v - 128

theorem encL1 {x : Int} (h : 0 ≤ x) (h2 : x < 256) : encL x = [x] ↔ x < 128 := by
  unfold encL
  split
  · simp; omega
  · split
    · simp; omega
    · split
      · simp; omega
      · omega

def E2 (x y : Int) : Prop := 194 ≤ x ∧ x ≤ 223 ∧ 128 ≤ y ∧ y ≤ 191
instance (x y : Int) : Decidable (E2 x y) := by unfold E2; infer_instance
def E3 (x y z : Int) : Prop := (224 ≤ x ∧ x ≤ 239 ∧ 128 ≤ y ∧ y ≤ 191 ∧ 128 ≤ z ∧ z ≤ 191) ∧ 2048 ≤ r3 x y z ∧ (r3 x y z < 55296 ∨ 57343 < r3 x y z)
instance (x y z : Int) : Decidable (E3 x y z) := by unfold E3; infer_instance
def E4 (x y z v : Int) : Prop := (240 ≤ x ∧ x ≤ 247 ∧ 128 ≤ y ∧ y ≤ 191 ∧ 128 ≤ z ∧ z ≤ 191 ∧ 128 ≤ v ∧ v ≤ 191) ∧ 65536 ≤ r4 x y z v ∧ r4 x y z v ≤ 1114111
instance (x y z v : Int) : Decidable (E4 x y z v) := by unfold E4; infer_instance

theorem encL2 {x y : Int} (h : 0 ≤ x ∧ x < 256 ∧ 0 ≤ y ∧ y < 256) : encL (r2 x y) = [x, y] ↔ E2 x y := by
  unfold E2
  generalize hr : r2 x y = r
  unfold r2 at hr
  unfold encL
  split
  · simp; omega
  · split
    · simp; omega
    · split
      · simp only [List.cons.injEq, and_true]; omega
      · split <;> (simp; try omega)

theorem encL3 {x y z : Int} (h : 0 ≤ x ∧ x < 256 ∧ 0 ≤ y ∧ y < 256 ∧ 0 ≤ z ∧ z < 256) : encL (r3 x y z) = [x, y, z] ↔ E3 x y z := by
  unfold E3
  generalize hr : r3 x y z = r
  unfold r3 at hr
  unfold encL
  split
  · simp; omega
  · split
    · simp; omega
    · split
      · simp; omega
      · split
        · simp only [List.cons.injEq, and_true]; omega
        · simp; omega

theorem encL4 {x y z v : Int} (h : 0 ≤ x ∧ x < 256 ∧ 0 ≤ y ∧ y < 256 ∧ 0 ≤ z ∧ z < 256 ∧ 0 ≤ v ∧ v < 256) : encL (r4 x y z v) = [x, y, z, v] ↔ E4 x y z v := by
  unfold E4
  generalize hr : r4 x y z v = r
  unfold r4 at hr
  unfold encL
  split
  · simp; omega
  · split
    · simp; omega
    · split
      · simp; omega
      · split
        · simp; omega
        · simp only [List.cons.injEq, and_true]; omega

def bi (s : List UInt8) (i : Int) : Int := ((at' s i).toNat : Int)

def rd (s : List UInt8) : Int × Int :=
  if s.length < 1 then (0, 0) else
  if bi s 0 < 128 then (bi s 0, 1) else
  if s.length < 2 then (0, 0) else
  if E2 (bi s 0) (bi s 1) then (r2 (bi s 0) (bi s 1), 2) else
  if s.length < 3 then (0, 0) else
  if E3 (bi s 0) (bi s 1) (bi s 2) then (r3 (bi s 0) (bi s 1) (bi s 2), 3) else
  if s.length < 4 then (0, 0) else
  if E4 (bi s 0) (bi s 1) (bi s 2) (bi s 3) then (r4 (bi s 0) (bi s 1) (bi s 2) (bi s 3), 4) else (0, 0)

theorem at_drop {α : Type} [Inhabited α] {b : List α} {a : Int} (h0 : 0 ≤ a) (i : Int) (hi : 0 ≤ i) : at' b (a + i) = at' (b.drop a.toNat) i := by
  unfold at'
  have : (a + i).toNat = a.toNat + i.toNat := by omega
  rw [this]
  simp [List.getD_eq_getElem?_getD, List.getElem?_drop]

theorem at_drop0 {α : Type} [Inhabited α] {b : List α} {a : Int} (h0 : 0 ≤ a) : at' b a = at' (b.drop a.toNat) 0 := by
  have := at_drop (b := b) h0 0 (by omega)
  simpa using this

theorem sub_drop {α : Type} {b : List α} {a n : Int} (h0 : 0 ≤ a) (hn : 0 ≤ n) : sub' b a (a + n) = (b.drop a.toNat).take n.toNat := by
  unfold sub'
  congr 1
  omega

theorem byteB (x : UInt8) : 0 ≤ (x.toNat : Int) ∧ (x.toNat : Int) < 256 := by
  have : x.toNat < 256 := x.toNat_lt
  omega

theorem rd_1 (x : UInt8) : rd [x] = if (x.toNat : Int) < 128 then ((x.toNat : Int), 1) else (0, 0) := by
  simp [rd, bi, at']
theorem rd_2 (x y : UInt8) : rd [x, y] = if (x.toNat : Int) < 128 then ((x.toNat : Int), 1) else if E2 x.toNat y.toNat then (r2 x.toNat y.toNat, 2) else (0, 0) := by
  simp [rd, bi, at']
theorem rd_3 (x y z : UInt8) : rd [x, y, z] = if (x.toNat : Int) < 128 then ((x.toNat : Int), 1) else if E2 x.toNat y.toNat then (r2 x.toNat y.toNat, 2) else if E3 x.toNat y.toNat z.toNat then (r3 x.toNat y.toNat z.toNat, 3) else (0, 0) := by
  simp [rd, bi, at']
theorem rd_4 (x y z v : UInt8) (t : List UInt8) : rd (x :: y :: z :: v :: t) = if (x.toNat : Int) < 128 then ((x.toNat : Int), 1) else if E2 x.toNat y.toNat then (r2 x.toNat y.toNat, 2) else if E3 x.toNat y.toNat z.toNat then (r3 x.toNat y.toNat z.toNat, 3) else if E4 x.toNat y.toNat z.toNat v.toNat then (r4 x.toNat y.toNat z.toNat v.toNat, 4) else (0, 0) := by
  have l1 : ¬ (t.length + 1 + 1 + 1 + 1 < 1) := by omega
  have l2 : ¬ (t.length + 1 + 1 + 1 + 1 < 2) := by omega
  have l3 : ¬ (t.length + 1 + 1 + 1 + 1 < 3) := by omega
  have l4 : ¬ (t.length + 1 + 1 + 1 + 1 < 4) := by omega
  simp [rd, bi, at', l1, l2, l3, l4]

theorem runeOk_s (r : Int) : M_s_RuneOk r = some (decide (0 ≤ r ∧ r ≤ 1114111 ∧ (r < 55296 ∨ 57343 < r))) := by
  unfold M_s_RuneOk
  congr 1
  by_cases h1 : 0 ≤ r <;> by_cases h2 : r ≤ 1114111 <;> by_cases h3 : r < 55296 <;> simp [h1, h2, h3]

theorem runeBytes_s (r : Int) : M_s_RuneBytes r = some (enc r) := by
  unfold M_s_RuneBytes enc encL
  rw [bindO_of (runeOk_s r)]
  by_cases h : 0 ≤ r ∧ r ≤ 1114111 ∧ (r < 55296 ∨ 57343 < r)
  · have h0 := h.1
    have h00 : 0 ≤ r / 64 := by omega
    have h01 : 0 ≤ r / 4096 := by omega
    simp only [h, decide_true, Bool.not_true, cond_false, not_true, if_false, Bool.cond_decide, td h0, tm h0]
    rw [W_eq (x := r / 64) (by omega) (by omega), W_eq (x := r / 4096) (by omega) (by omega), W_eq (x := r / 262144) (by omega) (by omega), tm h00, tm h01]
    rw [W_eq (x := 192 + r / 64) (by omega) (by omega), W_eq (x := 128 + r % 64) (by omega) (by omega), W_eq (x := 224 + r / 4096) (by omega) (by omega), W_eq (x := 128 + r / 64 % 64) (by omega) (by omega), W_eq (x := 240 + r / 262144) (by omega) (by omega), W_eq (x := 128 + r / 4096 % 64) (by omega) (by omega)]
    split
    · rfl
    · split
      · rfl
      · split <;> rfl
  · simp only [h, decide_false, Bool.not_false, cond_true, not_false_eq_true, if_true, List.map_nil]

section
variable {b : List UInt8} {a : Int} (h0 : 0 ≤ a) (hl : (b.length : Int) ≤ 100000000)
include h0 hl

theorem rrInner (n : Int) (hn : 1 ≤ n) (hn4 : n ≤ 4) (han : a + n ≤ (b.length : Int)) (j : Int → Option (Int × Int)) (m : Nat) : ∀ (r i : Int), 1 ≤ i → i ≤ n → (-100000000 ≤ r ∧ r ≤ 100000000) →
    fixF (M_s_RuneRead_L1 b a n j) (m + 1) (r, i) = if i < n then fixF (M_s_RuneRead_L1 b a n j) m (r * 64 + ((at' b (a + i)).toNat : Int) - 128, i + 1) else j r := by
  intro r i hi hin hr
  simp only [fixF, M_s_RuneRead_L1, guardO, Bool.cond_decide]
  by_cases h : i < n
  · have hb := byteB (at' b (a + i))
    rw [if_pos h, if_pos h]
    rw [W_eq (x := a + i) (by omega) (by omega), if_pos (by omega), W_eq (x := r * 64) (by omega) (by omega), W_eq (x := r * 64 + _) (by omega) (by omega), W_eq (x := r * 64 + _ - 128) (by omega) (by omega), W_eq (x := i + 1) (by omega) (by omega)]
  · rw [if_neg h, if_neg h]

def vl (b : List UInt8) (a n : Int) : Int :=
  if n = 1 then (at' b a).toNat
  else if n = 2 then r2 (at' b a).toNat (at' b (a + 1)).toNat
  else if n = 3 then r3 (at' b a).toNat (at' b (a + 1)).toNat (at' b (a + 2)).toNat
  else r4 (at' b a).toNat (at' b (a + 1)).toNat (at' b (a + 2)).toNat (at' b (a + 3)).toNat

theorem rrLoop (n : Int) (hn : 1 ≤ n) (hn4 : n ≤ 4) (han : a + n ≤ (b.length : Int)) (j : Int → Option (Int × Int)) :
    (if 1 < n then fixF (M_s_RuneRead_L1 b a n j) FUEL ((((at' b a).toNat : Int) - (at' ([0, 0, 192, 224, 240] : List Int) n)), 1) else fixF (M_s_RuneRead_L1 b a n j) FUEL (((at' b a).toNat : Int), 1)) = j (vl b a n) := by
  obtain ⟨m, hm⟩ : ∃ m, FUEL = m + 1 + 1 + 1 + 1 := ⟨FUEL - 4, by rw [fuel_eq]⟩
  rw [hm]
  have b0 := byteB (at' b a)
  have b1 := byteB (at' b (a + 1))
  have b2 := byteB (at' b (a + 2))
  have b3 := byteB (at' b (a + 3))
  have b4 := byteB (at' b (a + (1 + 1)))
  have b5 := byteB (at' b (a + (1 + 1 + 1)))
  have hc : n = 1 ∨ n = 2 ∨ n = 3 ∨ n = 4 := by omega
  rcases hc with rfl | rfl | rfl | rfl
  · rw [if_neg (by omega), rrInner h0 hl _ hn hn4 han _ _ _ _ (by omega) (by omega) (by omega), if_neg (by omega)]
    rfl
  · rw [if_pos (by omega)]
    have e : at' ([0, 0, 192, 224, 240] : List Int) 2 = 192 := rfl
    rw [e, rrInner h0 hl _ hn hn4 han _ _ _ _ (by omega) (by omega) (by omega), if_pos (by omega), rrInner h0 hl _ hn hn4 han _ _ _ _ (by omega) (by omega) (by omega), if_neg (by omega)]
    rfl
  · rw [if_pos (by omega)]
    have e : at' ([0, 0, 192, 224, 240] : List Int) 3 = 224 := rfl
    rw [e, rrInner h0 hl _ hn hn4 han _ _ _ _ (by omega) (by omega) (by omega), if_pos (by omega), rrInner h0 hl _ hn hn4 han _ _ _ _ (by omega) (by omega) (by omega), if_pos (by omega), rrInner h0 hl _ hn hn4 han _ _ _ _ (by omega) (by omega) (by omega), if_neg (by omega)]
    rfl
  · rw [if_pos (by omega)]
    have e : at' ([0, 0, 192, 224, 240] : List Int) 4 = 240 := rfl
    rw [e, rrInner h0 hl _ hn hn4 han _ _ _ _ (by omega) (by omega) (by omega), if_pos (by omega), rrInner h0 hl _ hn hn4 han _ _ _ _ (by omega) (by omega) (by omega), if_pos (by omega), rrInner h0 hl _ hn hn4 han _ _ _ _ (by omega) (by omega) (by omega), if_pos (by omega), rrInner h0 hl _ hn hn4 han _ _ _ _ (by omega) (by omega) (by omega), if_neg (by omega)]
    rfl

theorem rrStep (j : Unit → Option (Int × Int)) (k : Int → Option (Int × Int)) (n : Int) (hn : 1 ≤ n) (hn5 : n ≤ 5) (ha : a < (b.length : Int)) :
    M_s_RuneRead_L2 b a j k n = if n ≤ 4 ∧ n ≤ (b.length : Int) - a then (if enc (vl b a n) = sub' b a (a + n) then some (vl b a n, n) else k (n + 1)) else j () := by
  unfold M_s_RuneRead_L2
  simp only [joinO, guardO, Bool.cond_decide, runeBytes_s, bindO]
  rw [W_eq (x := (b.length : Int) - a) (by omega) (by omega), W_eq (x := a + n) (by omega) (by omega), W_eq (x := n + 1) (by omega) (by omega)]
  by_cases hc : n ≤ 4 ∧ n ≤ (b.length : Int) - a
  · have hs : ((sub' b a (a + n)).length : Int) = n := by
      rw [sub_len (by omega)]; omega
    have b0 := byteB (at' b a)
    have ht : 0 ≤ at' ([0, 0, 192, 224, 240] : List Int) n ∧ at' ([0, 0, 192, 224, 240] : List Int) n ≤ 240 := by
      have : n = 1 ∨ n = 2 ∨ n = 3 ∨ n = 4 := by omega
      rcases this with rfl | rfl | rfl | rfl <;> decide
    rw [if_pos hc, if_pos hc.1, decide_eq_true hc.2, cond_true, if_pos ⟨h0, ha⟩, if_pos (show 0 ≤ n ∧ n < (([0, 0, 192, 224, 240] : List Int).length : Int) by simp; omega), W_eq (x := ((at' b a).toNat : Int) - _) (by omega) (by omega)]
    rw [rrLoop h0 hl n hn hc.1 (by omega)]
    rw [if_pos (fun _ => by omega)]
    by_cases h : enc (vl b a n) = sub' b a (a + n)
    · rw [h]; simp [hs]
    · simp [h]
  · rw [if_neg hc]
    by_cases h1 : n ≤ 4
    · have : ¬ n ≤ (b.length : Int) - a := fun h => hc ⟨h1, h⟩
      simp [h1, this]
    · simp [h1]

theorem runeRead_s (ha : a < (b.length : Int)) : M_s_RuneRead b a = some (rd (b.drop a.toNat)) := by
  unfold M_s_RuneRead
  have e0 : decide (a < 0) = false := by simp; omega
  have e1 : decide ((b.length : Int) ≤ a) = false := by simp; omega
  rw [e0, e1]
  simp only [cond_false, joinO]
  obtain ⟨m, hm⟩ : ∃ m, FUEL = m + 1 + 1 + 1 + 1 + 1 := ⟨FUEL - 5, by rw [fuel_eq]⟩
  rw [hm]
  have st : ∀ (m : Nat) (n : Int), 1 ≤ n → n ≤ 5 → fixF (M_s_RuneRead_L2 b a fun _ => some (0, 0)) (m + 1) n = if n ≤ 4 ∧ n ≤ (b.length : Int) - a then (if enc (vl b a n) = sub' b a (a + n) then some (vl b a n, n) else fixF (M_s_RuneRead_L2 b a fun _ => some (0, 0)) m (n + 1)) else some (0, 0) := by
    intro m n h1 h2
    simp only [fixF]
    exact rrStep h0 hl _ _ n h1 h2 ha
  rw [st _ 1 (by omega) (by omega), st _ (1 + 1) (by omega) (by omega), st _ (1 + 1 + 1) (by omega) (by omega), st _ (1 + 1 + 1 + 1) (by omega) (by omega), st _ (1 + 1 + 1 + 1 + 1) (by omega) (by omega)]
  rw [sub_drop h0 (by omega), sub_drop h0 (by omega), sub_drop h0 (by omega), sub_drop h0 (by omega)]
  unfold vl
  rw [at_drop0 h0, at_drop h0 1 (by omega), at_drop h0 2 (by omega), at_drop h0 3 (by omega)]
  have hL : (b.length : Int) - a = ((b.drop a.toNat).length : Int) := by simp; omega
  rw [hL]
  have hne : 0 < (b.drop a.toNat).length := by simp; omega
  generalize b.drop a.toNat = s at *
  clear st hL hm
  have ai : ∀ (c : Prop) [Decidable c] (x y : Int × Int), (if c then some x else some y) = some (if c then x else y) := fun c _ x y => by split <;> rfl
  simp only [enc_iff]
  rcases s with _ | ⟨x, _ | ⟨y, _ | ⟨z, _ | ⟨v, t⟩⟩⟩⟩
  · simp at hne
  · have b0 := byteB x
    have e1 := encL1 b0.1 b0.2
    simp [at', rd_1, e1, ai]
  · have b0 := byteB x
    have b1 := byteB y
    have e1 := encL1 b0.1 b0.2
    have e2 := encL2 (x := x.toNat) (y := y.toNat) (by omega)
    simp [at', rd_2, e1, e2, ai]
  · have b0 := byteB x
    have b1 := byteB y
    have b2 := byteB z
    have e1 := encL1 b0.1 b0.2
    have e2 := encL2 (x := x.toNat) (y := y.toNat) (by omega)
    have e3 := encL3 (x := x.toNat) (y := y.toNat) (z := z.toNat) (by omega)
    simp [at', rd_3, e1, e2, e3, ai]
  · have b0 := byteB x
    have b1 := byteB y
    have b2 := byteB z
    have b3 := byteB v
    have e1 := encL1 b0.1 b0.2
    have e2 := encL2 (x := x.toNat) (y := y.toNat) (by omega)
    have e3 := encL3 (x := x.toNat) (y := y.toNat) (z := z.toNat) (by omega)
    have e4 := encL4 (x := x.toNat) (y := y.toNat) (z := z.toNat) (v := v.toNat) (by omega)
    have l1 : (1 : Int) ≤ ((t.length : Int) + 1 + 1 + 1 + 1) := by omega
    have l2 : (2 : Int) ≤ ((t.length : Int) + 1 + 1 + 1 + 1) := by omega
    have l3 : (3 : Int) ≤ ((t.length : Int) + 1 + 1 + 1 + 1) := by omega
    have l4 : (4 : Int) ≤ ((t.length : Int) + 1 + 1 + 1 + 1) := by omega
    simp [at', rd_4, e1, e2, e3, e4, l1, l2, l3, l4, ai]
end

theorem runeRead_s0 (b : List UInt8) (h1 : 0 < b.length) (h2 : b.length ≤ 100) : M_s_RuneRead b 0 = some (rd b) := by
  have := runeRead_s (b := b) (a := 0) (by omega) (by omega) (by omega)
  simpa using this

def rbS : List UInt8 → Bool
  | [x] => decide (E2 x.toNat 128 ∨ E2 x.toNat 191 ∨ E3 x.toNat 128 128 ∨ E3 x.toNat 191 191 ∨ E4 x.toNat 128 128 128 ∨ E4 x.toNat 191 191 191)
  | [x, y] => decide (E3 x.toNat y.toNat 128 ∨ E3 x.toNat y.toNat 191 ∨ E4 x.toNat y.toNat 128 128 ∨ E4 x.toNat y.toNat 191 191)
  | [x, y, z] => decide (E4 x.toNat y.toNat z.toNat 128 ∨ E4 x.toNat y.toNat z.toNat 191)
  | _ => false

theorem rd2_2 (x y : UInt8) : ((rd [x, y]).2 = 2) ↔ E2 x.toNat y.toNat := by
  rw [rd_2]
  split
  · simp [E2]; omega
  · split <;> simp [*]
theorem rd3_3 (x y z : UInt8) : ((rd [x, y, z]).2 = 3) ↔ E3 x.toNat y.toNat z.toNat := by
  rw [rd_3]
  split
  · simp [E3]; omega
  · split
    · rename_i h; simp [E3]; unfold E2 at h; omega
    · split <;> simp [*]
theorem rd4_4 (x y z v : UInt8) : ((rd [x, y, z, v]).2 = 4) ↔ E4 x.toNat y.toNat z.toNat v.toNat := by
  rw [rd_4]
  split
  · simp [E4]; omega
  · split
    · rename_i h; simp [E4]; unfold E2 at h; omega
    · split
      · rename_i h; simp [E4]; unfold E3 at h; omega
      · split <;> simp [*]

theorem rbInner (n : Int) (j : (List UInt8 × List UInt8) → Option Bool) : ∀ (d m : Nat) (lo hi : List UInt8), lo.length ≤ 100 → hi.length = lo.length → n ≤ 4 → (lo.length : Int) + d = n ∨ (d = 0 ∧ n ≤ (lo.length : Int)) → d < m → 
    fixF (M_s_RuneBegin_L1 n j) m (lo, hi) = j (lo ++ List.replicate d 128, hi ++ List.replicate d 191) := by
  intro d
  induction d with
  | zero =>
    intro m lo hi h1 h2 h3 h4 h5
    obtain ⟨m, rfl⟩ : ∃ k, m = k + 1 := ⟨m - 1, by omega⟩
    simp only [fixF, M_s_RuneBegin_L1, Bool.cond_decide]
    rw [if_neg (by omega)]
    simp
  | succ d ih =>
    intro m lo hi h1 h2 h3 h4 h5
    obtain ⟨m, rfl⟩ : ∃ k, m = k + 1 := ⟨m - 1, by omega⟩
    simp only [fixF, M_s_RuneBegin_L1, Bool.cond_decide, guardO]
    have q : (lo.length : Int) + (d + 1 : Nat) = n := by omega
    have g1 : lo.length + ([(128 : UInt8)] : List UInt8).length ≤ 536870912 := by simp; omega
    have g2 : hi.length + ([(191 : UInt8)] : List UInt8).length ≤ 536870912 := by simp; omega
    rw [if_pos (by omega), if_pos g1, if_pos g2, ih m (lo ++ [128]) (hi ++ [191]) (by simp; omega) (by simp; omega) h3 (by simp; omega) (by omega)]
    simp [List.replicate_succ]

theorem rbStep (p : List UInt8) (j : Unit → Option Bool) (k : Int → Option Bool) (d : Nat) (hp : 0 < p.length) (h4 : p.length + d ≤ 4) :
    M_s_RuneBegin_L2 p j k (((p.length + d : Nat)) : Int) = if (rd (p ++ List.replicate d 128)).2 = ((p.length + d : Nat) : Int) ∨ (rd (p ++ List.replicate d 191)).2 = ((p.length + d : Nat) : Int) then some true else k (((p.length + (d + 1) : Nat)) : Int) := by
  simp only [M_s_RuneBegin_L2, Bool.cond_decide, joinO, guardO, List.nil_append, List.length_nil]
  rw [if_pos (by omega), if_pos (by omega), if_pos (by omega), rbInner _ _ d FUEL p p (by omega) rfl (by omega) (by omega) (by rw [fuel_eq]; omega)]
  simp only
  rw [runeRead_s0 _ (by simp; omega) (by simp; omega), runeRead_s0 _ (by simp; omega) (by simp; omega)]
  simp only [bindO]
  rw [W_eq (by omega) (by omega)]
  have e : ((p.length + d : Nat) : Int) + 1 = ((p.length + (d + 1) : Nat) : Int) := by omega
  rw [e]
  by_cases c1 : (rd (p ++ List.replicate d 128)).2 = ((p.length + d : Nat) : Int) <;> by_cases c2 : (rd (p ++ List.replicate d 191)).2 = ((p.length + d : Nat) : Int) <;> simp [c1, c2]

theorem rbStop (p : List UInt8) (k : Int → Option Bool) (n : Int) (h : 4 < n) : M_s_RuneBegin_L2 p (fun _ => some false) k n = some false := by
  simp only [M_s_RuneBegin_L2, Bool.cond_decide]
  rw [if_neg (by omega)]

theorem runeBegin_s (p : List UInt8) (hp : p.length ≤ 100000000) : M_s_RuneBegin p = some (rbS p) := by
  obtain ⟨m, hm⟩ : ∃ m, FUEL = m + 1 + 1 + 1 + 1 + 1 := ⟨FUEL - 5, by rw [fuel_eq]⟩
  have e128 : (((128 : UInt8).toNat : Nat) : Int) = 128 := rfl
  have e191 : (((191 : UInt8).toNat : Nat) : Int) = 191 := rfl
  rcases p with _ | ⟨x, _ | ⟨y, _ | ⟨z, _ | ⟨v, t⟩⟩⟩⟩
  · simp [M_s_RuneBegin, rbS]
  · have s1 := fun k => rbStep [x] (fun _ => some false) k 1 (by simp) (by simp)
    have s2 := fun k => rbStep [x] (fun _ => some false) k 2 (by simp) (by simp)
    have s3 := fun k => rbStep [x] (fun _ => some false) k 3 (by simp) (by simp)
    simp only [List.length_cons, List.length_nil, List.replicate, List.cons_append, List.nil_append] at s1 s2 s3
    have c2 : ∀ v : UInt8, ((rd [x, v]).2 = ((0 + 1 + 1 : Nat) : Int)) ↔ E2 x.toNat v.toNat := fun v => rd2_2 x v
    have c3 : ∀ v u : UInt8, ((rd [x, v, u]).2 = ((0 + 1 + 2 : Nat) : Int)) ↔ E3 x.toNat v.toNat u.toNat := fun v u => rd3_3 x v u
    have c4 : ∀ v u t : UInt8, ((rd [x, v, u, t]).2 = ((0 + 1 + 3 : Nat) : Int)) ↔ E4 x.toNat v.toNat u.toNat t.toNat := fun v u t => rd4_4 x v u t
    have w : W ((([x] : List UInt8).length : Int) + 1) = ((0 + 1 + 1 : Nat) : Int) := by rw [W_eq (by simp) (by simp)]; rfl
    unfold M_s_RuneBegin
    rw [w]
    simp only [joinO, hm, fixF, s1, s2, s3, rbStop [x] _ ((0 + 1 + (3 + 1) : Nat) : Int) (by decide), c2, c3, c4, e128, e191, rbS]
    by_cases h1 : E2 x.toNat 128 ∨ E2 x.toNat 191
    · rcases h1 with h1 | h1 <;> simp [h1]
    · by_cases h2 : E3 x.toNat 128 128 ∨ E3 x.toNat 191 191
      · rcases h2 with h2 | h2 <;> simp [h2]
      · by_cases h3 : E4 x.toNat 128 128 128 ∨ E4 x.toNat 191 191 191
        · rcases h3 with h3 | h3 <;> simp [h3]
        · simp only [not_or] at h1 h2 h3
          simp [h1, h2, h3]
  · have s1 := fun k => rbStep [x, y] (fun _ => some false) k 1 (by simp) (by simp)
    have s2 := fun k => rbStep [x, y] (fun _ => some false) k 2 (by simp) (by simp)
    simp only [List.length_cons, List.length_nil, List.replicate, List.cons_append, List.nil_append] at s1 s2
    have c3 : ∀ u : UInt8, ((rd [x, y, u]).2 = ((0 + 1 + 1 + 1 : Nat) : Int)) ↔ E3 x.toNat y.toNat u.toNat := fun u => rd3_3 x y u
    have c4 : ∀ u t : UInt8, ((rd [x, y, u, t]).2 = ((0 + 1 + 1 + 2 : Nat) : Int)) ↔ E4 x.toNat y.toNat u.toNat t.toNat := fun u t => rd4_4 x y u t
    have w : W ((([x, y] : List UInt8).length : Int) + 1) = ((0 + 1 + 1 + 1 : Nat) : Int) := by rw [W_eq (by simp) (by simp)]; rfl
    unfold M_s_RuneBegin
    rw [w]
    simp only [joinO, hm, fixF, s1, s2, rbStop [x, y] _ ((0 + 1 + 1 + (2 + 1) : Nat) : Int) (by decide), c3, c4, e128, e191, rbS]
    by_cases h2 : E3 x.toNat y.toNat 128 ∨ E3 x.toNat y.toNat 191
    · rcases h2 with h2 | h2 <;> simp [h2]
    · by_cases h3 : E4 x.toNat y.toNat 128 128 ∨ E4 x.toNat y.toNat 191 191
      · rcases h3 with h3 | h3 <;> simp [h3]
      · simp only [not_or] at h2 h3
        simp [h2, h3]
  · have s1 := fun k => rbStep [x, y, z] (fun _ => some false) k 1 (by simp) (by simp)
    simp only [List.length_cons, List.length_nil, List.replicate, List.cons_append, List.nil_append] at s1
    have c4 : ∀ t : UInt8, ((rd [x, y, z, t]).2 = ((0 + 1 + 1 + 1 + 1 : Nat) : Int)) ↔ E4 x.toNat y.toNat z.toNat t.toNat := fun t => rd4_4 x y z t
    have w : W ((([x, y, z] : List UInt8).length : Int) + 1) = ((0 + 1 + 1 + 1 + 1 : Nat) : Int) := by rw [W_eq (by simp) (by simp)]; rfl
    unfold M_s_RuneBegin
    rw [w]
    simp only [joinO, hm, fixF, s1, rbStop [x, y, z] _ ((0 + 1 + 1 + 1 + (1 + 1) : Nat) : Int) (by decide), c4, e128, e191, rbS]
    by_cases h3 : E4 x.toNat y.toNat z.toNat 128 ∨ E4 x.toNat y.toNat z.toNat 191
    · rcases h3 with h3 | h3 <;> simp [h3]
    · simp only [not_or] at h3
      simp [h3]
  · have l1 : (3 : Int) < (t.length : Int) + 1 + 1 + 1 + 1 := by omega
    simp [M_s_RuneBegin, rbS, l1]

theorem in_eq (a b c : Int) : M_i_in a b c = some (decide (b ≤ a ∧ a ≤ c)) := by
  unfold M_i_in
  congr 1
  by_cases h1 : b ≤ a <;> by_cases h2 : a ≤ c <;> simp [h1, h2]

theorem rbI_nil : M_i_RuneBegin [] = some false := by
  simp [M_i_RuneBegin, in_eq, bindO]

theorem rbLoopI (p : List UInt8) (n : Int) (hn : n ≤ 4) (hp : p.length ≤ 3) (j : Int × Int → Option Bool) (m : Nat) (l h k : Int) (hk : 0 ≤ k) (hl : -1000000000 ≤ l ∧ l ≤ 100000000) (hh : -1000000000 ≤ h ∧ h ≤ 100000000) :
    fixF (M_i_RuneBegin_L1 p n j) (m + 1) (l, h, k) = if k < n then (if k < (p.length : Int) then (if 128 ≤ ((at' p k).toNat : Int) ∧ ((at' p k).toNat : Int) ≤ 191 then fixF (M_i_RuneBegin_L1 p n j) m (l * 64 + (at' p k).toNat - 128, h * 64 + (at' p k).toNat - 128, k + 1) else some false) else fixF (M_i_RuneBegin_L1 p n j) m (l * 64, h * 64 + 63, k + 1)) else j (l, h) := by
  simp only [fixF, M_i_RuneBegin_L1, Bool.cond_decide, joinO, guardO, in_eq, bindO]
  by_cases c1 : k < n
  · rw [if_pos c1, if_pos c1]
    have b0 := byteB (at' p k)
    rw [W_eq (x := k + 1) (by omega) (by omega), W_eq (x := l * 64) (by omega) (by omega), W_eq (x := h * 64) (by omega) (by omega), W_eq (x := l * 64 + _) (by omega) (by omega), W_eq (x := h * 64 + ((at' p k).toNat : Int)) (by omega) (by omega), W_eq (x := h * 64 + 63) (by omega) (by omega), W_eq (x := l * 64 + _ - 128) (by omega) (by omega), W_eq (x := h * 64 + ((at' p k).toNat : Int) - 128) (by omega) (by omega)]
    by_cases c2 : k < (p.length : Int)
    · rw [if_pos c2, if_pos c2]
      have g : (0 ≤ k ∧ k < (p.length : Int)) := ⟨hk, c2⟩
      rw [if_pos g, if_pos g, if_pos g]
      by_cases c3 : 128 ≤ ((at' p k).toNat : Int) ∧ ((at' p k).toNat : Int) ≤ 191
      · rw [if_pos c3, decide_eq_true c3]; rfl
      · rw [if_neg c3, decide_eq_false c3]; rfl
    · rw [if_neg c2, if_neg c2]
  · rw [if_neg c1, if_neg c1]

def fin1 (n l h : Int) : Bool := decide (max l n ≤ min h 1114111 ∧ ¬ (55296 ≤ max l n ∧ min h 1114111 ≤ 57343))

def rbI (p : List UInt8) : Bool :=
  decide (1 ≤ p.length ∧ p.length ≤ 3) &&
  (if 192 ≤ bi p 0 ∧ bi p 0 ≤ 223 then decide (p.length < 2) && fin1 128 ((bi p 0 - 192) * 64) ((bi p 0 - 192) * 64 + 63)
  else if 224 ≤ bi p 0 ∧ bi p 0 ≤ 239 then
    (if p.length < 2 then fin1 2048 ((bi p 0 - 224) * 64 * 64) (((bi p 0 - 224) * 64 + 63) * 64 + 63)
    else decide (p.length < 3) && decide (128 ≤ bi p 1 ∧ bi p 1 ≤ 191) && fin1 2048 (((bi p 0 - 224) * 64 + bi p 1 - 128) * 64) (((bi p 0 - 224) * 64 + bi p 1 - 128) * 64 + 63))
  else if 240 ≤ bi p 0 ∧ bi p 0 ≤ 247 then
    (if p.length < 2 then fin1 65536 ((bi p 0 - 240) * 64 * 64 * 64) ((((bi p 0 - 240) * 64 + 63) * 64 + 63) * 64 + 63)
    else decide (128 ≤ bi p 1 ∧ bi p 1 ≤ 191) && (if p.length < 3 then fin1 65536 (((bi p 0 - 240) * 64 + bi p 1 - 128) * 64 * 64) ((((bi p 0 - 240) * 64 + bi p 1 - 128) * 64 + 63) * 64 + 63)
    else decide (128 ≤ bi p 2 ∧ bi p 2 ≤ 191) && fin1 65536 ((((bi p 0 - 240) * 64 + bi p 1 - 128) * 64 + bi p 2 - 128) * 64) ((((bi p 0 - 240) * 64 + bi p 1 - 128) * 64 + bi p 2 - 128) * 64 + 63)))
  else false)

theorem rbS_I (p : List UInt8) : rbI p = rbS p := by
  rcases p with _ | ⟨x, _ | ⟨y, _ | ⟨z, _ | ⟨v, t⟩⟩⟩⟩
  · rfl
  · have hx := byteB x
    have b0 : bi [x] 0 = (x.toNat : Int) := rfl
    simp only [rbI, rbS, b0, List.length_cons, List.length_nil]
    generalize (x.toNat : Int) = X at *
    rw [Bool.eq_iff_iff]
    simp only [E2, E3, E4, r3, r4, fin1]
    split
    · simp; omega
    · split
      · simp; omega
      · split
        · simp; omega
        · simp; omega
  · have hx := byteB x
    have hy := byteB y
    have b0 : bi [x, y] 0 = (x.toNat : Int) := rfl
    have b1 : bi [x, y] 1 = (y.toNat : Int) := rfl
    simp only [rbI, rbS, b0, b1, List.length_cons, List.length_nil]
    generalize (x.toNat : Int) = X at *
    generalize (y.toNat : Int) = Y at *
    rw [Bool.eq_iff_iff]
    simp only [E2, E3, E4, r3, r4, fin1]
    split
    · simp; omega
    · split
      · simp; omega
      · split
        · simp; omega
        · simp; omega
  · have hx := byteB x
    have hy := byteB y
    have hz := byteB z
    have b0 : bi [x, y, z] 0 = (x.toNat : Int) := rfl
    have b1 : bi [x, y, z] 1 = (y.toNat : Int) := rfl
    have b2 : bi [x, y, z] 2 = (z.toNat : Int) := rfl
    simp only [rbI, rbS, b0, b1, b2, List.length_cons, List.length_nil]
    generalize (x.toNat : Int) = X at *
    generalize (y.toNat : Int) = Y at *
    generalize (z.toNat : Int) = Z at *
    rw [Bool.eq_iff_iff]
    simp only [E2, E3, E4, r3, r4, fin1]
    split
    · simp; try omega
    · split
      · simp; try omega
      · split
        · simp; omega
        · simp; omega
  · simp [rbI, rbS]

theorem rbI_eq (p : List UInt8) (hp : p.length ≤ 100000000) : M_i_RuneBegin p = some (rbI p) := by
  unfold M_i_RuneBegin
  simp only [in_eq, bindO, joinO, guardO, Bool.cond_decide]
  by_cases hl : 1 ≤ p.length ∧ p.length ≤ 3
  · have hl' : 1 ≤ (p.length : Int) ∧ (p.length : Int) ≤ 3 := by omega
    rw [decide_eq_true hl']
    simp only [Bool.not_true, cond_false]
    rw [if_pos (show 0 ≤ (0 : Int) ∧ 0 < (p.length : Int) by omega)]
    have b0 := byteB (at' p 0)
    have b1 := byteB (at' p 1)
    have b2 := byteB (at' p 2)
    rw [W_eq (x := ((at' p 0).toNat : Int) - 192) (by omega) (by omega), W_eq (x := ((at' p 0).toNat : Int) - 224) (by omega) (by omega), W_eq (x := ((at' p 0).toNat : Int) - 240) (by omega) (by omega)]
    have l2 : ∀ n : Int, (if n ≤ (p.length : Int) then some false else none : Option Bool) = if n ≤ (p.length : Int) then some false else none := fun _ => rfl
    obtain ⟨m, hm⟩ : ∃ m, FUEL = m + 1 + 1 + 1 + 1 := ⟨FUEL - 4, by rw [fuel_eq]⟩
    have t2 : at' ([0, 0, 128, 2048, 65536] : List Int) 2 = 128 := rfl
    have t3 : at' ([0, 0, 128, 2048, 65536] : List Int) 3 = 2048 := rfl
    have t4 : at' ([0, 0, 128, 2048, 65536] : List Int) 4 = 65536 := rfl
    have g2 : (0 ≤ (2 : Int) ∧ (2 : Int) < (([0, 0, 128, 2048, 65536] : List Int).length : Int)) = True := by simp
    have g3 : (0 ≤ (3 : Int) ∧ (3 : Int) < (([0, 0, 128, 2048, 65536] : List Int).length : Int)) = True := by simp
    have g4 : (0 ≤ (4 : Int) ∧ (4 : Int) < (([0, 0, 128, 2048, 65536] : List Int).length : Int)) = True := by simp
    have fin : ∀ n l h : Int, (bif decide (max l n ≤ min h 1114111) then (!(bif decide (55296 ≤ max l n) then decide (min h 1114111 ≤ 57343) else false)) else false) = fin1 n l h := by
      intro n l h
      unfold fin1
      by_cases c1 : max l n ≤ min h 1114111 <;> by_cases c2 : 55296 ≤ max l n <;> by_cases c3 : min h 1114111 ≤ 57343 <;> simp [c1, c2, c3]
    have fin' : ∀ n l h : Int, (if max l n ≤ min h 1114111 then (!(if 55296 ≤ max l n then decide (min h 1114111 ≤ 57343) else false)) else false) = fin1 n l h := by
      intro n l h
      unfold fin1
      by_cases c1 : max l n ≤ min h 1114111 <;> by_cases c2 : 55296 ≤ max l n <;> by_cases c3 : min h 1114111 ≤ 57343 <;> simp [c1, c2, c3]
    unfold rbI bi
    rw [decide_eq_true hl]
    have hp3 : p.length ≤ 3 := hl.2
    by_cases c1 : 192 ≤ ((at' p 0).toNat : Int) ∧ ((at' p 0).toNat : Int) ≤ 223
    · rw [if_pos c1, if_pos c1]
      simp only [g2, if_true, t2, fin']
      by_cases d1 : p.length < 2
      · have d0 : p.length = 1 := by omega
        rw [if_neg (by omega), hm, rbLoopI p 2 (by omega) hp3 _ _ _ _ _ (by omega) (by omega) (by omega), if_pos (by omega), if_neg (by omega), rbLoopI p 2 (by omega) hp3 _ _ _ _ _ (by omega) (by omega) (by omega), if_neg (by omega)]
        simp [d1]
      · rw [if_pos (by omega)]; simp [d1]
    · rw [if_neg c1, if_neg c1]
      by_cases c2 : 224 ≤ ((at' p 0).toNat : Int) ∧ ((at' p 0).toNat : Int) ≤ 239
      · rw [if_pos c2, if_pos c2]
        simp only [g3, if_true, t3, fin']
        by_cases d1 : p.length < 2
        · rw [if_neg (by omega), hm, rbLoopI p 3 (by omega) hp3 _ _ _ _ _ (by omega) (by omega) (by omega), if_pos (by omega), if_neg (by omega), rbLoopI p 3 (by omega) hp3 _ _ _ _ _ (by omega) (by omega) (by omega), if_pos (by omega), if_neg (by omega), rbLoopI p 3 (by omega) hp3 _ _ _ _ _ (by omega) (by omega) (by omega), if_neg (by omega)]
          simp [d1]
        · by_cases d2 : p.length < 3
          · rw [if_neg (by omega), hm, rbLoopI p 3 (by omega) hp3 _ _ _ _ _ (by omega) (by omega) (by omega), if_pos (by omega), if_pos (by omega)]
            by_cases e1 : 128 ≤ ((at' p 1).toNat : Int) ∧ ((at' p 1).toNat : Int) ≤ 191
            · have e2 : (1 : Int) + 1 = 2 := rfl
              rw [if_pos e1, e2, rbLoopI p 3 (by omega) hp3 _ _ _ _ _ (by omega) (by omega) (by omega), if_pos (by omega), if_neg (by omega), rbLoopI p 3 (by omega) hp3 _ _ _ _ _ (by omega) (by omega) (by omega), if_neg (by omega)]
              simp [d1, d2, e1]
            · rw [if_neg e1]; simp [d1, e1]
          · rw [if_pos (by omega)]; simp [d1, d2]
      · rw [if_neg c2, if_neg c2]
        by_cases c3 : 240 ≤ ((at' p 0).toNat : Int) ∧ ((at' p 0).toNat : Int) ≤ 247
        · rw [if_pos c3, if_pos c3]
          simp only [g4, if_true, t4, fin']
          have e2 : (1 : Int) + 1 = 2 := rfl
          have e3 : (2 : Int) + 1 = 3 := rfl
          rw [if_neg (by omega), hm, rbLoopI p 4 (by omega) hp3 _ _ _ _ _ (by omega) (by omega) (by omega), if_pos (by omega), e2]
          by_cases d1 : p.length < 2
          · rw [if_neg (by omega), rbLoopI p 4 (by omega) hp3 _ _ _ _ _ (by omega) (by omega) (by omega), if_pos (by omega), if_neg (by omega), rbLoopI p 4 (by omega) hp3 _ _ _ _ _ (by omega) (by omega) (by omega), if_pos (by omega), if_neg (by omega), rbLoopI p 4 (by omega) hp3 _ _ _ _ _ (by omega) (by omega) (by omega), if_neg (by omega)]
            simp [d1]
          · rw [if_pos (by omega)]
            by_cases e1 : 128 ≤ ((at' p 1).toNat : Int) ∧ ((at' p 1).toNat : Int) ≤ 191
            · rw [if_pos e1, rbLoopI p 4 (by omega) hp3 _ _ _ _ _ (by omega) (by omega) (by omega), if_pos (by omega), e3]
              by_cases d2 : p.length < 3
              · rw [if_neg (by omega), rbLoopI p 4 (by omega) hp3 _ _ _ _ _ (by omega) (by omega) (by omega), if_pos (by omega), if_neg (by omega), rbLoopI p 4 (by omega) hp3 _ _ _ _ _ (by omega) (by omega) (by omega), if_neg (by omega)]
                simp [d1, d2, e1]
              · rw [if_pos (by omega)]
                by_cases e4 : 128 ≤ ((at' p 2).toNat : Int) ∧ ((at' p 2).toNat : Int) ≤ 191
                · rw [if_pos e4, rbLoopI p 4 (by omega) hp3 _ _ _ _ _ (by omega) (by omega) (by omega), if_pos (by omega), if_neg (by omega), rbLoopI p 4 (by omega) hp3 _ _ _ _ _ (by omega) (by omega) (by omega), if_neg (by omega)]
                  simp [d1, d2, e1, e4]
                · rw [if_neg e4]; simp [d1, d2, e4]
            · rw [if_neg e1]; simp [d1, e1]
        · rw [if_neg c3, if_neg c3]
          rw [if_pos (by omega)]
          simp
  · have hl' : ¬ (1 ≤ (p.length : Int) ∧ (p.length : Int) ≤ 3) := by omega
    rw [decide_eq_false hl']
    unfold rbI
    rw [decide_eq_false hl]
    simp

theorem runeBegin_i (p : List UInt8) (hp : p.length ≤ 100000000) : M_i_RuneBegin p = some (rbS p) := by
  rw [rbI_eq p hp, rbS_I]

def okP (b : UInt8) : Bool := decide ((48 ≤ (b.toNat : Int) ∧ (b.toNat : Int) ≤ 57) ∨ (b.toNat : Int) = 59)

def okD (d : Int × List UInt8) : Bool :=
  if d.1 = 0 then decide (d.2.length = 0) || rbS d.2
  else if d.1 = 2 then d.2.all okP && decide (d.2.length ≤ 8)
  else decide (1 ≤ d.1 ∧ d.1 ≤ 4) && decide (d.2.length = 0)

theorem l12Param_eq (b : UInt8) : M_s_l12Param (b.toNat : Int) = some (okP b) := by
  unfold M_s_l12Param okP
  congr 1
  by_cases h1 : 48 ≤ (b.toNat : Int) <;> by_cases h2 : (b.toNat : Int) ≤ 57 <;> simp [h1, h2]

theorem isDigit_eq (x : Int) : M_i_isDigit x = some (decide (48 ≤ x ∧ x ≤ 57)) := by
  unfold M_i_isDigit
  rw [bindO_of (in_eq _ _ _)]

theorem okLoop_s (d : Int × List UInt8) (hl : d.2.length ≤ 100000000) (j : Unit → Option Bool) : ∀ (m : Nat) (k : Int), 0 ≤ k → k ≤ (d.2.length : Int) → (d.2.length : Int) - k < m → fixF (M_s_DecOk_L1 d j) m k = if (d.2.drop k.toNat).all okP then j () else some false := by
  intro m
  induction m with
  | zero => intro k _ _ h; omega
  | succ m ih =>
    intro k hk hk' hm
    simp only [fixF, M_s_DecOk_L1, guardO, Bool.cond_decide, l12Param_eq, bindO]
    by_cases h1 : k < (d.2.length : Int)
    · rw [if_pos h1, if_pos ⟨hk, h1⟩, W_eq (by omega) (by omega), drop_at hk h1]
      by_cases h2 : okP (at' d.2 k)
      · rw [ih (k + 1) (by omega) (by omega) (by omega)]
        simp [h2]
      · simp [h2]
    · rw [if_neg h1, List.drop_eq_nil_of_le (by omega)]
      simp

theorem okLoop_i (d : Int × List UInt8) (hl : d.2.length ≤ 100000000) (j : Unit → Option Bool) : ∀ (m : Nat) (k : Int), 0 ≤ k → k ≤ (d.2.length : Int) → (d.2.length : Int) - k < m → fixF (M_i_DecOk_L1 d j) m k = if (d.2.drop k.toNat).all okP then j () else some false := by
  intro m
  induction m with
  | zero => intro k _ _ h; omega
  | succ m ih =>
    intro k hk hk' hm
    simp only [fixF, M_i_DecOk_L1, guardO, isDigit_eq, bindO]
    by_cases h1 : k < (d.2.length : Int)
    · rw [decide_eq_true h1, cond_true, if_pos ⟨hk, h1⟩, W_eq (by omega) (by omega), drop_at hk h1]
      by_cases h2 : okP (at' d.2 k)
      · rw [ih (k + 1) (by omega) (by omega) (by omega)]
        have h3 : (bif (!decide (48 ≤ ((at' d.2 k).toNat : Int) ∧ ((at' d.2 k).toNat : Int) ≤ 57)) then (!(decide (((at' d.2 k).toNat : Int) = (59 : Int)))) else false) = false := by
          unfold okP at h2
          have h2 := of_decide_eq_true h2
          by_cases c : 48 ≤ ((at' d.2 k).toNat : Int) ∧ ((at' d.2 k).toNat : Int) ≤ 57
          · rw [decide_eq_true c]; rfl
          · rw [decide_eq_false c, decide_eq_true (h2.resolve_left c)]; rfl
        rw [h3]
        simp [h2]
      · have h3 : (bif (!decide (48 ≤ ((at' d.2 k).toNat : Int) ∧ ((at' d.2 k).toNat : Int) ≤ 57)) then (!(decide (((at' d.2 k).toNat : Int) = (59 : Int)))) else false) = true := by
          have h2' : okP (at' d.2 k) = false := by simpa using h2
          unfold okP at h2'
          have h2' := of_decide_eq_false h2'
          rw [decide_eq_false (fun c => h2' (.inl c)), decide_eq_false (fun c => h2' (.inr c))]; rfl
        rw [h3]
        simp [h2]
    · rw [decide_eq_false h1, List.drop_eq_nil_of_le (by omega)]
      simp

theorem decOk_s (d : Int × List UInt8) (hl : d.2.length ≤ 100000000) : M_s_DecOk d = some (okD d) := by
  unfold M_s_DecOk okD
  simp only [joinO, Bool.cond_decide]
  by_cases h0 : d.1 = 0
  · rw [if_pos h0, if_pos h0, runeBegin_s _ hl]
    by_cases hz : (d.2.length : Int) = 0
    · have hz' : d.2.length = 0 := by omega
      simp [callO, hz, hz']
    · have hz' : ¬ d.2.length = 0 := by omega
      simp [callO, hz, hz', bindO]
  · rw [if_neg h0, if_neg h0]
    by_cases h2 : d.1 = 2
    · rw [if_pos h2, if_pos h2, okLoop_s d hl _ FUEL 0 (by omega) (by omega) (by rw [fuel_eq]; omega)]
      have hd : decide ((d.2.length : Int) ≤ 8) = decide (d.2.length ≤ 8) := by
        by_cases q : d.2.length ≤ 8
        · rw [decide_eq_true q, decide_eq_true (by omega)]
        · rw [decide_eq_false q, decide_eq_false (by omega)]
      rw [hd]
      simp only [Int.toNat_zero, List.drop_zero]
      cases hq : d.2.all okP <;> simp
    · rw [if_neg h2, if_neg h2]
      congr 1
      by_cases c1 : 1 ≤ d.1 <;> by_cases c2 : d.1 ≤ 4 <;> by_cases c3 : d.2.length = 0 <;> simp [c1, c2, c3]

theorem decOk_i (d : Int × List UInt8) (hl : d.2.length ≤ 100000000) : M_i_DecOk d = some (okD d) := by
  unfold M_i_DecOk okD
  simp only [joinO, Bool.cond_decide]
  by_cases h0 : d.1 = 0
  · rw [if_pos h0, if_pos h0, runeBegin_i _ hl]
    by_cases hz : (d.2.length : Int) = 0
    · have hz' : d.2.length = 0 := by omega
      simp [callO, hz, hz']
    · have hz' : ¬ d.2.length = 0 := by omega
      simp [callO, hz, hz', bindO]
  · rw [if_neg h0, if_neg h0]
    by_cases h2 : d.1 = 2
    · rw [if_pos h2, if_pos h2, okLoop_i d hl _ FUEL 0 (by omega) (by omega) (by rw [fuel_eq]; omega)]
      have hd : decide ((d.2.length : Int) ≤ 8) = decide (d.2.length ≤ 8) := by
        by_cases q : d.2.length ≤ 8
        · rw [decide_eq_true q, decide_eq_true (by omega)]
        · rw [decide_eq_false q, decide_eq_false (by omega)]
      rw [hd]
      simp only [Int.toNat_zero, List.drop_zero]
      cases hq : d.2.all okP <;> simp
    · rw [if_neg h2, if_neg h2]
      by_cases c1 : d.1 = 1
      · by_cases c4 : d.2.length = 0 <;> simp [c1, c4]
      · by_cases c2 : d.1 = 3
        · by_cases c4 : d.2.length = 0 <;> simp [c1, c2, c4]
        · by_cases c3 : d.1 = 4
          · by_cases c4 : d.2.length = 0 <;> simp [c1, c2, c3, c4]
          · have : ¬ (1 ≤ d.1 ∧ d.1 ≤ 4) := by omega
            simp [c1, c2, c3, this]

theorem runeOk_i (r : Int) : M_i_RuneOk r = some (decide (0 ≤ r ∧ r ≤ 1114111 ∧ (r < 55296 ∨ 57343 < r))) := by
  unfold M_i_RuneOk
  simp only [in_eq, bindO, callO]
  by_cases h1 : 0 ≤ r ∧ r ≤ 1114111
  · rw [decide_eq_true h1]
    simp only [cond_true, if_true]
    by_cases h2 : r < 55296
    · have : ¬ (55296 ≤ r ∧ r ≤ 57343) := by omega
      simp [h1, h2, this]
    · by_cases h3 : 57343 < r
      · have : ¬ (55296 ≤ r ∧ r ≤ 57343) := by omega
        simp [h1, h2, h3, this]
      · have : (55296 ≤ r ∧ r ≤ 57343) := by omega
        simp [h1, h2, h3, this]
  · have : ¬ (0 ≤ r ∧ r ≤ 1114111 ∧ (r < 55296 ∨ 57343 < r)) := fun h => h1 ⟨h.1, h.2.1⟩
    rw [decide_eq_false h1, decide_eq_false this]
    simp

theorem runeBytes_i (r : Int) : M_i_RuneBytes r = some (enc r) := by
  unfold M_i_RuneBytes enc encL
  rw [bindO_of (runeOk_i r)]
  by_cases h : 0 ≤ r ∧ r ≤ 1114111 ∧ (r < 55296 ∨ 57343 < r)
  · have h0 := h.1
    have h00 : 0 ≤ r / 64 := by omega
    have h01 : 0 ≤ r / 4096 := by omega
    simp only [h, decide_true, Bool.not_true, cond_false, not_true, if_false, Bool.cond_decide, td h0, tm h0]
    rw [W_eq (x := r / 64) (by omega) (by omega), W_eq (x := r / 4096) (by omega) (by omega), W_eq (x := r / 262144) (by omega) (by omega), tm h00, tm h01]
    rw [W_eq (x := 192 + r / 64) (by omega) (by omega), W_eq (x := 128 + r % 64) (by omega) (by omega), W_eq (x := 224 + r / 4096) (by omega) (by omega), W_eq (x := 128 + r / 64 % 64) (by omega) (by omega), W_eq (x := 240 + r / 262144) (by omega) (by omega), W_eq (x := 128 + r / 4096 % 64) (by omega) (by omega)]
    split
    · rfl
    · split
      · rfl
      · split <;> rfl
  · simp only [h, decide_false, Bool.not_false, cond_true, not_false_eq_true, if_true, List.map_nil]

section
variable {b : List UInt8} {a : Int} (h0 : 0 ≤ a) (hl : (b.length : Int) ≤ 100000000)
include h0 hl

theorem riInner (n : Int) (hn : 2 ≤ n) (hn4 : n ≤ 4) (han : a + n ≤ (b.length : Int)) (j : Int → Option (Int × Int)) (m : Nat) : ∀ (r i : Int), 0 ≤ i → i ≤ n - 1 → (-100000000 ≤ r ∧ r ≤ 100000000) →
    fixF (M_i_RuneRead_L1 b a n j) (m + 1) (r, i) = if i < n - 1 then fixF (M_i_RuneRead_L1 b a n j) m (r * 64 + ((at' b (a + 1 + i)).toNat : Int) - 128, i + 1) else j r := by
  intro r i hi hin hr
  have e1 : W (a + 1) = a + 1 := W_eq (by omega) (by omega)
  have e2 : W (a + n) = a + n := W_eq (by omega) (by omega)
  have hsl : ((sub' b (a + 1) (a + n)).length : Int) = n - 1 := by rw [sub_len (by omega)]; omega
  simp only [fixF, M_i_RuneRead_L1, guardO, Bool.cond_decide, e1, e2, hsl]
  by_cases h : i < n - 1
  · have ea : at' (sub' b (a + 1) (a + n)) i = at' b (a + 1 + i) := by
      unfold at' sub'
      have q : (a + 1 + i).toNat = (a + 1).toNat + i.toNat := by omega
      rw [q]
      simp only [List.getD_eq_getElem?_getD, List.getElem?_take, List.getElem?_drop]
      rw [if_pos (by omega)]
    have hb := byteB (at' b (a + 1 + i))
    rw [if_pos h, if_pos h, if_pos ⟨hi, h⟩, ea]
    rw [W_eq (x := r * 64) (by omega) (by omega), W_eq (x := r * 64 + _) (by omega) (by omega), W_eq (x := r * 64 + _ - 128) (by omega) (by omega), W_eq (x := i + 1) (by omega) (by omega)]
  · rw [if_neg h, if_neg h]

theorem riTail (n v0 : Int) (hn : 2 ≤ n) (hn4 : n ≤ 4) (han : a + n ≤ (b.length : Int)) (hv : v0 = (at' b a).toNat - (if n = 2 then 192 else if n = 3 then 224 else 240)) (j : Int → Option (Int × Int)) :
    fixF (M_i_RuneRead_L1 b a n j) FUEL (v0, 0) = j (vl b a n) := by
  obtain ⟨m, hm⟩ : ∃ m, FUEL = m + 1 + 1 + 1 + 1 := ⟨FUEL - 4, by rw [fuel_eq]⟩
  rw [hm]
  subst hv
  have b0 := byteB (at' b a)
  have b1 := byteB (at' b (a + 1))
  have b2 := byteB (at' b (a + 2))
  have b3 := byteB (at' b (a + 3))
  have b4 := byteB (at' b (a + 1 + 0))
  have b5 := byteB (at' b (a + 1 + 1))
  have b6 := byteB (at' b (a + 1 + 2))
  have q0 : a + 1 + 0 = a + 1 := by omega
  have q1 : a + 1 + 1 = a + 2 := by omega
  have q2 : a + 1 + 2 = a + 3 := by omega
  have z1 : (0 : Int) + 1 = 1 := rfl
  have z2 : (1 : Int) + 1 = 2 := rfl
  have z3 : (2 : Int) + 1 = 3 := rfl
  have hc : n = 2 ∨ n = 3 ∨ n = 4 := by omega
  rcases hc with rfl | rfl | rfl
  · rw [if_pos rfl, riInner h0 hl _ hn hn4 han _ _ _ _ (by omega) (by omega) (by omega), if_pos (by omega), z1, riInner h0 hl _ hn hn4 han _ _ _ _ (by omega) (by omega) (by omega), if_neg (by omega), q0]
    rfl
  · rw [if_neg (by omega), if_pos rfl, riInner h0 hl _ hn hn4 han _ _ _ _ (by omega) (by omega) (by omega), if_pos (by omega), z1, riInner h0 hl _ hn hn4 han _ _ _ _ (by omega) (by omega) (by omega), if_pos (by omega), z2, riInner h0 hl _ hn hn4 han _ _ _ _ (by omega) (by omega) (by omega), if_neg (by omega), q0, q1]
    rfl
  · rw [if_neg (by omega), if_neg (by omega), riInner h0 hl _ hn hn4 han _ _ _ _ (by omega) (by omega) (by omega), if_pos (by omega), z1, riInner h0 hl _ hn hn4 han _ _ _ _ (by omega) (by omega) (by omega), if_pos (by omega), z2, riInner h0 hl _ hn hn4 han _ _ _ _ (by omega) (by omega) (by omega), if_pos (by omega), z3, riInner h0 hl _ hn hn4 han _ _ _ _ (by omega) (by omega) (by omega), if_neg (by omega), q0, q1, q2]
    rfl

theorem riMid (n v0 : Int) (hn : 2 ≤ n) (hn4 : n ≤ 4) (ha : a < (b.length : Int)) (hv : v0 = (at' b a).toNat - (if n = 2 then 192 else if n = 3 then 224 else 240)) :
    (bif (decide ((W ((b.length : Int) - n)) < a)) then
      some ((0 : Int), (0 : Int))
      else
      (guardO (0 ≤ (W (a + 1)) ∧ (W (a + 1)) ≤ (W (a + n)) ∧ (W (a + n)) ≤ (b.length : Int)) <|
      (joinO (fun (x38 : Int) =>
      (bindO (M_i_RuneBytes x38) fun (y42 : List UInt8) =>
      (guardO (0 ≤ a ∧ a ≤ (W (a + n)) ∧ (W (a + n)) ≤ (b.length : Int)) <|
      (bif (!(decide (y42 = (sub' b a (W (a + n)))))) then
      some (0, 0)
      else
      some (x38, n))))) fun j39 =>
      (fixF (M_i_RuneRead_L1 b a n j39) FUEL (v0, 0))))) = some (if a + n ≤ (b.length : Int) ∧ enc (vl b a n) = sub' b a (a + n) then (vl b a n, n) else (0, 0)) := by
  rw [W_eq (x := (b.length : Int) - n) (by omega) (by omega), W_eq (x := a + 1) (by omega) (by omega), W_eq (x := a + n) (by omega) (by omega)]
  by_cases c : (b.length : Int) - n < a
  · rw [decide_eq_true c, if_neg (by omega)]; rfl
  · rw [decide_eq_false c, cond_false]
    simp only [guardO, joinO, runeBytes_i, bindO]
    rw [if_pos (by omega), riTail h0 hl n v0 hn hn4 (by omega) hv, if_pos (by omega)]
    by_cases h : enc (vl b a n) = sub' b a (a + n)
    · rw [if_pos ⟨by omega, h⟩]; simp [h]
    · rw [if_neg (fun q => h q.2)]; simp [h]

theorem runeRead_i (ha : a < (b.length : Int)) : M_i_RuneRead b a = some (rd (b.drop a.toNat)) := by
  unfold M_i_RuneRead
  have e0 : decide (a < 0) = false := by simp; omega
  have e1 : decide ((b.length : Int) ≤ a) = false := by simp; omega
  have b0 := byteB (at' b a)
  rw [e0, e1]
  simp only [cond_false, in_eq]
  have g : 0 ≤ a ∧ a < (b.length : Int) := ⟨h0, ha⟩
  rw [show ∀ k : Option (Int × Int), guardO (0 ≤ a ∧ a < (b.length : Int)) k = k from fun k => if_pos g]
  have j1 : ∀ (f : Int × Int → Option (Int × Int)) (B : (Int × Int → Option (Int × Int)) → Option (Int × Int)), joinO f B = B f := fun _ _ => rfl
  rw [j1]
  rw [W_eq (x := ((at' b a).toNat : Int) - 192) (by omega) (by omega), W_eq (x := ((at' b a).toNat : Int) - 224) (by omega) (by omega), W_eq (x := ((at' b a).toNat : Int) - 240) (by omega) (by omega)]
  have bS : ∀ (x : Bool) (k : Bool → Option (Int × Int)), bindO (some x) k = k x := fun _ _ => rfl
  simp only [bS]
  have m2 := fun v => riMid h0 hl 2 v (by omega) (by omega) ha
  have m3 := fun v => riMid h0 hl 3 v (by omega) (by omega) ha
  have m4 := fun v => riMid h0 hl 4 v (by omega) (by omega) ha
  have hL : (b.length : Int) = a + ((b.drop a.toNat).length : Int) := by simp; omega
  have s2 := sub_drop (b := b) (n := 2) h0 (by omega)
  have s3 := sub_drop (b := b) (n := 3) h0 (by omega)
  have s4 := sub_drop (b := b) (n := 4) h0 (by omega)
  have t0 := at_drop0 (b := b) h0
  have t1 := at_drop (b := b) h0 1 (by omega)
  have t2 := at_drop (b := b) h0 2 (by omega)
  have t3 := at_drop (b := b) h0 3 (by omega)
  have v2 : vl b a 2 = r2 (at' b a).toNat (at' b (a + 1)).toNat := rfl
  have v3 : vl b a 3 = r3 (at' b a).toNat (at' b (a + 1)).toNat (at' b (a + 2)).toNat := rfl
  have v4 : vl b a 4 = r4 (at' b a).toNat (at' b (a + 1)).toNat (at' b (a + 2)).toNat (at' b (a + 3)).toNat := rfl
  have hne : 0 < (b.drop a.toNat).length := by simp; omega
  by_cases c0 : ((at' b a).toNat : Int) < 128
  · rw [decide_eq_true c0, cond_true]
    rw [t0] at c0 ⊢
    unfold rd bi
    rw [if_neg (show ¬ (List.drop a.toNat b).length < 1 by omega), if_pos c0]
  · rw [decide_eq_false c0, cond_false]
    by_cases c2 : 192 ≤ ((at' b a).toNat : Int) ∧ ((at' b a).toNat : Int) ≤ 223
    · rw [decide_eq_true c2, cond_true, m2 _ (by simp), s2, v2, t1]
      rw [t0] at c0 c2 ⊢
      rw [hL]
      generalize b.drop a.toNat = s at *
      congr 1
      unfold rd bi
      rw [if_neg (show ¬ s.length < 1 by omega), if_neg c0]
      by_cases l2 : s.length < 2
      · rw [if_pos l2, if_neg (show ¬ (a + 2 ≤ a + (s.length : Int) ∧ _) from fun h => by omega)]
      · rw [if_neg l2]
        obtain ⟨x, y, t, rfl⟩ : ∃ x y t, s = x :: y :: t := by
          rcases s with _ | ⟨x, _ | ⟨y, t⟩⟩
          · simp at l2
          · simp at l2
          · exact ⟨x, y, t, rfl⟩
        have e := encL2 (x := x.toNat) (y := y.toNat) (by have := byteB x; have := byteB y; omega)
        have a0 : at' (x :: y :: t) 0 = x := rfl
        have a1 : at' (x :: y :: t) 1 = y := rfl
        have tk : (x :: y :: t).take (Int.toNat 2) = [x, y] := rfl
        rw [a0] at c0 c2
        rw [tk, a0, a1]
        have ee : (a + 2 ≤ a + ((x :: y :: t).length : Int) ∧ enc (r2 x.toNat y.toNat) = [x, y]) ↔ E2 x.toNat y.toNat := by
          rw [enc_iff]
          simp only [List.map_cons, List.map_nil, e]
          exact ⟨fun h => h.2, fun h => ⟨by simp; omega, h⟩⟩
        by_cases q : E2 x.toNat y.toNat
        · rw [if_pos (ee.2 q), if_pos q]
        · rw [if_neg (fun h => q (ee.1 h)), if_neg q]
          have n3 : ∀ u v, ¬ E3 (x.toNat : Int) u v := fun u v h => by unfold E3 at h; omega
          have n4 : ∀ u v w, ¬ E4 (x.toNat : Int) u v w := fun u v w h => by unfold E4 at h; omega
          simp only [n3, n4, if_false, ite_self]
    · rw [decide_eq_false c2, cond_false]
      by_cases c3 : 224 ≤ ((at' b a).toNat : Int) ∧ ((at' b a).toNat : Int) ≤ 239
      · rw [decide_eq_true c3, cond_true, m3 _ (by simp), s3, v3, t1, t2]
        rw [t0] at c0 c2 c3 ⊢
        rw [hL]
        generalize b.drop a.toNat = s at *
        congr 1
        unfold rd bi
        have n2 : ∀ u, ¬ E2 ((at' s 0).toNat : Int) u := fun u h => by unfold E2 at h; omega
        have n4 : ∀ u v w, ¬ E4 ((at' s 0).toNat : Int) u v w := fun u v w h => by unfold E4 at h; omega
        rw [if_neg (show ¬ s.length < 1 by omega), if_neg c0]
        simp only [n2, n4, if_false, ite_self]
        by_cases l2 : s.length < 3
        · rw [if_pos l2, ite_self, if_neg (show ¬ (a + 3 ≤ a + (s.length : Int) ∧ _) from fun h => by omega)]
        · rw [if_neg l2, if_neg (show ¬ s.length < 2 by omega)]
          obtain ⟨x, y, z, t, rfl⟩ : ∃ x y z t, s = x :: y :: z :: t := by
            rcases s with _ | ⟨x, _ | ⟨y, _ | ⟨z, t⟩⟩⟩
            · simp at l2
            · simp at l2
            · simp at l2
            · exact ⟨x, y, z, t, rfl⟩
          have e := encL3 (x := x.toNat) (y := y.toNat) (z := z.toNat) (by have := byteB x; have := byteB y; have := byteB z; omega)
          have a0 : at' (x :: y :: z :: t) 0 = x := rfl
          have a1 : at' (x :: y :: z :: t) 1 = y := rfl
          have a2 : at' (x :: y :: z :: t) 2 = z := rfl
          have tk : (x :: y :: z :: t).take (Int.toNat 3) = [x, y, z] := rfl
          rw [tk, a0, a1, a2]
          have ee : (a + 3 ≤ a + ((x :: y :: z :: t).length : Int) ∧ enc (r3 x.toNat y.toNat z.toNat) = [x, y, z]) ↔ E3 x.toNat y.toNat z.toNat := by
            rw [enc_iff]
            simp only [List.map_cons, List.map_nil, e]
            exact ⟨fun h => h.2, fun h => ⟨by simp; omega, h⟩⟩
          by_cases q : E3 x.toNat y.toNat z.toNat
          · rw [if_pos (ee.2 q), if_pos q]
          · rw [if_neg (fun h => q (ee.1 h)), if_neg q]
      · rw [decide_eq_false c3, cond_false]
        by_cases c4 : 240 ≤ ((at' b a).toNat : Int) ∧ ((at' b a).toNat : Int) ≤ 247
        · rw [decide_eq_true c4, cond_true, m4 _ (by simp), s4, v4, t1, t2, t3]
          rw [t0] at c0 c2 c3 c4 ⊢
          rw [hL]
          generalize b.drop a.toNat = s at *
          congr 1
          unfold rd bi
          have n2 : ∀ u, ¬ E2 ((at' s 0).toNat : Int) u := fun u h => by unfold E2 at h; omega
          have n3 : ∀ u v, ¬ E3 ((at' s 0).toNat : Int) u v := fun u v h => by unfold E3 at h; omega
          rw [if_neg (show ¬ s.length < 1 by omega), if_neg c0]
          simp only [n2, n3, if_false, ite_self]
          by_cases l2 : s.length < 4
          · rw [if_pos l2, ite_self, ite_self, if_neg (show ¬ (a + 4 ≤ a + (s.length : Int) ∧ _) from fun h => by omega)]
          · rw [if_neg l2, if_neg (show ¬ s.length < 2 by omega), if_neg (show ¬ s.length < 3 by omega)]
            obtain ⟨x, y, z, v, t, rfl⟩ : ∃ x y z v t, s = x :: y :: z :: v :: t := by
              rcases s with _ | ⟨x, _ | ⟨y, _ | ⟨z, _ | ⟨v, t⟩⟩⟩⟩
              · simp at l2
              · simp at l2
              · simp at l2
              · simp at l2
              · exact ⟨x, y, z, v, t, rfl⟩
            have e := encL4 (x := x.toNat) (y := y.toNat) (z := z.toNat) (v := v.toNat) (by have := byteB x; have := byteB y; have := byteB z; have := byteB v; omega)
            have a0 : at' (x :: y :: z :: v :: t) 0 = x := rfl
            have a1 : at' (x :: y :: z :: v :: t) 1 = y := rfl
            have a2 : at' (x :: y :: z :: v :: t) 2 = z := rfl
            have a3 : at' (x :: y :: z :: v :: t) 3 = v := rfl
            have tk : (x :: y :: z :: v :: t).take (Int.toNat 4) = [x, y, z, v] := rfl
            rw [tk, a0, a1, a2, a3]
            have ee : (a + 4 ≤ a + ((x :: y :: z :: v :: t).length : Int) ∧ enc (r4 x.toNat y.toNat z.toNat v.toNat) = [x, y, z, v]) ↔ E4 x.toNat y.toNat z.toNat v.toNat := by
              rw [enc_iff]
              simp only [List.map_cons, List.map_nil, e]
              exact ⟨fun h => h.2, fun h => ⟨by simp; omega, h⟩⟩
            by_cases q : E4 x.toNat y.toNat z.toNat v.toNat
            · rw [if_pos (ee.2 q), if_pos q]
            · rw [if_neg (fun h => q (ee.1 h)), if_neg q]
        · rw [decide_eq_false c4, cond_false]
          rw [t0] at c0 c2 c3 c4
          unfold rd bi
          generalize b.drop a.toNat = s at *
          have n2 : ∀ u, ¬ E2 ((at' s 0).toNat : Int) u := fun u h => by unfold E2 at h; omega
          have n3 : ∀ u v, ¬ E3 ((at' s 0).toNat : Int) u v := fun u v h => by unfold E3 at h; omega
          have n4 : ∀ u v w, ¬ E4 ((at' s 0).toNat : Int) u v w := fun u v w h => by unfold E4 at h; omega
          simp only [n2, n3, n4, c0, if_false, ite_self]
end

def pr (r : Int) : Bool := decide ((0 ≤ r ∧ r ≤ 1114111 ∧ (r < 55296 ∨ 57343 < r)) ∧ 32 ≤ r ∧ (r < 127 ∨ 159 < r))

theorem printable_s (r : Int) : M_s_Printable r = some (pr r) := by
  unfold M_s_Printable pr
  rw [bindO_of (runeOk_s r)]
  congr 1
  by_cases h1 : (0 ≤ r ∧ r ≤ 1114111 ∧ (r < 55296 ∨ 57343 < r)) <;> by_cases h2 : 32 ≤ r <;> by_cases h3 : r < 127 <;> simp [h1, h2, h3]

theorem printable_i (r : Int) : M_i_Printable r = some (pr r) := by
  unfold M_i_Printable pr
  rw [bindO_of (runeOk_i r)]
  simp only [in_eq, callO]
  by_cases h1 : (0 ≤ r ∧ r ≤ 1114111 ∧ (r < 55296 ∨ 57343 < r))
  · by_cases h2 : 32 ≤ r
    · by_cases h3 : r < 127
      · have : ¬ (127 ≤ r ∧ r ≤ 159) := by omega
        simp [h1, h2, h3, this, bindO]
      · by_cases h4 : 159 < r
        · have : ¬ (127 ≤ r ∧ r ≤ 159) := by omega
          simp [h1, h2, h3, h4, this, bindO]
        · have : (127 ≤ r ∧ r ≤ 159) := by omega
          simp [h1, h2, h3, h4, this, bindO]
    · simp [h1, h2, bindO]
  · simp [h1, bindO]

def arr (b : Int) : Int := if b = 65 then 8 else if b = 66 then 9 else if b = 67 then 10 else if b = 68 then 11 else if b = 72 then 12 else if b = 70 then 13 else 16

theorem arrow_s (b : Int) : M_s_l12Arrow b = some (arr b) := by
  obtain ⟨m, hm⟩ : ∃ m, FUEL = m + 1 + 1 + 1 + 1 + 1 + 1 + 1 := ⟨FUEL - 7, by rw [fuel_eq]⟩
  have st : ∀ (m : Nat) (k : Int), 0 ≤ k → k ≤ 6 → fixF (M_s_l12Arrow_L1 b fun _ => some 16) (m + 1) k = if k < 6 then (if b = at' ([65, 66, 67, 68, 72, 70] : List Int) k then some (8 + k) else fixF (M_s_l12Arrow_L1 b fun _ => some 16) m (k + 1)) else some 16 := by
    intro m k h1 h2
    simp only [fixF, M_s_l12Arrow_L1, guardO, Bool.cond_decide]
    rw [W_eq (x := 8 + k) (by omega) (by omega), W_eq (x := k + 1) (by omega) (by omega)]
    by_cases h : k < 6
    · rw [if_pos (by simpa using h), if_pos h, if_pos ⟨h1, by simpa using h⟩]
    · rw [if_neg (by simpa using h), if_neg h]
  unfold M_s_l12Arrow
  simp only [joinO]
  rw [hm, st _ 0 (by omega) (by omega), st _ (0 + 1) (by omega) (by omega), st _ (0 + 1 + 1) (by omega) (by omega), st _ (0 + 1 + 1 + 1) (by omega) (by omega), st _ (0 + 1 + 1 + 1 + 1) (by omega) (by omega), st _ (0 + 1 + 1 + 1 + 1 + 1) (by omega) (by omega), st _ (0 + 1 + 1 + 1 + 1 + 1 + 1) (by omega) (by omega)]
  have e : ∀ (c : Prop) [Decidable c] (x y : Int), (if c then some x else some y) = some (if c then x else y) := fun c _ x y => by split <;> rfl
  simp [at', arr, e]

theorem arrow_i (b : Int) : M_i_arrow b = some (arr b, 0) := by
  obtain ⟨m, hm⟩ : ∃ m, FUEL = m + 1 + 1 + 1 + 1 + 1 + 1 + 1 := ⟨FUEL - 7, by rw [fuel_eq]⟩
  have st : ∀ (m : Nat) (k : Int), 0 ≤ k → k ≤ 6 → fixF (M_i_arrow_L1 b fun _ => some (16, 0)) (m + 1) k = if k < 6 then (if b = at' ([65, 66, 67, 68, 72, 70] : List Int) k then some (8 + k, 0) else fixF (M_i_arrow_L1 b fun _ => some (16, 0)) m (k + 1)) else some (16, 0) := by
    intro m k h1 h2
    simp only [fixF, M_i_arrow_L1, guardO, Bool.cond_decide]
    rw [W_eq (x := 8 + k) (by omega) (by omega), W_eq (x := k + 1) (by omega) (by omega)]
    by_cases h : k < 6
    · have e : ((at' ([65, 66, 67, 68, 72, 70] : List UInt8) k).toNat : Int) = at' ([65, 66, 67, 68, 72, 70] : List Int) k := by
        have : k = 0 ∨ k = 1 ∨ k = 2 ∨ k = 3 ∨ k = 4 ∨ k = 5 := by omega
        rcases this with rfl | rfl | rfl | rfl | rfl | rfl <;> rfl
      rw [if_pos h, if_pos h, if_pos ⟨h1, by simpa using h⟩, e]
      by_cases q : b = at' ([65, 66, 67, 68, 72, 70] : List Int) k
      · rw [if_pos q.symm, if_pos q]
      · rw [if_neg (fun h => q h.symm), if_neg q]
    · rw [if_neg h, if_neg h]
  unfold M_i_arrow
  simp only [joinO, M_i_bad, bindO]
  rw [hm, st _ 0 (by omega) (by omega), st _ (0 + 1) (by omega) (by omega), st _ (0 + 1 + 1) (by omega) (by omega), st _ (0 + 1 + 1 + 1) (by omega) (by omega), st _ (0 + 1 + 1 + 1 + 1) (by omega) (by omega), st _ (0 + 1 + 1 + 1 + 1 + 1) (by omega) (by omega), st _ (0 + 1 + 1 + 1 + 1 + 1 + 1) (by omega) (by omega)]
  have e : ∀ (c : Prop) [Decidable c] (x y : Int), (if c then some (x, (0 : Int)) else some (y, 0)) = some (if c then x else y, 0) := fun c _ x y => by split <;> rfl
  simp [at', arr, e]

def bk (b : Int) : Int × Int := if b < 0 ∨ 127 < b then (0, 0) else if b = 8 ∨ b = 127 then (5, 0) else if b = 9 then (6, 0) else if b = 10 ∨ b = 13 then (4, 0) else if b = 27 then (7, 0) else if b = 31 then (2, 95) else if 32 ≤ b then (1, b) else if 1 ≤ b ∧ b ≤ 26 then (2, b + 96) else (16, 0)

theorem byteKey_s (b : Int) : M_s_ByteKey b = some (bk b) := by
  unfold M_s_ByteKey bk
  simp only [Bool.cond_decide]
  by_cases h0 : b < 0 ∨ 127 < b
  · rw [if_pos h0]
    rcases h0 with h | h
    · simp [h]
    · have : ¬ b < 0 := by omega
      simp [h, this]
  · rw [if_neg h0]
    have a1 : ¬ b < 0 := by omega
    have a2 : ¬ 127 < b := by omega
    simp only [a1, a2, if_false, decide_false, cond_false]
    by_cases h8 : b = 8 ∨ b = 127
    · rw [if_pos h8]; rcases h8 with h | h <;> simp [h]
    · rw [if_neg h8]
      simp only [not_or] at h8
      simp only [h8.1, h8.2, if_false, decide_false, cond_false]
      by_cases h9 : b = 9
      · simp [h9]
      · rw [if_neg h9, if_neg h9]
        by_cases h10 : b = 10 ∨ b = 13
        · rw [if_pos h10]; rcases h10 with h | h <;> simp [h]
        · rw [if_neg h10]
          simp only [not_or] at h10
          simp only [h10.1, h10.2, if_false, decide_false, cond_false]
          rw [W_eq (by omega) (by omega)]
          by_cases h27 : b = 27
          · simp [h27]
          · by_cases h31 : b = 31
            · simp [h31]
            · by_cases h32 : 32 ≤ b
              · simp [h27, h31, h32]
              · by_cases h1 : 1 ≤ b <;> by_cases h26 : b ≤ 26 <;> simp [h27, h31, h32, h1, h26]

theorem byteKey_i (b : Int) : M_i_ByteKey b = some (bk b) := by
  unfold M_i_ByteKey bk
  simp only [in_eq, Bool.cond_decide, bindO]
  by_cases h0 : b < 0 ∨ 127 < b
  · rw [if_pos h0]
    have : ¬ (0 ≤ b ∧ b ≤ 127) := by omega
    rw [decide_eq_false this]; rfl
  · rw [if_neg h0]
    have : (0 ≤ b ∧ b ≤ 127) := by omega
    rw [decide_eq_true this]
    simp only [Bool.not_true, cond_false]
    by_cases h8 : b = 8 ∨ b = 127
    · rw [if_pos h8]; rcases h8 with h | h <;> simp [h]
    · rw [if_neg h8]
      simp only [not_or] at h8
      simp only [h8.1, h8.2, if_false, decide_false, cond_false]
      by_cases h9 : b = 9
      · simp [h9]
      · rw [if_neg h9, if_neg h9]
        by_cases h10 : b = 10 ∨ b = 13
        · rw [if_pos h10]; rcases h10 with h | h <;> simp [h]
        · rw [if_neg h10]
          simp only [not_or] at h10
          simp only [h10.1, h10.2, if_false, decide_false, cond_false]
          rw [W_eq (by omega) (by omega)]
          by_cases h27 : b = 27
          · simp [h27]
          · by_cases h31 : b = 31
            · simp [h31]
            · by_cases h32 : 32 ≤ b
              · have : ¬ b ≤ 26 := by omega
                simp [h27, h31, h32, this]
              · by_cases h1 : 1 ≤ b <;> by_cases h26 : b ≤ 26 <;> simp [h27, h31, h32, h1, h26]

abbrev Stp := (Int × List UInt8) × List (Int × Int)

def plain (p : List UInt8) (b : Int) : Stp :=
  if b < 128 then (if b = 27 then ((1, []), if 0 < p.length then [(16, 0)] else []) else ((0, []), (if 0 < p.length then [(16, 0)] else []) ++ [bk b]))
  else if (rd (p ++ [u8 b])).2 = ((p ++ [u8 b]).length : Int) then (if pr (rd (p ++ [u8 b])).1 then ((0, []), [(1, (rd (p ++ [u8 b])).1)]) else ((0, []), [(16, 0)]))
  else if rbS (p ++ [u8 b]) then ((0, p ++ [u8 b]), [])
  else if 0 < p.length ∧ rbS [u8 b] = true then ((0, [u8 b]), [(16, 0)])
  else ((0, []), [(16, 0)])

theorem plain_s (p : List UInt8) (b : Int) (hp : p.length ≤ 10000000) : M_s_l12Plain p b = some (plain p b) := by
  unfold M_s_l12Plain plain
  simp only [M_s_l12One, Bool.cond_decide, byteKey_s, printable_s, List.nil_append]
  by_cases h1 : b < 128
  · rw [if_pos h1, if_pos h1]
    by_cases h2 : 0 < p.length
    · have h2' : 0 < (p.length : Int) := by omega
      by_cases h3 : b = 27 <;> simp [h2, h2', h3, bindO, joinO, guardO]
    · have h2' : ¬ 0 < (p.length : Int) := by omega
      by_cases h3 : b = 27 <;> simp [h2, h2', h3, bindO, joinO, guardO]
  · rw [if_neg h1, if_neg h1]
    have g1 : ([] : List UInt8).length + p.length ≤ 536870912 := by simp; omega
    have g2 : p.length + ([u8 b] : List UInt8).length ≤ 536870912 := by simp; omega
    simp only [guardO, g1, g2, if_true]
    have rr := runeRead_s (b := p ++ [u8 b]) (a := 0) (by omega) (by simp; omega) (by simp)
    simp only [Int.toNat_zero, List.drop_zero] at rr
    have rb := runeBegin_s (p ++ [u8 b]) (by simp; omega)
    simp only [rr, bindO]
    by_cases h2 : (rd (p ++ [u8 b])).2 = ((p ++ [u8 b]).length : Int)
    · rw [if_pos h2, if_pos h2]
      cases pr (rd (p ++ [u8 b])).1 <;> rfl
    · rw [if_neg h2, if_neg h2, rb]
      simp only
      cases rbS (p ++ [u8 b])
      · have rb1 := runeBegin_s [u8 b] (by simp)
        by_cases h3 : 0 < p.length
        · have h3' : 0 < (p.length : Int) := by omega
          simp only [h3', decide_true, gl, cond_true, rb1, callO, bindO, h3, if_true, true_and, cond_false]
          cases rbS [u8 b] <;> simp
        · have h3' : ¬ 0 < (p.length : Int) := by omega
          simp [h3', callO, h3]
      · rfl

theorem plain_i (p : List UInt8) (b : Int) (hp : p.length ≤ 10000000) : M_i_decPlain p b = some (plain p b) := by
  unfold M_i_decPlain plain
  simp only [M_i_bad, M_i_copyBytes, Bool.cond_decide, byteKey_i, printable_i, List.nil_append]
  by_cases h1 : b < 128
  · rw [if_pos h1, if_pos h1]
    by_cases h2 : 0 < p.length
    · have h2' : 0 < (p.length : Int) := by omega
      by_cases h3 : b = 27 <;> simp [h2, h2', h3, bindO, joinO, guardO]
    · have h2' : ¬ 0 < (p.length : Int) := by omega
      by_cases h3 : b = 27 <;> simp [h2, h2', h3, bindO, joinO, guardO]
  · rw [if_neg h1, if_neg h1]
    have g1 : ([] : List UInt8).length + p.length ≤ 536870912 := by simp; omega
    have g2 : p.length + ([u8 b] : List UInt8).length ≤ 536870912 := by simp; omega
    simp only [guardO, g1, if_true, bindO, g2]
    have rr := runeRead_i (b := p ++ [u8 b]) (a := 0) (by omega) (by simp; omega) (by simp)
    simp only [Int.toNat_zero, List.drop_zero] at rr
    have rb := runeBegin_i (p ++ [u8 b]) (by simp; omega)
    simp only [rr]
    by_cases h2 : (rd (p ++ [u8 b])).2 = ((p ++ [u8 b]).length : Int)
    · rw [if_pos h2, if_pos h2]
      cases pr (rd (p ++ [u8 b])).1 <;> rfl
    · rw [if_neg h2, if_neg h2, rb]
      simp only
      cases rbS (p ++ [u8 b])
      · have rb1 := runeBegin_i [u8 b] (by simp)
        by_cases h3 : 0 < p.length
        · have h3' : 0 < (p.length : Int) := by omega
          simp only [h3', decide_true, rb1, callO, bindO, h3, if_true, true_and, cond_false]
          cases rbS [u8 b] <;> simp
        · have h3' : ¬ 0 < (p.length : Int) := by omega
          simp [h3', callO, h3]
      · rfl

def okB (b : Int) : Bool := decide ((48 ≤ b ∧ b ≤ 57) ∨ b = 59)

theorem l12ParamI (b : Int) : M_s_l12Param b = some (okB b) := by
  unfold M_s_l12Param okB
  congr 1
  by_cases h1 : 48 ≤ b <;> by_cases h2 : b ≤ 57 <;> simp [h1, h2]

def csi (p : List UInt8) (b : Int) : Stp :=
  if okB b then (if 8 ≤ p.length then ((4, []), [(16, 0)]) else ((2, p ++ [u8 b]), []))
  else if b = 27 then ((1, []), [(16, 0)])
  else if p.length = 0 then ((0, []), [(arr b, 0)])
  else if b = 126 then ((0, []), [((if p = [51] then 14 else if p = [49] ∨ p = [55] then 12 else if p = [52] ∨ p = [56] then 13 else 16), 0)])
  else ((0, []), [(16, 0)])

theorem csi_s (p : List UInt8) (b : Int) (hp : p.length ≤ 8) : M_s_l12Csi p b = some (csi p b) := by
  unfold M_s_l12Csi csi
  rw [bindO_of (l12ParamI b)]
  simp only [M_s_l12One, arrow_s, joinO, Bool.cond_decide]
  have g1 : ([] : List UInt8).length + p.length ≤ 536870912 := by simp; omega
  have g2 : p.length + ([u8 b] : List UInt8).length ≤ 536870912 := by simp; omega
  simp only [List.nil_append, guardO, g1, g2, if_true]
  cases okB b
  · simp only [cond_false, Bool.false_eq_true, if_false]
    by_cases h1 : b = 27
    · simp [h1, bindO]
    · by_cases h2 : p.length = 0
      · have h2' : (p.length : Int) = 0 := by omega
        simp [h1, h2, bindO]
      · have h2' : ¬ (p.length : Int) = 0 := by omega
        by_cases h3 : b = 126
        · rw [if_neg h1, if_neg h1, if_neg h2, if_neg h2', if_pos h3, if_pos h3]
          by_cases q1 : p = [51]
          · simp [q1, bindO]
          · by_cases q2 : p = [49]
            · simp [q2, bindO]
            · by_cases q3 : p = [55]
              · simp [q3, bindO]
              · by_cases q4 : p = [52]
                · simp [q4, bindO]
                · by_cases q5 : p = [56]
                  · simp [q5, bindO]
                  · simp [q1, q2, q3, q4, q5, bindO]
        · rw [if_neg h1, if_neg h1, if_neg h2, if_neg h2', if_neg h3, if_neg h3]; rfl
  · simp only [cond_true, if_true]
    by_cases h : p.length = 8
    · have h' : (p.length : Int) = 8 := by omega
      simp [h, bindO]
    · have h' : ¬ (p.length : Int) = 8 := by omega
      have h'' : ¬ 8 ≤ p.length := by omega
      simp [h', h'']

theorem csi_i (p : List UInt8) (b : Int) (hp : p.length ≤ 8) : M_i_decCsi p b = some (csi p b) := by
  unfold M_i_decCsi csi
  rw [bindO_of (isDigit_eq b)]
  simp only [M_i_bad, M_i_copyBytes, arrow_i, joinO]
  have g1 : ([] : List UInt8).length + p.length ≤ 536870912 := by simp; omega
  have g2 : p.length + ([u8 b] : List UInt8).length ≤ 536870912 := by simp; omega
  simp only [List.nil_append, guardO, g1, g2, if_true, bindO]
  have ho : (bif decide (48 ≤ b ∧ b ≤ 57) then true else decide (b = 59)) = okB b := by
    unfold okB
    by_cases h : 48 ≤ b ∧ b ≤ 57
    · rw [decide_eq_true h, decide_eq_true (Or.inl h)]; rfl
    · rw [decide_eq_false h]
      by_cases h' : b = 59
      · rw [decide_eq_true h', decide_eq_true (Or.inr h')]; rfl
      · rw [decide_eq_false h', decide_eq_false (fun q => q.elim h h')]; rfl
  rw [ho]
  simp only [Bool.cond_decide]
  cases okB b
  · simp only [cond_false, Bool.false_eq_true, if_false]
    by_cases h1 : b = 27
    · simp [h1]
    · by_cases h2 : p.length = 0
      · have h2' : (p.length : Int) = 0 := by omega
        simp [h1, h2]
      · have h2' : ¬ (p.length : Int) = 0 := by omega
        by_cases h3 : b = 126
        · rw [if_neg h1, if_neg h1, if_neg h2, if_neg h2', if_pos h3, if_pos h3]
          by_cases q1 : p = [51]
          · simp [q1]
          · by_cases q2 : p = [49]
            · simp [q2]
            · by_cases q3 : p = [55]
              · simp [q3]
              · by_cases q4 : p = [52]
                · simp [q4]
                · by_cases q5 : p = [56]
                  · simp [q5]
                  · simp [q1, q2, q3, q4, q5]
        · rw [if_neg h1, if_neg h1, if_neg h2, if_neg h2', if_neg h3, if_neg h3]
  · simp only [cond_true, if_true]
    by_cases h : 8 ≤ p.length
    · have h' : 8 ≤ (p.length : Int) := by omega
      simp [h, h']
    · have h' : ¬ 8 ≤ (p.length : Int) := by omega
      simp [h, h']

def esc (b : Int) : Stp :=
  if b = 91 then ((2, []), []) else if b = 79 then ((3, []), []) else if b = 27 then ((1, []), [(7, 0)])
  else if b = 8 ∨ b = 127 then ((0, []), [(15, 0)]) else if 33 ≤ b ∧ b ≤ 126 then ((0, []), [(3, b)])
  else ((plain [] b).1, (7, 0) :: (plain [] b).2)

theorem plain_len (p : List UInt8) (b : Int) : (plain p b).2.length ≤ 2 := by
  unfold plain
  repeat' (split <;> try simp)

theorem plain_len0 (b : Int) : (plain [] b).2.length ≤ 1 := by
  unfold plain
  repeat' (split <;> try simp)

theorem esc_s (b : Int) : M_s_l12Esc b = some (esc b) := by
  unfold M_s_l12Esc esc
  simp only [M_s_l12One, Bool.cond_decide]
  rw [bindO_of (plain_s [] b (by simp))]
  have hpl := plain_len0 b
  have g : ([(7, 0)] : List (Int × Int)).length + (plain [] b).2.length ≤ 536870912 := by simp; omega
  by_cases h1 : b = 91
  · simp [h1]
  · by_cases h2 : b = 79
    · simp [h2]
    · by_cases h3 : b = 27
      · simp [h3, bindO]
      · by_cases h4 : b = 8 ∨ b = 127
        · rcases h4 with h4 | h4 <;> simp [h4, bindO]
        · simp only [not_or] at h4
          by_cases h5 : 33 ≤ b <;> by_cases h6 : b ≤ 126 <;> simp [h1, h2, h3, h4.1, h4.2, h5, h6, bindO, guardO] <;> omega

theorem esc_i (b : Int) : M_i_decEsc b = some (esc b) := by
  unfold M_i_decEsc esc
  simp only [in_eq, Bool.cond_decide]
  rw [bindO_of (plain_i [] b (by simp))]
  have hpl := plain_len0 b
  by_cases h1 : b = 91
  · simp [h1]
  · by_cases h2 : b = 79
    · simp [h2]
    · by_cases h3 : b = 27
      · simp [h3, bindO]
      · by_cases h4 : b = 8 ∨ b = 127
        · rcases h4 with h4 | h4 <;> simp [h4, bindO]
        · simp only [not_or] at h4
          by_cases h5 : 33 ≤ b <;> by_cases h6 : b ≤ 126 <;> simp [h1, h2, h3, h4.1, h4.2, h5, h6, bindO, guardO] <;> omega

def stp (d : Int × List UInt8) (b : Int) : Stp :=
  if d.1 = 0 then plain d.2 b
  else if d.1 = 1 then esc b
  else if d.1 = 2 then csi d.2 b
  else if d.1 = 3 then (if b = 27 then ((1, []), [(16, 0)]) else ((0, []), [(arr b, 0)]))
  else if okB b then ((4, []), []) else if b = 27 then ((1, []), []) else ((0, []), [])

theorem rbS_len {p : List UInt8} (h : rbS p = true) : 1 ≤ p.length ∧ p.length ≤ 3 := by
  rcases p with _ | ⟨x, _ | ⟨y, _ | ⟨z, _ | ⟨v, t⟩⟩⟩⟩
  · cases h
  · simp
  · simp
  · simp
  · cases h

theorem okD_len {d : Int × List UInt8} (h : okD d = true) : d.2.length ≤ 8 := by
  unfold okD at h
  split at h
  · simp at h
    rcases h with h | h
    · simp [h]
    · have := rbS_len h; omega
  · split at h
    · simp at h; exact h.2
    · simp at h; simp [h.2]

theorem decByte_s (d : Int × List UInt8) (b : Int) (hl : d.2.length ≤ 100000000) : M_s_DecByte d b = some (if okD d = true ∧ 0 ≤ b ∧ b ≤ 255 then stp d b else ((0, []), [])) := by
  unfold M_s_DecByte stp
  rw [bindO_of (decOk_s d hl)]
  by_cases h : okD d = true ∧ 0 ≤ b ∧ b ≤ 255
  · have hl8 := okD_len h.1
    have n1 : ¬ b < 0 := by omega
    have n2 : ¬ 255 < b := by omega
    rw [if_pos h]
    simp only [h.1, n1, n2, decide_false, Bool.not_true, cond_false, Bool.cond_decide, l12ParamI, arrow_s, M_s_l12One]
    by_cases c0 : d.1 = 0
    · rw [if_pos c0, if_pos c0, plain_s _ _ (by omega)]; rfl
    · rw [if_neg c0, if_neg c0]
      by_cases c1 : d.1 = 1
      · rw [if_pos c1, if_pos c1, esc_s]; rfl
      · rw [if_neg c1, if_neg c1]
        by_cases c2 : d.1 = 2
        · rw [if_pos c2, if_pos c2, csi_s _ _ hl8]; rfl
        · rw [if_neg c2, if_neg c2]
          by_cases c3 : d.1 = 3
          · by_cases q : b = 27 <;> simp [c3, q, bindO]
          · rw [if_neg c3, if_neg c3]
            cases ho : okB b
            · by_cases q : b = 27 <;> simp [q, bindO, ho]
            · simp [bindO, ho]
  · rw [if_neg h]
    cases ho : okD d
    · simp
    · by_cases h1 : b < 0
      · simp [h1]
      · by_cases h2 : 255 < b
        · simp [h1, h2]
        · exact absurd ⟨ho, by omega, by omega⟩ h

theorem decode_i (d : Int × List UInt8) (b : Int) (hl8 : d.2.length ≤ 8) : M_i_decode d b = some (stp d b) := by
  unfold M_i_decode stp
  have ho' : (bif decide (48 ≤ b ∧ b ≤ 57) then true else decide (b = 59)) = okB b := by
    unfold okB
    by_cases h : 48 ≤ b ∧ b ≤ 57
    · rw [decide_eq_true h, decide_eq_true (Or.inl h)]; rfl
    · rw [decide_eq_false h]
      by_cases h' : b = 59
      · rw [decide_eq_true h', decide_eq_true (Or.inr h')]; rfl
      · rw [decide_eq_false h', decide_eq_false (fun q => q.elim h h')]; rfl
  simp only [isDigit_eq, arrow_i, M_i_bad]
  by_cases c0 : d.1 = 0
  · rw [decide_eq_true c0, if_pos c0, plain_i _ _ (by omega)]; rfl
  · rw [decide_eq_false c0, if_neg c0]
    by_cases c1 : d.1 = 1
    · rw [decide_eq_true c1, if_pos c1, esc_i]; rfl
    · rw [decide_eq_false c1, if_neg c1]
      by_cases c2 : d.1 = 2
      · rw [decide_eq_true c2, if_pos c2, csi_i _ _ hl8]; rfl
      · rw [decide_eq_false c2, if_neg c2]
        by_cases c3 : d.1 = 3
        · by_cases q : b = 27 <;> simp [c3, q, bindO]
        · rw [decide_eq_false c3, if_neg c3]
          simp only [cond_false, bindO]
          rw [ho']
          cases ho : okB b
          · by_cases q : b = 27 <;> simp [q]
          · simp

theorem stp_len (d : Int × List UInt8) (b : Int) : (stp d b).2.length ≤ 2 := by
  unfold stp
  split
  · exact plain_len _ _
  · split
    · unfold esc
      have := plain_len0 b
      repeat' (split <;> try simp)
      omega
    · split
      · unfold csi
        repeat' (split <;> try simp)
      · repeat' (split <;> try simp)

theorem okD_0 : okD (0, []) = true := rfl
theorem okD_1 : okD (1, []) = true := rfl
theorem okD_2 : okD (2, []) = true := rfl
theorem okD_3 : okD (3, []) = true := rfl
theorem okD_4 : okD (4, []) = true := rfl

theorem okP_u8 (b : Int) (h0 : 0 ≤ b) (h1 : b ≤ 255) : okP (u8 b) = okB b := by
  unfold okP okB
  rw [u8_nat h0 (by omega)]

theorem plain_ok (p : List UInt8) (b : Int) : okD (plain p b).1 = true := by
  have hr : ∀ q, rbS q = true → okD (0, q) = true := by
    intro q hq
    unfold okD
    simp [hq]
  unfold plain
  split
  · split <;> exact rfl
  · split
    · split <;> exact rfl
    · split
      · rename_i h; exact hr _ h
      · split
        · rename_i h; exact hr _ h.2
        · rfl

theorem stp_ok (d : Int × List UInt8) (b : Int) (hd : okD d = true) (h0 : 0 ≤ b) (h1 : b ≤ 255) : okD (stp d b).1 = true := by
  unfold stp
  split
  · exact plain_ok _ _
  · split
    · unfold esc
      split
      · rfl
      · split
        · rfl
        · split
          · rfl
          · split
            · rfl
            · split
              · rfl
              · exact plain_ok _ _
    · split
      · rename_i c0 c1 c2
        unfold csi
        split
        · rename_i hb
          split
          · rfl
          · rename_i h8
            unfold okD at hd
            rw [if_neg c0, if_pos c2] at hd
            simp only [Bool.and_eq_true] at hd
            show okD (2, d.2 ++ [u8 b]) = true
            unfold okD
            simp only [List.all_append, hd.1, List.all_cons, okP_u8 b h0 h1, hb, List.all_nil]
            simp; omega
        · repeat' (split <;> try exact rfl)
          all_goals rfl
      · repeat' (split <;> try exact rfl)
        all_goals rfl

theorem szByteS_ok (xs : List UInt8) (hx : xs.length ≤ maxLen) (left : Int) (h0 : 0 ≤ left) (h1 : left ≤ 1048576) :
    ∃ v, M_l_szByteS xs left = some v ∧ (v = -1 ∨ (0 ≤ v ∧ v ≤ left ∧ (xs.length : Int) ≤ left)) := by
  have hM' : maxLen ≤ 9223372036854775807 := by decide
  unfold M_l_szByteS
  rw [W_eq (by omega) (by omega)]
  by_cases h : left - (xs.length : Int) < 0
  · exact ⟨-1, by simp [h], .inl rfl⟩
  · exact ⟨left - xs.length, by simp [h], .inr (by omega)⟩

theorem toByteS_loop (xs : List UInt8) (hl : (xs.length : Int) ≤ 100000000) (j : List UInt8 → Option (List UInt8)) : ∀ (m : Nat) (ys : List UInt8) (k : Int), 0 ≤ k → k ≤ (xs.length : Int) → ys.length = xs.length → (∀ i : Nat, (i : Int) < k → ys[i]? = xs[i]?) → (xs.length : Int) - k < m → 0 < m →
    fixF (M_l_toByteS_L1 xs j) m (ys, k) = j xs := by
  intro m
  induction m with
  | zero => intro ys k _ _ _ _ h h'; omega
  | succ m ih =>
    intro ys k hk hk' hy hyx hm _
    simp only [fixF, M_l_toByteS_L1, guardO, Bool.cond_decide]
    by_cases h1 : k < (xs.length : Int)
    · have h2 : k < (ys.length : Int) := by omega
      simp only [h1, h2, hk, if_true, and_self]
      rw [W_eq (by omega) (by omega)]
      refine ih _ _ (by omega) (by omega) (by simpa using hy) (fun i hi => ?_) (by omega) (by omega)
      rw [List.getElem?_set]
      by_cases he : k.toNat = i
      · subst he
        rw [if_pos rfl, if_pos (by omega), at_some ⟨hk, h1⟩]
      · rw [if_neg he]
        exact hyx i (by omega)
    · simp only [h1, if_false]
      congr 1
      apply List.ext_getElem?
      intro i
      by_cases hi : (i : Int) < k
      · exact hyx i hi
      · rw [List.getElem?_eq_none (by omega), List.getElem?_eq_none (by omega)]

theorem toByteS_eq (xs : List UInt8) (hl : (xs.length : Int) ≤ 100000000) : M_l_toByteS xs = some xs := by
  unfold M_l_toByteS guardO
  rw [if_pos (by omega)]
  exact toByteS_loop xs hl _ FUEL _ 0 (by omega) (by omega) (by simp) (fun i hi => by omega) (by rw [fuel_eq]; omega) (by rw [fuel_eq]; omega)

theorem eqByteS_loop (xs : List UInt8) (hl : (xs.length : Int) ≤ 100000000) (j : Unit → Option Bool) : ∀ (m : Nat) (k : Int), 0 ≤ k → k ≤ (xs.length : Int) → (xs.length : Int) - k < m → 0 < m → fixF (M_l_eqByteS_L1 xs xs j) m k = j () := by
  intro m
  induction m with
  | zero => intro k _ _ h h'; omega
  | succ m ih =>
    intro k hk hk' hm _
    simp only [fixF, M_l_eqByteS_L1, guardO, Bool.cond_decide]
    by_cases h1 : k < (xs.length : Int)
    · simp only [h1, hk, if_true, and_self, decide_true, Bool.not_true, cond_false]
      rw [W_eq (by omega) (by omega)]
      exact ih _ (by omega) (by omega) (by omega) (by omega)
    · simp only [h1, if_false]

theorem eqByteS_self (xs : List UInt8) (hl : (xs.length : Int) ≤ 100000000) : M_l_eqByteS xs xs = some true := by
  unfold M_l_eqByteS
  simp only [decide_true, Bool.not_true, cond_false]
  exact eqByteS_loop xs hl _ FUEL 0 (by omega) (by omega) (by rw [fuel_eq]; omega) (by rw [fuel_eq]; omega)

def MkB (ys : List UInt8) (k : Int) : Prop := ∀ i : Nat, i < ys.length → ys[i]? = some (u8 (k + i))

theorem markByteS_loop (xs : List UInt8) (hl : (xs.length : Int) ≤ 100000000) (k0 : Int) (hk0 : 0 ≤ k0 ∧ k0 ≤ 1000000000) (j : List UInt8 × Int → Option (Int × List UInt8)) : ∀ (m : Nat) (ys : List UInt8) (i : Int), 0 ≤ i → i ≤ (xs.length : Int) → ys.length = xs.length → (∀ q : Nat, (q : Int) < i → ys[q]? = some (u8 (k0 + q))) → (xs.length : Int) - i < m → 0 < m →
    ∃ zs, fixF (M_l_markByteS_L1 xs j) m (ys, k0 + i, i) = j (zs, k0 + xs.length) ∧ zs.length = xs.length ∧ MkB zs k0 := by
  intro m
  induction m with
  | zero => intro ys k _ _ _ _ h h'; omega
  | succ m ih =>
    intro ys k hk hk' hy hyx hm _
    simp only [fixF, M_l_markByteS_L1, guardO, Bool.cond_decide]
    by_cases h1 : k < (xs.length : Int)
    · simp only [h1, hk, if_true, and_self]
      rw [W_eq (x := k + 1) (by omega) (by omega), W_eq (x := k0 + k + 1) (by omega) (by omega)]
      have e : k0 + k + 1 = k0 + (k + 1) := by omega
      rw [e]
      refine ih _ _ (by omega) (by omega) (by simpa using hy) (fun q hq => ?_) (by omega) (by omega)
      rw [List.getElem?_set]
      by_cases he : k.toNat = q
      · subst he
        rw [if_pos rfl, if_pos (by omega)]
        congr 2; omega
      · rw [if_neg he]
        exact hyx q (by omega)
    · simp only [h1, if_false]
      have : k = (xs.length : Int) := by omega
      subst this
      exact ⟨ys, rfl, hy, fun q hq => hyx q (by omega)⟩

theorem markByteS_ok (xs : List UInt8) (hl : (xs.length : Int) ≤ 100000000) (k : Int) (hk0 : 0 ≤ k ∧ k ≤ 1000000000) : ∃ ys, M_l_markByteS xs k = some (k + xs.length, ys) ∧ ys.length = xs.length ∧ MkB ys k := by
  obtain ⟨zs, h1, h2, h3⟩ := markByteS_loop xs hl k hk0 (fun x => some (x.2, x.1)) FUEL xs 0 (by omega) (by omega) rfl (fun q hq => by omega) (by rw [fuel_eq]; omega) (by rw [fuel_eq]; omega)
  refine ⟨zs, ?_, h2, h3⟩
  unfold M_l_markByteS joinO
  have e : k + 0 = k := by omega
  rw [e] at h1
  exact h1

theorem heldByteS_loop (xs : List UInt8) (hl : (xs.length : Int) ≤ 100000000) (k0 : Int) (hk0 : 0 ≤ k0 ∧ k0 ≤ 1000000000) (hM : MkB xs k0) (j : Int → Option Int) : ∀ (m : Nat) (i : Int), 0 ≤ i → i ≤ (xs.length : Int) → (xs.length : Int) - i < m → 0 < m →
    fixF (M_l_heldByteS_L1 xs j) m (k0 + i, i) = j (k0 + xs.length) := by
  intro m
  induction m with
  | zero => intro k _ _ h h'; omega
  | succ m ih =>
    intro k hk hk' hm _
    simp only [fixF, M_l_heldByteS_L1, guardO, Bool.cond_decide]
    by_cases h1 : k < (xs.length : Int)
    · have h2 := hM k.toNat (by omega)
      rw [at_some ⟨hk, h1⟩] at h2
      have h3 : at' xs k = u8 (k0 + k) := by
        injection h2 with h2
        rw [h2]; congr 1; omega
      simp only [h1, hk, if_true, and_self, h3, decide_true, Bool.not_true, cond_false]
      rw [W_eq (x := k + 1) (by omega) (by omega), W_eq (x := k0 + k + 1) (by omega) (by omega)]
      have e : k0 + k + 1 = k0 + (k + 1) := by omega
      rw [e]
      exact ih _ (by omega) (by omega) (by omega) (by omega)
    · simp only [h1, if_false]
      congr 1; omega

theorem heldByteS_ok (xs : List UInt8) (hl : (xs.length : Int) ≤ 100000000) (k : Int) (hk0 : 0 ≤ k ∧ k ≤ 1000000000) (hM : MkB xs k) : M_l_heldByteS xs k = some (k + xs.length) := by
  have h := heldByteS_loop xs hl k hk0 hM (fun x => some x) FUEL 0 (by omega) (by omega) (by rw [fuel_eq]; omega) (by rw [fuel_eq]; omega)
  unfold M_l_heldByteS joinO
  have e : k + 0 = k := by omega
  rw [e] at h
  exact h

theorem eqKey_self (x : Int × Int) : M_l_eqKey x x = some true := by simp [M_l_eqKey]

theorem eqKeyS_loop (xs : List (Int × Int)) (hl : (xs.length : Int) ≤ 100000000) (j : Unit → Option Bool) : ∀ (m : Nat) (k : Int), 0 ≤ k → k ≤ (xs.length : Int) → (xs.length : Int) - k < m → 0 < m → fixF (M_l_eqKeyS_L1 xs xs j) m k = j () := by
  intro m
  induction m with
  | zero => intro k _ _ h h'; omega
  | succ m ih =>
    intro k hk hk' hm _
    simp only [fixF, M_l_eqKeyS_L1, guardO, Bool.cond_decide, eqKey_self, bindO]
    by_cases h1 : k < (xs.length : Int)
    · simp only [h1, hk, if_true, and_self, decide_true, Bool.not_true, cond_false]
      rw [W_eq (by omega) (by omega)]
      exact ih _ (by omega) (by omega) (by omega) (by omega)
    · simp only [h1, if_false]

theorem eqKeyS_self (xs : List (Int × Int)) (hl : (xs.length : Int) ≤ 100000000) : M_l_eqKeyS xs xs = some true := by
  unfold M_l_eqKeyS
  simp only [decide_true, Bool.not_true, cond_false]
  exact eqKeyS_loop xs hl _ FUEL 0 (by omega) (by omega) (by rw [fuel_eq]; omega) (by rw [fuel_eq]; omega)

def MkK (ys : List (Int × Int)) (k : Int) : Prop := ∀ i : Nat, i < ys.length → ys[i]? = some (k + 2 * i, k + 2 * i + 1)

theorem markKeyS_loop (xs : List (Int × Int)) (hl : (xs.length : Int) ≤ 100000000) (k0 : Int) (hk0 : 0 ≤ k0 ∧ k0 ≤ 1000000000) (j : List (Int × Int) × Int → Option (Int × List (Int × Int))) : ∀ (m : Nat) (ys : List (Int × Int)) (i : Int), 0 ≤ i → i ≤ (xs.length : Int) → ys.length = xs.length → (∀ q : Nat, (q : Int) < i → ys[q]? = some (k0 + 2 * q, k0 + 2 * q + 1)) → (xs.length : Int) - i < m → 0 < m →
    ∃ zs, fixF (M_l_markKeyS_L1 xs j) m (ys, k0 + 2 * i, i) = j (zs, k0 + 2 * xs.length) ∧ zs.length = xs.length ∧ MkK zs k0 := by
  intro m
  induction m with
  | zero => intro ys k _ _ _ _ h h'; omega
  | succ m ih =>
    intro ys k hk hk' hy hyx hm _
    simp only [fixF, M_l_markKeyS_L1, guardO, Bool.cond_decide]
    by_cases h1 : k < (xs.length : Int)
    · simp only [h1, hk, if_true, and_self]
      rw [W_eq (x := k + 1) (by omega) (by omega), W_eq (x := k0 + 2 * k + 1) (by omega) (by omega), W_eq (x := k0 + 2 * k + 1 + 1) (by omega) (by omega)]
      have e : k0 + 2 * k + 1 + 1 = k0 + 2 * (k + 1) := by omega
      rw [e]
      refine ih _ _ (by omega) (by omega) (by simpa using hy) (fun q hq => ?_) (by omega) (by omega)
      have ea : (at' (List.set ys k.toNat (k0 + 2 * k, (at' ys k).2)) k).1 = k0 + 2 * k := by
        unfold at'
        rw [List.getD_eq_getElem?_getD, List.getElem?_set, if_pos rfl, if_pos (by omega)]
        rfl
      rw [List.getElem?_set]
      by_cases he : k.toNat = q
      · subst he
        rw [if_pos rfl, if_pos (by simp; omega), ea]
        congr 2 <;> omega
      · rw [if_neg he, List.getElem?_set, if_neg he]
        exact hyx q (by omega)
    · simp only [h1, if_false]
      have : k = (xs.length : Int) := by omega
      subst this
      exact ⟨ys, rfl, hy, fun q hq => hyx q (by omega)⟩

theorem markKeyS_ok (xs : List (Int × Int)) (hl : (xs.length : Int) ≤ 100000000) (k : Int) (hk0 : 0 ≤ k ∧ k ≤ 1000000000) : ∃ ys, M_l_markKeyS xs k = some (k + 2 * xs.length, ys) ∧ ys.length = xs.length ∧ MkK ys k := by
  obtain ⟨zs, h1, h2, h3⟩ := markKeyS_loop xs hl k hk0 (fun x => some (x.2, x.1)) FUEL xs 0 (by omega) (by omega) rfl (fun q hq => by omega) (by rw [fuel_eq]; omega) (by rw [fuel_eq]; omega)
  refine ⟨zs, ?_, h2, h3⟩
  unfold M_l_markKeyS joinO
  have e : k + 2 * 0 = k := by omega
  rw [e] at h1
  exact h1

theorem heldKeyS_loop (xs : List (Int × Int)) (hl : (xs.length : Int) ≤ 100000000) (k0 : Int) (hk0 : 0 ≤ k0 ∧ k0 ≤ 1000000000) (hM : MkK xs k0) (j : Int → Option Int) : ∀ (m : Nat) (i : Int), 0 ≤ i → i ≤ (xs.length : Int) → (xs.length : Int) - i < m → 0 < m →
    fixF (M_l_heldKeyS_L1 xs j) m (k0 + 2 * i, i) = j (k0 + 2 * xs.length) := by
  intro m
  induction m with
  | zero => intro k _ _ h h'; omega
  | succ m ih =>
    intro k hk hk' hm _
    simp only [fixF, M_l_heldKeyS_L1, guardO, Bool.cond_decide]
    by_cases h1 : k < (xs.length : Int)
    · have h2 := hM k.toNat (by omega)
      rw [at_some ⟨hk, h1⟩] at h2
      have h3 : at' xs k = (k0 + 2 * k, k0 + 2 * k + 1) := by
        injection h2 with h2
        rw [h2]; congr 1 <;> omega
      rw [W_eq (x := k0 + 2 * k + 1) (by omega) (by omega)]
      simp only [h1, hk, if_true, and_self, h3, decide_true, Bool.not_true, cond_false]
      rw [W_eq (x := k + 1) (by omega) (by omega), W_eq (x := k0 + 2 * k + 1 + 1) (by omega) (by omega)]
      have e : k0 + 2 * k + 1 + 1 = k0 + 2 * (k + 1) := by omega
      rw [e]
      exact ih _ (by omega) (by omega) (by omega) (by omega)
    · simp only [h1, if_false]
      congr 1; omega

theorem heldKeyS_ok (xs : List (Int × Int)) (hl : (xs.length : Int) ≤ 100000000) (k : Int) (hk0 : 0 ≤ k ∧ k ≤ 1000000000) (hM : MkK xs k) : M_l_heldKeyS xs k = some (k + 2 * xs.length) := by
  have h := heldKeyS_loop xs hl k hk0 hM (fun x => some x) FUEL 0 (by omega) (by omega) (by rw [fuel_eq]; omega) (by rw [fuel_eq]; omega)
  unfold M_l_heldKeyS joinO
  have e : k + 2 * 0 = k := by omega
  rw [e] at h
  exact h

def feed (bs : List UInt8) (d : Int × List UInt8) : Stp := match bs with
  | [] => (d, [])
  | b :: t => ((feed t (stp d b.toNat).1).1, (stp d b.toNat).2 ++ (feed t (stp d b.toNat).1).2)

theorem feed_ok (bs : List UInt8) : ∀ d, okD d = true → okD (feed bs d).1 = true ∧ (feed bs d).2.length ≤ 2 * bs.length := by
  induction bs with
  | nil => intro d h; exact ⟨h, by simp [feed]⟩
  | cons b t ih =>
    intro d h
    have hb := byteB b
    have := ih (stp d b.toNat).1 (stp_ok d b.toNat h (by omega) (by omega))
    have hl := stp_len d b.toNat
    simp only [feed, List.length_append, List.length_cons]
    exact ⟨this.1, by omega⟩

theorem feedLoop_s (bs : List UInt8) (hb : (bs.length : Int) ≤ 2000000) (j : (List (Int × Int)) × Int × List UInt8 → Option Stp) : ∀ (m : Nat) (k : Int) (d : Int × List UInt8) (ks : List (Int × Int)), okD d = true → 0 ≤ k → k ≤ (bs.length : Int) → (ks.length : Int) ≤ 2 * k → (bs.length : Int) - k < m →
    fixF (M_s_Decode_L1 bs j) m (ks, k, d.1, d.2) = j (ks ++ (feed (bs.drop k.toNat) d).2, (feed (bs.drop k.toNat) d).1.1, (feed (bs.drop k.toNat) d).1.2) := by
  intro m
  induction m with
  | zero => intro k d ks _ _ _ _ h; omega
  | succ m ih =>
    intro k d ks hd hk hk' hks hm
    simp only [fixF, M_s_Decode_L1, guardO, Bool.cond_decide]
    by_cases h1 : k < (bs.length : Int)
    · have hbb := byteB (at' bs k)
      have hl := okD_len hd
      have hl2 := stp_len d (at' bs k).toNat
      have hD : M_s_DecByte (d.1, d.2) ((at' bs k).toNat : Int) = some (stp d (at' bs k).toNat) := by
        have := decByte_s d ((at' bs k).toNat : Int) (by omega)
        rw [if_pos ⟨hd, by omega, by omega⟩] at this
        exact this
      rw [if_pos h1, if_pos ⟨hk, h1⟩, drop_at hk h1, bindO_of hD, W_eq (by omega) (by omega)]
      rw [if_pos (show ks.length + (stp d (at' bs k).toNat).2.length ≤ 536870912 by omega)]
      rw [ih (k + 1) _ _ (stp_ok d _ hd (by omega) (by omega)) (by omega) (by omega) (by simp only [List.length_append]; omega) (by omega)]
      simp only [feed, List.append_assoc]
    · rw [if_neg h1, List.drop_eq_nil_of_le (by omega)]
      simp [feed]

theorem feedLoop_i (bs : List UInt8) (hb : (bs.length : Int) ≤ 2000000) (j : (List (Int × Int)) × Int × List UInt8 → Option Stp) : ∀ (m : Nat) (k : Int) (d : Int × List UInt8) (ks : List (Int × Int)), okD d = true → 0 ≤ k → k ≤ (bs.length : Int) → (ks.length : Int) ≤ 2 * k → (bs.length : Int) - k < m →
    fixF (M_i_Decode_L1 bs j) m (ks, k, d.1, d.2) = j (ks ++ (feed (bs.drop k.toNat) d).2, (feed (bs.drop k.toNat) d).1.1, (feed (bs.drop k.toNat) d).1.2) := by
  intro m
  induction m with
  | zero => intro k d ks _ _ _ _ h; omega
  | succ m ih =>
    intro k d ks hd hk hk' hks hm
    simp only [fixF, M_i_Decode_L1, guardO, Bool.cond_decide]
    by_cases h1 : k < (bs.length : Int)
    · have hbb := byteB (at' bs k)
      have hl := okD_len hd
      have hl2 := stp_len d (at' bs k).toNat
      have hD : M_i_decode (d.1, d.2) ((at' bs k).toNat : Int) = some (stp d (at' bs k).toNat) := decode_i d _ hl
      rw [if_pos h1, if_pos ⟨hk, h1⟩, drop_at hk h1, bindO_of hD, W_eq (by omega) (by omega)]
      rw [if_pos (show ks.length + (stp d (at' bs k).toNat).2.length ≤ 536870912 by omega)]
      rw [ih (k + 1) _ _ (stp_ok d _ hd (by omega) (by omega)) (by omega) (by omega) (by simp only [List.length_append]; omega) (by omega)]
      simp only [feed, List.append_assoc]
    · rw [if_neg h1, List.drop_eq_nil_of_le (by omega)]
      simp [feed]

def feedD (d : Int × List UInt8) (bs : List UInt8) : Stp := if okD d then feed bs d else ((0, []), [])

theorem decode_s (d : Int × List UInt8) (bs : List UInt8) (hl : d.2.length ≤ 100000000) (hb : (bs.length : Int) ≤ 2000000) : M_s_Decode d bs = some (feedD d bs) := by
  unfold M_s_Decode feedD
  rw [bindO_of (decOk_s d hl)]
  cases ho : okD d
  · simp
  · have g1 : ([] : List UInt8).length + d.2.length ≤ 536870912 := by simp; omega
    simp only [Bool.not_true, cond_false, joinO, guardO, g1, if_true, List.nil_append]
    rw [feedLoop_s bs hb _ FUEL 0 d [] ho (by omega) (by omega) (by simp) (by rw [fuel_eq]; omega)]
    simp

theorem decodeAll_i (d : Int × List UInt8) (bs : List UInt8) (hl : d.2.length ≤ 100000000) (hb : (bs.length : Int) ≤ 2000000) : M_i_Decode d bs = some (feedD d bs) := by
  unfold M_i_Decode feedD
  rw [bindO_of (decOk_i d hl)]
  cases ho : okD d
  · simp
  · have g1 : ([] : List UInt8).length + d.2.length ≤ 536870912 := by simp; omega
    simp only [Bool.not_true, cond_false, joinO, guardO, g1, if_true, List.nil_append, M_i_copyBytes, bindO]
    rw [feedLoop_i bs hb _ FUEL 0 d [] ho (by omega) (by omega) (by simp) (by rw [fuel_eq]; omega)]
    simp

theorem law_Decode (d : Int × List UInt8) (bs : List UInt8) (wd : WfT (.pair (.int .i64) (.sl .byte)) d) (wb : WfT (.sl .byte) bs) : M_l_FnExactDecode d bs = some true := by
  obtain ⟨w1, w2⟩ := wd
  have w2' : d.2.length ≤ maxLen := w2.1
  unfold M_l_FnExactDecode
  by_cases hbs : 1048576 < (bs.length : Int)
  · simp [hbs]
  rw [decide_eq_false hbs, cond_false]
  obtain ⟨v, e, hv⟩ := szByteS_ok d.2 w2' 1048576 (by omega) (by omega)
  unfold M_l_szDec
  rw [bindO_of e]
  rcases hv with rfl | ⟨v0, v1, v2⟩
  · simp [bindO]
  · have nv : ¬ (v < 0) := by omega
    have hl : d.2.length ≤ 100000000 := by omega
    have et : M_l_toDec d = some d := by
      unfold M_l_toDec
      rw [bindO_of (toByteS_eq d.2 (by omega))]
    simp only [nv, decide_false, cond_false, bindO, et, toByteS_eq bs (by omega), decode_s d bs hl (by omega), decodeAll_i d bs hl (by omega)]
    have hr : ∃ r : Stp, r = feedD d bs := ⟨_, rfl⟩
    obtain ⟨r, hr⟩ := hr
    have hr1 : (r.2.length : Int) ≤ 2 * 1048576 ∧ r.1.2.length ≤ 8 := by
      rw [hr]; unfold feedD
      split
      · rename_i h
        have := feed_ok bs d h
        exact ⟨by omega, okD_len this.1⟩
      · simp
    rw [← hr]
    obtain ⟨r1, r2⟩ := r
    obtain ⟨q1, q2⟩ := hr1
    simp only at q1 q2
    have e0 : M_l_eqDec r1 r1 = some true := by
      unfold M_l_eqDec
      rw [bindO_of (eqByteS_self r1.2 (by omega))]; simp
    have e1 : M_l_eqDec d d = some true := by
      unfold M_l_eqDec
      rw [bindO_of (eqByteS_self d.2 (by omega))]; simp
    have e2 := eqKeyS_self r2 (by omega)
    have e3 := eqByteS_self bs (by omega)
    obtain ⟨ys, m1, m2, m3⟩ := markByteS_ok d.2 (by omega) 1 (by omega)
    have em : M_l_markDec d 1 = some (1 + (d.2.length : Int), ys) := by
      unfold M_l_markDec; rw [bindO_of m1]
    obtain ⟨us, u1, _, _⟩ := markByteS_ok bs (by omega) (1 + (d.2.length : Int)) (by omega)
    obtain ⟨zs, n1, n2, n3⟩ := markByteS_ok r1.2 (by omega) 1 (by omega)
    have en : M_l_markDec r1 1 = some (1 + (r1.2.length : Int), zs) := by
      unfold M_l_markDec; rw [bindO_of n1]
    obtain ⟨ks, k1, k2, k3⟩ := markKeyS_ok r2 (by omega) (1 + (r1.2.length : Int)) (by omega)
    have g3 : ¬ (1 + (r1.2.length : Int) < 0) := by omega
    have hh : M_l_heldDec (r1.1, zs) 1 = some (1 + (r1.2.length : Int)) := by
      unfold M_l_heldDec
      have := heldByteS_ok zs (by omega) 1 (by omega) n3
      rw [n2] at this
      rw [bindO_of this]; simp [g3]
    have hk := heldKeyS_ok ks (by omega) (1 + (r1.2.length : Int)) (by omega) k3
    rw [k2] at hk
    have g1 : ¬ (1 + (d.2.length : Int) + (bs.length : Int) < 0) := by omega
    have g2 : ¬ (1 + (r1.2.length : Int) + 2 * (r2.length : Int) < 0) := by omega
    simp [e0, e1, e2, e3, em, en, u1, k1, hh, hk, callO, bindO, g1, g2, g3]

end Go.Eng

namespace Go.Proofs.Ytgpolgjhiknefaa.fnExactDecode
open Go.ChangeShapes Go.WideShapes Go.ChangeAt Go.RowKit Go.Eng
open Go.ChangeMaps (open_string shut_string)

theorem own : ownKnob Try.prog.godebug = none := by kernel_rfl
theorem laidOut : laidOutB Try.prog = true := by kernel_rfl

set_option maxRecDepth 100000 in
theorem lifted (os : Os) (started : os.Started) (H : Type) (enc : TypeId × Value → H) :
    ReturnsInHanded {} Try.checked os 7 .any (Rows.fnExactDecodeSpec.pre6 enc Try.prog Try.f7 Rows.fnExactDecodeRow.domain false) (Rows.fnExactDecodeSpec.post enc Try.prog Try.f7 false true false false) := by
  refine returnsInHanded_of_change (C := Try.checked) own started (by kernel_rfl) Try.func7
    (ChangeSpec.witness6 (enc := enc) (C := Try.checked) false ⟨#[], #[.agg #[.int .i64 0, .slice none 0 0], .slice none 0 0], []⟩ 8 (by kernel_rfl) (by kernel_rfl) (by kernel_rfl) (by kernel_rfl)) ?_
  intro W base args ds gs before hval0 hW hcnd _
  have hval : ∀ (j : Nat) t v, Try.f7.params[j]? = some t → args[j]? = some v → Value.okWide Try.prog W .any base t v := hval0
  have hW' := hW
  obtain ⟨p, q, hA0, hV, rfl, hfz, hnd⟩ := hW
  have hA : DataW.TrodAll enc Try.prog W 0 (fun _ => true) true Try.f7.params.toList args.toList ds p := hA0
  rw [Try.params7] at hA hval
  obtain ⟨v0, vs0, d0, ds0, p0, q0, hargs, rfl, rfl, h0, r0⟩ := trodAll_cons hA
  obtain ⟨v1, vs1, d1, ds1, p1, q1, rfl, rfl, rfl, h1, r1⟩ := trodAll_cons r0
  obtain ⟨rfl, rfl, rfl⟩ := trodAll_nil r1
  obtain rfl : args = #[v0, v1] := by cases args; simp_all
  obtain ⟨rfl, rfl⟩ := trodVars_none hV
  have k0 := h0
  have lt0 : ∀ x ∈ p0, x.block < W.heap.size := by obtain ⟨m, hm⟩ := k0; exact DataW.trod_lt m _ _ _ hm
  obtain ⟨cs0, rfl, -⟩ := okWide_struct Try.underlying24 (hval 0 24 v0 rfl rfl)
  obtain ⟨m0, hm0⟩ := h0
  obtain ⟨x0, L0, rep0, wf0⟩ := trod_rep 16 m0 24 (.pair (.int .i64) (.sl .byte)) _ _ (by kernel_rfl) hm0
  refine rep_open rep0 ?_
  intro b0_0 c0_0 e0 f0
  have e0' : some [.int .i64 x0.1, .slice b0_0 x0.2.length c0_0] = some cs0.toList := e0
  obtain rfl : cs0 = #[.int .i64 x0.1, .slice b0_0 x0.2.length c0_0] := Array.ext' (Option.some.inj e0').symm
  have f0' : ∀ f ∈ ([⟨.byte, ⟨b0_0, x0.2.length, c0_0⟩, x0.2⟩] : List Fact), ∃ L, f.rep false W L := f0
  have k1 := h1
  have lt1 : ∀ x ∈ p1, x.block < W.heap.size := by obtain ⟨m, hm⟩ := k1; exact DataW.trod_lt m _ _ _ hm
  obtain ⟨sa1, sl1, sc1, rfl⟩ := okWide_slice Try.underlying22 (hval 1 22 v1 rfl rfl)
  obtain ⟨m1, hm1⟩ := h1
  obtain ⟨x1, L1, rep1, wf1⟩ := trod_rep 16 m1 22 (.sl .byte) _ _ (by kernel_rfl) hm1
  refine rep_open rep1 ?_
  intro b1_0 c1_0 e1 f1
  have e1' : some [.slice b1_0 x1.length c1_0] = some [Value.slice sa1 sl1 sc1] := e1
  obtain ⟨rfl, rfl, rfl⟩ : b1_0 = sa1 ∧ x1.length = sl1 ∧ c1_0 = sc1 := by cases e1'; exact ⟨rfl, rfl, rfl⟩
  have f1' : ∀ f ∈ ([⟨.byte, ⟨b1_0, x1.length, c1_0⟩, x1⟩] : List Fact), ∃ L, f.rep false W L := f1
  clear hA0 hval0
  simp only [List.append_nil] at hW'
  have walk : Calls Try.prog 7 #[.agg #[.int .i64 x0.1, .slice b0_0 x0.2.length c0_0], .slice b1_0 x1.length c1_0] W fun e w' => e = .returned (.bool true) ∧ Below W.heap.size W w' := by
    have h := ok_l_FnExactDecode x0 x1 b0_0 c0_0 _ rfl b1_0 c1_0 _ rfl true (law_Decode x0 x1 wf0 wf1)
    refine Calls.mono (h.calls W ?_) ?_
    · intro x hx
      rcases List.mem_cons.1 hx with rfl | hx
      · exact f0' _ List.mem_cons_self
      rcases List.mem_cons.1 hx with rfl | hx
      · exact f1' _ List.mem_cons_self
      cases hx
    · rintro e w' ⟨r, -, he, hk, -⟩
      exact ⟨he, hk.below⟩
  refine walk.mono fun e W' ⟨he, bel⟩ => ?_
  subst he
  exact ⟨_, rfl, _, _, _, [], _, [], hW', trodAll_mk1 (shut_bool Try.underlying4 _), (trodAll_cons_mk (Below.trod laidOut (by kernel_rfl) (of_decide_eq_true (by kernel_rfl)) k0 bel lt0) (trodAll_cons_mk (Below.trod laidOut (by kernel_rfl) (of_decide_eq_true (by kernel_rfl)) k1 bel lt1) trodAll_mk0)), rfl, bel.frame _, fun h => by cases h⟩

theorem over : Rows.fnExactDecodeRow.holds Try.pinned (OpenSpec.ofChange Rows.fnExactDecodeSpec) :=
  OpenClaim.holds_of_wide 7 Try.f7 rfl rfl rfl rfl rfl rfl rfl ⟨rfl, rfl, rfl, rfl, rfl⟩ rfl rfl rfl rfl rfl (by kernel_rfl) Try.func7 (by kernel_rfl)
    (of_decide_eq_true (by kernel_rfl)) (by unfold Func.isWrapper; first | (rw [if_pos (by decide +kernel)]; kernel_rfl) | (rw [if_neg (by decide +kernel)]; exact ⟨rfl, rfl⟩))
    (fun os started H enc _ => lifted os started H enc)

theorem proved : Rows.FnExactDecodeSaid := over
#print axioms proved
end Go.Proofs.Ytgpolgjhiknefaa.fnExactDecode
