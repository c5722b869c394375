/- FnKey: for every input the given law returns true and leaves its arguments as they were. No condition. -/
import Derived.Test.YtgpolgjhiknefaaDoorFnKeyWalkB
import Derived.Test.YtgpolgjhiknefaaDoorRows
import Derived.WalkKit
import Derived.ProofKit
import Derived.OpenShut
import Derived.ShutString
import Derived.Test.YtgpolgjhiknefaaDoorTie
import Derived.Test.YtgpolgjhiknefaaDoorCards
import Derived.Handy
import Derived.Lay
import Derived.SevenTiedAt
set_option linter.unusedVariables false
set_option linter.unusedSimpArgs false
namespace Go.Eng
open Go Go.Proofs

theorem bindO_of {α β : Type} {m : Option α} {k : α → Option β} {y : α} (h : m = some y) : bindO m k = k y := by rw [h]; rfl

def CurOk (c : List UInt8 × Int × Int) : Prop := 0 ≤ c.2.1 ∧ c.2.1 ≤ (c.1.length : Int) ∧ (c.1.length : Int) ≤ 1048576

theorem and_bound (x : BitVec 64) (n : Nat) (hn : n < 2 ^ 64) : (x &&& BitVec.ofInt 64 (n : Int)).toNat ≤ n := by
  rw [BitVec.toNat_and]
  have : (BitVec.ofInt 64 (n : Int)).toNat = n := by
    rw [BitVec.toNat_ofInt]
    have h : ((n : Int) % ((2 ^ 64 : Nat) : Int)) = n := Int.emod_eq_of_lt (by omega) (by exact_mod_cast hn)
    rw [h]; rfl
  rw [this]
  exact Nat.and_le_right

theorem and255 (x : BitVec 64) : 0 ≤ W (((x &&& BitVec.ofInt 64 255).toNat : Nat) : Int) ∧ W (((x &&& BitVec.ofInt 64 255).toNat : Nat) : Int) ≤ 255 := by
  have h := and_bound x 255 (by decide)
  have h' : (x &&& BitVec.ofInt 64 255).toNat ≤ 255 := h
  rw [W_eq (by omega) (by omega)]
  omega

theorem byte_ok (c : List UInt8 × Int × Int) (hc : CurOk c) : ∃ y i h, M_s_l01Byte c = some (y, (c.1, i, h)) ∧ CurOk (c.1, i, h) ∧ 0 ≤ y ∧ y ≤ 255 := by
  obtain ⟨h1, h2, h3⟩ := hc
  unfold M_s_l01Byte
  simp only [joinO, Bool.cond_decide, guardO]
  split
  · rw [if_pos ⟨h1, by assumption⟩]
    exact ⟨_, _, _, rfl, ⟨by simp only; rw [W_eq (by omega) (by omega)]; omega, by simp only; rw [W_eq (by omega) (by omega)]; omega, h3⟩, and255 _⟩
  · exact ⟨_, _, _, rfl, ⟨h1, h2, h3⟩, and255 _⟩

theorem below_ok (c : List UInt8 × Int × Int) (hc : CurOk c) (n : Int) : ∃ y i h, M_s_l01Below c n = some (y, (c.1, i, h)) ∧ CurOk (c.1, i, h) ∧ 0 ≤ y ∧ (0 < n → y < n) ∧ (n ≤ 0 → y = 0) := by
  unfold M_s_l01Below
  simp only [Bool.cond_decide]
  split
  · exact ⟨0, c.2.1, c.2.2, rfl, hc, by omega, by omega, by omega⟩
  · split
    · obtain ⟨y, i, h, e, ho, y0, y1⟩ := byte_ok _ hc
      have e' : M_s_l01Byte (c.1, c.2.1, c.2.2) = _ := e
      rw [bindO_of e']
      simp only [guardO]
      rw [if_pos (by omega)]
      exact ⟨_, i, h, rfl, ho, Int.tmod_nonneg _ y0, fun hn => Int.tmod_lt_of_pos _ hn, by omega⟩
    · obtain ⟨ya, ia, ha, e1, o1, a0, a1⟩ := byte_ok _ hc
      obtain ⟨yb, ib, hb, e2, o2, b0, b1⟩ := byte_ok _ o1
      obtain ⟨yc, ic, hcc, e3, o3, c0, c1⟩ := byte_ok _ o2
      obtain ⟨yd, id, hd, e4, o4, d0, d1⟩ := byte_ok _ o3
      have e1' : M_s_l01Byte (c.1, c.2.1, c.2.2) = _ := e1
      rw [bindO_of e1', bindO_of e2, bindO_of e3, bindO_of e4]
      simp only [guardO]
      rw [if_pos (by omega)]
      rw [W_eq (x := ya * 16777216) (by omega) (by omega), W_eq (x := yb * 65536) (by omega) (by omega), W_eq (x := yc * 256) (by omega) (by omega), W_eq (x := ya * 16777216 + yb * 65536) (by omega) (by omega),
        W_eq (x := ya * 16777216 + yb * 65536 + yc * 256) (by omega) (by omega), W_eq (x := ya * 16777216 + yb * 65536 + yc * 256 + yd) (by omega) (by omega)]
      exact ⟨_, id, hd, rfl, o4, Int.tmod_nonneg _ (by omega), fun hn => Int.tmod_lt_of_pos _ hn, by omega⟩

theorem new_loop (l : List UInt8) (hl : (l.length : Int) ≤ 1048576) : ∀ (m : Nat) (h k : Int), 0 ≤ k → k ≤ 4000 → 4000 - k < m → ∃ v, fixF (M_s_l01New_L1 l fun x15 => some (l, 0, x15)) m (h, k) = some (l, 0, v) := by
  intro m
  induction m with
  | zero => intro h k _ _ h'; omega
  | succ m ih =>
    intro h k hk hk' hm
    simp only [fixF, M_s_l01New_L1, guardO, Bool.cond_decide]
    by_cases h1 : k < (l.length : Int)
    · by_cases h2 : k < 4000
      · simp only [h1, h2, hk, if_true, and_self, decide_true]
        rw [W_eq (x := k + 1) (by omega) (by omega)]
        exact ih _ _ (by omega) (by omega) (by omega)
      · simp only [h1, h2, if_true, decide_false, Bool.false_eq_true, if_false]
        exact ⟨h, rfl⟩
    · simp only [h1, if_false, cond_false]
      exact ⟨h, rfl⟩

theorem new_ok (l : List UInt8) (hl : (l.length : Int) ≤ 1048576) : ∃ h, M_s_l01New l = some (l, 0, h) ∧ CurOk (l, 0, h) := by
  unfold M_s_l01New
  simp only [joinO]
  obtain ⟨v, hv⟩ := new_loop l hl FUEL (W (600128 + (l.length : Int))) 0 (by omega) (by omega) (by rw [fuel_eq]; omega)
  exact ⟨v, hv, ⟨by simp, by simp, hl⟩⟩

theorem drop_at {α : Type} [Inhabited α] {l : List α} {k : Int} (h0 : 0 ≤ k) (h : k < (l.length : Int)) : l.drop k.toNat = at' l k :: l.drop (k + 1).toNat := by
  have hlt : k.toNat < l.length := by omega
  rw [List.drop_eq_getElem_cons hlt]
  have : (k + 1).toNat = k.toNat + 1 := by omega
  rw [this]
  congr 1
  simp [at', List.getD_eq_getElem?_getD, hlt]

theorem sub_all {α : Type} {l : List α} {k : Int} (h0 : 0 ≤ k) : sub' l k (l.length : Int) = l.drop k.toNat := by
  unfold sub'
  rw [List.take_of_length_le]
  simp

/-- The runes that are drawn. -/
def Drawn (r : Int) : Prop := r ∈ ([97, 98, 99, 120, 49, 50, 32, 32, 46, 45, 95, 233, 4352, 20013, 128512, 47] : List Int) ∨ (33 ≤ r ∧ r ≤ 126) ∨ (160 ≤ r ∧ r ≤ 459) ∨ (19968 ≤ r ∧ r ≤ 21967)

theorem rune_ok (c : List UInt8 × Int × Int) (hc : CurOk c) : ∃ y i h, M_s_l02Rune c = some (y, (c.1, i, h)) ∧ CurOk (c.1, i, h) ∧ Drawn y := by
  unfold M_s_l02Rune
  obtain ⟨y, i, h, e, ho, y0, y1, _⟩ := below_ok _ hc 12
  have e' : M_s_l01Below (c.1, c.2.1, c.2.2) 12 = _ := e
  rw [bindO_of e']
  simp only [Bool.cond_decide]
  have two : ∀ n, 0 < n → ∃ y2 i2 h2, M_s_l01Below (c.1, i, h) n = some (y2, (c.1, i2, h2)) ∧ CurOk (c.1, i2, h2) ∧ 0 ≤ y2 ∧ y2 < n := by
    intro n hn
    obtain ⟨y2, i2, h2, e2, o2, p0, p1, _⟩ := below_ok _ ho n
    exact ⟨y2, i2, h2, e2, o2, p0, p1 hn⟩
  split
  · obtain ⟨y2, i2, h2, e2, o2, p0, p1⟩ := two 16 (by omega)
    rw [bindO_of e2]
    simp only [guardO]
    rw [if_pos ⟨p0, p1⟩]
    exact ⟨_, i2, h2, rfl, o2, .inl (List.mem_of_getElem? (at_some ⟨p0, p1⟩))⟩
  · split
    · obtain ⟨y2, i2, h2, e2, o2, p0, p1⟩ := two 94 (by omega)
      rw [bindO_of e2]
      simp only
      rw [W_eq (by omega) (by omega)]
      exact ⟨_, i2, h2, rfl, o2, .inr (.inl ⟨by omega, by omega⟩)⟩
    · split
      · obtain ⟨y2, i2, h2, e2, o2, p0, p1⟩ := two 300 (by omega)
        rw [bindO_of e2]
        simp only
        rw [W_eq (by omega) (by omega)]
        exact ⟨_, i2, h2, rfl, o2, .inr (.inr (.inl ⟨by omega, by omega⟩))⟩
      · obtain ⟨y2, i2, h2, e2, o2, p0, p1⟩ := two 2000 (by omega)
        rw [bindO_of e2]
        simp only
        rw [W_eq (by omega) (by omega)]
        exact ⟨_, i2, h2, rfl, o2, .inr (.inr (.inr ⟨by omega, by omega⟩))⟩

theorem in_eq (a b c : Int) : M_i_in a b c = some (decide (b ≤ a ∧ a ≤ c)) := by
  unfold M_i_in
  congr 1
  by_cases h1 : b ≤ a <;> by_cases h2 : a ≤ c <;> simp [h1, h2]

def pr (r : Int) : Bool := decide ((0 ≤ r ∧ r ≤ 1114111 ∧ (r < 55296 ∨ 57343 < r)) ∧ 32 ≤ r ∧ (r < 127 ∨ 159 < r))

theorem callO_of {α β : Type} {c : Prop} [Decidable c] {x d : α} {k : α → Option β} : callO c (some x) d k = k (if c then x else d) := by
  unfold callO
  split <;> simp [bindO, *]

theorem printable_i (r : Int) : M_i_Printable r = some (pr r) := by
  unfold M_i_Printable pr M_i_RuneOk
  simp only [in_eq, callO_of, bindO]
  congr 1
  by_cases h1 : 0 ≤ r ∧ r ≤ 1114111
  · by_cases h2 : 55296 ≤ r ∧ r ≤ 57343
    · have : ¬ (r < 55296 ∨ 57343 < r) := by omega
      simp [h1, h2, this]
    · have : (r < 55296 ∨ 57343 < r) := by omega
      by_cases h5 : 32 ≤ r
      · by_cases h6 : 127 ≤ r ∧ r ≤ 159
        · have : ¬ (r < 127 ∨ 159 < r) := by omega
          simp [h1, h2, h5, h6, this]
        · have : (r < 127 ∨ 159 < r) := by omega
          simp [h1, h2, h5, h6, *]
      · simp [h1, h2, h5]
  · have : ¬ (0 ≤ r ∧ r ≤ 1114111 ∧ (r < 55296 ∨ 57343 < r)) := fun h => h1 ⟨h.1, h.2.1⟩
    simp [h1, this]

def encL (r : Int) : List Int :=
  if ¬ (0 ≤ r ∧ r ≤ 1114111 ∧ (r < 55296 ∨ 57343 < r)) then [] else
  if r < 128 then [r] else if r < 2048 then [192 + r / 64, 128 + r % 64]
  else if r < 65536 then [224 + r / 4096, 128 + r / 64 % 64, 128 + r % 64]
  else [240 + r / 262144, 128 + r / 4096 % 64, 128 + r / 64 % 64, 128 + r % 64]

def enc (r : Int) : List UInt8 := (encL r).map u8

theorem td {a b : Int} (h : 0 ≤ a) : Int.tdiv a b = a / b := Int.tdiv_eq_ediv_of_nonneg h
theorem tm {a b : Int} (h : 0 ≤ a) : Int.tmod a b = a % b := Int.tmod_eq_emod_of_nonneg h

theorem u8_nat {x : Int} (h : 0 ≤ x) (h2 : x < 256) : ((u8 x).toNat : Int) = x := by
  simp [u8]; omega

theorem u8_self (x : UInt8) : u8 (x.toNat : Int) = x := by
  have : x.toNat < 256 := x.toNat_lt
  apply UInt8.toNat_inj.1
  have := u8_nat (x := (x.toNat : Int)) (by omega) (by omega)
  omega

theorem map_u8 : ∀ (l : List Int) (bs : List UInt8), (∀ x ∈ l, 0 ≤ x ∧ x < 256) → (l.map u8 = bs ↔ l = bs.map (fun b => (b.toNat : Int)))
  | [], [], _ => by simp
  | [], b :: bs, _ => by simp
  | x :: l, [], _ => by simp
  | x :: l, b :: bs, h => by
    have hx := h x (by simp)
    have ih := map_u8 l bs (fun y hy => h y (by simp [hy]))
    simp only [List.map_cons, List.cons.injEq, ih]
    constructor
    · rintro ⟨h1, h2⟩
      refine ⟨?_, h2⟩
      rw [← h1, u8_nat hx.1 hx.2]
    · rintro ⟨h1, h2⟩
      refine ⟨?_, h2⟩
      rw [h1, u8_self]

theorem encL_bytes (r : Int) : ∀ x ∈ encL r, 0 ≤ x ∧ x < 256 := by
  intro x
  unfold encL
  split
  · simp
  · split
    · simp; omega
    · split
      · simp; omega
      · split
        · simp; omega
        · simp; omega

theorem enc_iff (r : Int) (bs : List UInt8) : enc r = bs ↔ encL r = bs.map (fun b => (b.toNat : Int)) := map_u8 _ _ (encL_bytes r)

theorem enc_len (r : Int) : (enc r).length ≤ 4 := by
  unfold enc encL
  split
  · simp
  · split
    · simp
    · split
      · simp
      · split <;> simp

def r2 (x y : Int) : Int := (x - 192) * 64 + y - 128
def r3 (x y z : Int) : Int := ((x - 224) * 64 + y - 128) * 64 + z - 128
def r4 (x y z v : Int) : Int := (((x - 240) * 64 + y - 128) * 64 + z - 128) * 64 + v - 128

def E2 (x y : Int) : Prop := 194 ≤ x ∧ x ≤ 223 ∧ 128 ≤ y ∧ y ≤ 191
instance (x y : Int) : Decidable (E2 x y) := by unfold E2; infer_instance
def E3 (x y z : Int) : Prop := (224 ≤ x ∧ x ≤ 239 ∧ 128 ≤ y ∧ y ≤ 191 ∧ 128 ≤ z ∧ z ≤ 191) ∧ 2048 ≤ r3 x y z ∧ (r3 x y z < 55296 ∨ 57343 < r3 x y z)
instance (x y z : Int) : Decidable (E3 x y z) := by unfold E3; infer_instance
def E4 (x y z v : Int) : Prop := (240 ≤ x ∧ x ≤ 247 ∧ 128 ≤ y ∧ y ≤ 191 ∧ 128 ≤ z ∧ z ≤ 191 ∧ 128 ≤ v ∧ v ≤ 191) ∧ 65536 ≤ r4 x y z v ∧ r4 x y z v ≤ 1114111
instance (x y z v : Int) : Decidable (E4 x y z v) := by unfold E4; infer_instance

theorem encL2 {x y : Int} (h : 0 ≤ x ∧ x < 256 ∧ 0 ≤ y ∧ y < 256) : encL (r2 x y) = [x, y] ↔ E2 x y := by
  unfold E2
  generalize hr : r2 x y = r
  unfold r2 at hr
  unfold encL
  split
  · simp; omega
  · split
    · simp; omega
    · split
      · simp only [List.cons.injEq, and_true]; omega
      · split <;> (simp; try omega)

theorem encL3 {x y z : Int} (h : 0 ≤ x ∧ x < 256 ∧ 0 ≤ y ∧ y < 256 ∧ 0 ≤ z ∧ z < 256) : encL (r3 x y z) = [x, y, z] ↔ E3 x y z := by
  unfold E3
  generalize hr : r3 x y z = r
  unfold r3 at hr
  unfold encL
  split
  · simp; omega
  · split
    · simp; omega
    · split
      · simp; omega
      · split
        · simp only [List.cons.injEq, and_true]; omega
        · simp; omega

theorem encL4 {x y z v : Int} (h : 0 ≤ x ∧ x < 256 ∧ 0 ≤ y ∧ y < 256 ∧ 0 ≤ z ∧ z < 256 ∧ 0 ≤ v ∧ v < 256) : encL (r4 x y z v) = [x, y, z, v] ↔ E4 x y z v := by
  unfold E4
  generalize hr : r4 x y z v = r
  unfold r4 at hr
  unfold encL
  split
  · simp; omega
  · split
    · simp; omega
    · split
      · simp; omega
      · split
        · simp; omega
        · simp only [List.cons.injEq, and_true]; omega

def bi (s : List UInt8) (i : Int) : Int := ((at' s i).toNat : Int)

def rd (s : List UInt8) : Int × Int :=
  if s.length < 1 then (0, 0) else
  if bi s 0 < 128 then (bi s 0, 1) else
  if s.length < 2 then (0, 0) else
  if E2 (bi s 0) (bi s 1) then (r2 (bi s 0) (bi s 1), 2) else
  if s.length < 3 then (0, 0) else
  if E3 (bi s 0) (bi s 1) (bi s 2) then (r3 (bi s 0) (bi s 1) (bi s 2), 3) else
  if s.length < 4 then (0, 0) else
  if E4 (bi s 0) (bi s 1) (bi s 2) (bi s 3) then (r4 (bi s 0) (bi s 1) (bi s 2) (bi s 3), 4) else (0, 0)

theorem at_drop {α : Type} [Inhabited α] {b : List α} {a : Int} (h0 : 0 ≤ a) (i : Int) (hi : 0 ≤ i) : at' b (a + i) = at' (b.drop a.toNat) i := by
  unfold at'
  have : (a + i).toNat = a.toNat + i.toNat := by omega
  rw [this]
  simp [List.getD_eq_getElem?_getD, List.getElem?_drop]

theorem at_drop0 {α : Type} [Inhabited α] {b : List α} {a : Int} (h0 : 0 ≤ a) : at' b a = at' (b.drop a.toNat) 0 := by
  have := at_drop (b := b) h0 0 (by omega)
  simpa using this

theorem sub_drop {α : Type} {b : List α} {a n : Int} (h0 : 0 ≤ a) (hn : 0 ≤ n) : sub' b a (a + n) = (b.drop a.toNat).take n.toNat := by
  unfold sub'
  congr 1
  omega

theorem byteB (x : UInt8) : 0 ≤ (x.toNat : Int) ∧ (x.toNat : Int) < 256 := by
  have : x.toNat < 256 := x.toNat_lt
  omega

section
variable {b : List UInt8} {a : Int} (h0 : 0 ≤ a) (hl : (b.length : Int) ≤ 100000000)
include h0 hl

def vl (b : List UInt8) (a n : Int) : Int :=
  if n = 1 then (at' b a).toNat
  else if n = 2 then r2 (at' b a).toNat (at' b (a + 1)).toNat
  else if n = 3 then r3 (at' b a).toNat (at' b (a + 1)).toNat (at' b (a + 2)).toNat
  else r4 (at' b a).toNat (at' b (a + 1)).toNat (at' b (a + 2)).toNat (at' b (a + 3)).toNat

end

def rbS : List UInt8 → Bool
  | [x] => decide (E2 x.toNat 128 ∨ E2 x.toNat 191 ∨ E3 x.toNat 128 128 ∨ E3 x.toNat 191 191 ∨ E4 x.toNat 128 128 128 ∨ E4 x.toNat 191 191 191)
  | [x, y] => decide (E3 x.toNat y.toNat 128 ∨ E3 x.toNat y.toNat 191 ∨ E4 x.toNat y.toNat 128 128 ∨ E4 x.toNat y.toNat 191 191)
  | [x, y, z] => decide (E4 x.toNat y.toNat z.toNat 128 ∨ E4 x.toNat y.toNat z.toNat 191)
  | _ => false

theorem rbLoopI (p : List UInt8) (n : Int) (hn : n ≤ 4) (hp : p.length ≤ 3) (j : Int × Int → Option Bool) (m : Nat) (l h k : Int) (hk : 0 ≤ k) (hl : -1000000000 ≤ l ∧ l ≤ 100000000) (hh : -1000000000 ≤ h ∧ h ≤ 100000000) :
    fixF (M_i_RuneBegin_L1 p n j) (m + 1) (l, h, k) = if k < n then (if k < (p.length : Int) then (if 128 ≤ ((at' p k).toNat : Int) ∧ ((at' p k).toNat : Int) ≤ 191 then fixF (M_i_RuneBegin_L1 p n j) m (l * 64 + (at' p k).toNat - 128, h * 64 + (at' p k).toNat - 128, k + 1) else some false) else fixF (M_i_RuneBegin_L1 p n j) m (l * 64, h * 64 + 63, k + 1)) else j (l, h) := by
  simp only [fixF, M_i_RuneBegin_L1, Bool.cond_decide, joinO, guardO, in_eq, bindO]
  by_cases c1 : k < n
  · rw [if_pos c1, if_pos c1]
    have b0 := byteB (at' p k)
    rw [W_eq (x := k + 1) (by omega) (by omega), W_eq (x := l * 64) (by omega) (by omega), W_eq (x := h * 64) (by omega) (by omega), W_eq (x := l * 64 + _) (by omega) (by omega), W_eq (x := h * 64 + ((at' p k).toNat : Int)) (by omega) (by omega), W_eq (x := h * 64 + 63) (by omega) (by omega), W_eq (x := l * 64 + _ - 128) (by omega) (by omega), W_eq (x := h * 64 + ((at' p k).toNat : Int) - 128) (by omega) (by omega)]
    by_cases c2 : k < (p.length : Int)
    · rw [if_pos c2, if_pos c2]
      have g : (0 ≤ k ∧ k < (p.length : Int)) := ⟨hk, c2⟩
      rw [if_pos g, if_pos g, if_pos g]
      by_cases c3 : 128 ≤ ((at' p k).toNat : Int) ∧ ((at' p k).toNat : Int) ≤ 191
      · rw [if_pos c3, decide_eq_true c3]; rfl
      · rw [if_neg c3, decide_eq_false c3]; rfl
    · rw [if_neg c2, if_neg c2]
  · rw [if_neg c1, if_neg c1]

def fin1 (n l h : Int) : Bool := decide (max l n ≤ min h 1114111 ∧ ¬ (55296 ≤ max l n ∧ min h 1114111 ≤ 57343))

def rbI (p : List UInt8) : Bool :=
  decide (1 ≤ p.length ∧ p.length ≤ 3) &&
  (if 192 ≤ bi p 0 ∧ bi p 0 ≤ 223 then decide (p.length < 2) && fin1 128 ((bi p 0 - 192) * 64) ((bi p 0 - 192) * 64 + 63)
  else if 224 ≤ bi p 0 ∧ bi p 0 ≤ 239 then
    (if p.length < 2 then fin1 2048 ((bi p 0 - 224) * 64 * 64) (((bi p 0 - 224) * 64 + 63) * 64 + 63)
    else decide (p.length < 3) && decide (128 ≤ bi p 1 ∧ bi p 1 ≤ 191) && fin1 2048 (((bi p 0 - 224) * 64 + bi p 1 - 128) * 64) (((bi p 0 - 224) * 64 + bi p 1 - 128) * 64 + 63))
  else if 240 ≤ bi p 0 ∧ bi p 0 ≤ 247 then
    (if p.length < 2 then fin1 65536 ((bi p 0 - 240) * 64 * 64 * 64) ((((bi p 0 - 240) * 64 + 63) * 64 + 63) * 64 + 63)
    else decide (128 ≤ bi p 1 ∧ bi p 1 ≤ 191) && (if p.length < 3 then fin1 65536 (((bi p 0 - 240) * 64 + bi p 1 - 128) * 64 * 64) ((((bi p 0 - 240) * 64 + bi p 1 - 128) * 64 + 63) * 64 + 63)
    else decide (128 ≤ bi p 2 ∧ bi p 2 ≤ 191) && fin1 65536 ((((bi p 0 - 240) * 64 + bi p 1 - 128) * 64 + bi p 2 - 128) * 64) ((((bi p 0 - 240) * 64 + bi p 1 - 128) * 64 + bi p 2 - 128) * 64 + 63)))
  else false)

theorem rbS_I (p : List UInt8) : rbI p = rbS p := by
  rcases p with _ | ⟨x, _ | ⟨y, _ | ⟨z, _ | ⟨v, t⟩⟩⟩⟩
  · rfl
  · have hx := byteB x
    have b0 : bi [x] 0 = (x.toNat : Int) := rfl
    simp only [rbI, rbS, b0, List.length_cons, List.length_nil]
    generalize (x.toNat : Int) = X at *
    rw [Bool.eq_iff_iff]
    simp only [E2, E3, E4, r3, r4, fin1]
    split
    · simp; omega
    · split
      · simp; omega
      · split
        · simp; omega
        · simp; omega
  · have hx := byteB x
    have hy := byteB y
    have b0 : bi [x, y] 0 = (x.toNat : Int) := rfl
    have b1 : bi [x, y] 1 = (y.toNat : Int) := rfl
    simp only [rbI, rbS, b0, b1, List.length_cons, List.length_nil]
    generalize (x.toNat : Int) = X at *
    generalize (y.toNat : Int) = Y at *
    rw [Bool.eq_iff_iff]
    simp only [E2, E3, E4, r3, r4, fin1]
    split
    · simp; omega
    · split
      · simp; omega
      · split
        · simp; omega
        · simp; omega
  · have hx := byteB x
    have hy := byteB y
    have hz := byteB z
    have b0 : bi [x, y, z] 0 = (x.toNat : Int) := rfl
    have b1 : bi [x, y, z] 1 = (y.toNat : Int) := rfl
    have b2 : bi [x, y, z] 2 = (z.toNat : Int) := rfl
    simp only [rbI, rbS, b0, b1, b2, List.length_cons, List.length_nil]
    generalize (x.toNat : Int) = X at *
    generalize (y.toNat : Int) = Y at *
    generalize (z.toNat : Int) = Z at *
    rw [Bool.eq_iff_iff]
    simp only [E2, E3, E4, r3, r4, fin1]
    split
    · simp; try omega
    · split
      · simp; try omega
      · split
        · simp; omega
        · simp; omega
  · simp [rbI, rbS]

theorem rbI_eq (p : List UInt8) (hp : p.length ≤ 100000000) : M_i_RuneBegin p = some (rbI p) := by
  unfold M_i_RuneBegin
  simp only [in_eq, bindO, joinO, guardO, Bool.cond_decide]
  by_cases hl : 1 ≤ p.length ∧ p.length ≤ 3
  · have hl' : 1 ≤ (p.length : Int) ∧ (p.length : Int) ≤ 3 := by omega
    rw [decide_eq_true hl']
    simp only [Bool.not_true, cond_false]
    rw [if_pos (show 0 ≤ (0 : Int) ∧ 0 < (p.length : Int) by omega)]
    have b0 := byteB (at' p 0)
    have b1 := byteB (at' p 1)
    have b2 := byteB (at' p 2)
    rw [W_eq (x := ((at' p 0).toNat : Int) - 192) (by omega) (by omega), W_eq (x := ((at' p 0).toNat : Int) - 224) (by omega) (by omega), W_eq (x := ((at' p 0).toNat : Int) - 240) (by omega) (by omega)]
    have l2 : ∀ n : Int, (if n ≤ (p.length : Int) then some false else none : Option Bool) = if n ≤ (p.length : Int) then some false else none := fun _ => rfl
    obtain ⟨m, hm⟩ : ∃ m, FUEL = m + 1 + 1 + 1 + 1 := ⟨FUEL - 4, by rw [fuel_eq]⟩
    have t2 : at' ([0, 0, 128, 2048, 65536] : List Int) 2 = 128 := rfl
    have t3 : at' ([0, 0, 128, 2048, 65536] : List Int) 3 = 2048 := rfl
    have t4 : at' ([0, 0, 128, 2048, 65536] : List Int) 4 = 65536 := rfl
    have g2 : (0 ≤ (2 : Int) ∧ (2 : Int) < (([0, 0, 128, 2048, 65536] : List Int).length : Int)) = True := by simp
    have g3 : (0 ≤ (3 : Int) ∧ (3 : Int) < (([0, 0, 128, 2048, 65536] : List Int).length : Int)) = True := by simp
    have g4 : (0 ≤ (4 : Int) ∧ (4 : Int) < (([0, 0, 128, 2048, 65536] : List Int).length : Int)) = True := by simp
    have fin : ∀ n l h : Int, (bif decide (max l n ≤ min h 1114111) then (!(bif decide (55296 ≤ max l n) then decide (min h 1114111 ≤ 57343) else false)) else false) = fin1 n l h := by
      intro n l h
      unfold fin1
      by_cases c1 : max l n ≤ min h 1114111 <;> by_cases c2 : 55296 ≤ max l n <;> by_cases c3 : min h 1114111 ≤ 57343 <;> simp [c1, c2, c3]
    have fin' : ∀ n l h : Int, (if max l n ≤ min h 1114111 then (!(if 55296 ≤ max l n then decide (min h 1114111 ≤ 57343) else false)) else false) = fin1 n l h := by
      intro n l h
      unfold fin1
      by_cases c1 : max l n ≤ min h 1114111 <;> by_cases c2 : 55296 ≤ max l n <;> by_cases c3 : min h 1114111 ≤ 57343 <;> simp [c1, c2, c3]
    unfold rbI bi
    rw [decide_eq_true hl]
    have hp3 : p.length ≤ 3 := hl.2
    by_cases c1 : 192 ≤ ((at' p 0).toNat : Int) ∧ ((at' p 0).toNat : Int) ≤ 223
    · rw [if_pos c1, if_pos c1]
      simp only [g2, if_true, t2, fin']
      by_cases d1 : p.length < 2
      · have d0 : p.length = 1 := by omega
        rw [if_neg (by omega), hm, rbLoopI p 2 (by omega) hp3 _ _ _ _ _ (by omega) (by omega) (by omega), if_pos (by omega), if_neg (by omega), rbLoopI p 2 (by omega) hp3 _ _ _ _ _ (by omega) (by omega) (by omega), if_neg (by omega)]
        simp [d1]
      · rw [if_pos (by omega)]; simp [d1]
    · rw [if_neg c1, if_neg c1]
      by_cases c2 : 224 ≤ ((at' p 0).toNat : Int) ∧ ((at' p 0).toNat : Int) ≤ 239
      · rw [if_pos c2, if_pos c2]
        simp only [g3, if_true, t3, fin']
        by_cases d1 : p.length < 2
        · rw [if_neg (by omega), hm, rbLoopI p 3 (by omega) hp3 _ _ _ _ _ (by omega) (by omega) (by omega), if_pos (by omega), if_neg (by omega), rbLoopI p 3 (by omega) hp3 _ _ _ _ _ (by omega) (by omega) (by omega), if_pos (by omega), if_neg (by omega), rbLoopI p 3 (by omega) hp3 _ _ _ _ _ (by omega) (by omega) (by omega), if_neg (by omega)]
          simp [d1]
        · by_cases d2 : p.length < 3
          · rw [if_neg (by omega), hm, rbLoopI p 3 (by omega) hp3 _ _ _ _ _ (by omega) (by omega) (by omega), if_pos (by omega), if_pos (by omega)]
            by_cases e1 : 128 ≤ ((at' p 1).toNat : Int) ∧ ((at' p 1).toNat : Int) ≤ 191
            · have e2 : (1 : Int) + 1 = 2 := rfl
              rw [if_pos e1, e2, rbLoopI p 3 (by omega) hp3 _ _ _ _ _ (by omega) (by omega) (by omega), if_pos (by omega), if_neg (by omega), rbLoopI p 3 (by omega) hp3 _ _ _ _ _ (by omega) (by omega) (by omega), if_neg (by omega)]
              simp [d1, d2, e1]
            · rw [if_neg e1]; simp [d1, e1]
          · rw [if_pos (by omega)]; simp [d1, d2]
      · rw [if_neg c2, if_neg c2]
        by_cases c3 : 240 ≤ ((at' p 0).toNat : Int) ∧ ((at' p 0).toNat : Int) ≤ 247
        · rw [if_pos c3, if_pos c3]
          simp only [g4, if_true, t4, fin']
          have e2 : (1 : Int) + 1 = 2 := rfl
          have e3 : (2 : Int) + 1 = 3 := rfl
          rw [if_neg (by omega), hm, rbLoopI p 4 (by omega) hp3 _ _ _ _ _ (by omega) (by omega) (by omega), if_pos (by omega), e2]
          by_cases d1 : p.length < 2
          · rw [if_neg (by omega), rbLoopI p 4 (by omega) hp3 _ _ _ _ _ (by omega) (by omega) (by omega), if_pos (by omega), if_neg (by omega), rbLoopI p 4 (by omega) hp3 _ _ _ _ _ (by omega) (by omega) (by omega), if_pos (by omega), if_neg (by omega), rbLoopI p 4 (by omega) hp3 _ _ _ _ _ (by omega) (by omega) (by omega), if_neg (by omega)]
            simp [d1]
          · rw [if_pos (by omega)]
            by_cases e1 : 128 ≤ ((at' p 1).toNat : Int) ∧ ((at' p 1).toNat : Int) ≤ 191
            · rw [if_pos e1, rbLoopI p 4 (by omega) hp3 _ _ _ _ _ (by omega) (by omega) (by omega), if_pos (by omega), e3]
              by_cases d2 : p.length < 3
              · rw [if_neg (by omega), rbLoopI p 4 (by omega) hp3 _ _ _ _ _ (by omega) (by omega) (by omega), if_pos (by omega), if_neg (by omega), rbLoopI p 4 (by omega) hp3 _ _ _ _ _ (by omega) (by omega) (by omega), if_neg (by omega)]
                simp [d1, d2, e1]
              · rw [if_pos (by omega)]
                by_cases e4 : 128 ≤ ((at' p 2).toNat : Int) ∧ ((at' p 2).toNat : Int) ≤ 191
                · rw [if_pos e4, rbLoopI p 4 (by omega) hp3 _ _ _ _ _ (by omega) (by omega) (by omega), if_pos (by omega), if_neg (by omega), rbLoopI p 4 (by omega) hp3 _ _ _ _ _ (by omega) (by omega) (by omega), if_neg (by omega)]
                  simp [d1, d2, e1, e4]
                · rw [if_neg e4]; simp [d1, d2, e4]
            · rw [if_neg e1]; simp [d1, e1]
        · rw [if_neg c3, if_neg c3]
          rw [if_pos (by omega)]
          simp
  · have hl' : ¬ (1 ≤ (p.length : Int) ∧ (p.length : Int) ≤ 3) := by omega
    rw [decide_eq_false hl']
    unfold rbI
    rw [decide_eq_false hl]
    simp

theorem runeBegin_i (p : List UInt8) (hp : p.length ≤ 100000000) : M_i_RuneBegin p = some (rbS p) := by
  rw [rbI_eq p hp, rbS_I]

def okP (b : UInt8) : Bool := decide ((48 ≤ (b.toNat : Int) ∧ (b.toNat : Int) ≤ 57) ∨ (b.toNat : Int) = 59)

def okD (d : Int × List UInt8) : Bool :=
  if d.1 = 0 then decide (d.2.length = 0) || rbS d.2
  else if d.1 = 2 then d.2.all okP && decide (d.2.length ≤ 8)
  else decide (1 ≤ d.1 ∧ d.1 ≤ 4) && decide (d.2.length = 0)

theorem isDigit_eq (x : Int) : M_i_isDigit x = some (decide (48 ≤ x ∧ x ≤ 57)) := by
  unfold M_i_isDigit
  rw [bindO_of (in_eq _ _ _)]

theorem okLoop_i (d : Int × List UInt8) (hl : d.2.length ≤ 100000000) (j : Unit → Option Bool) : ∀ (m : Nat) (k : Int), 0 ≤ k → k ≤ (d.2.length : Int) → (d.2.length : Int) - k < m → fixF (M_i_DecOk_L1 d j) m k = if (d.2.drop k.toNat).all okP then j () else some false := by
  intro m
  induction m with
  | zero => intro k _ _ h; omega
  | succ m ih =>
    intro k hk hk' hm
    simp only [fixF, M_i_DecOk_L1, guardO, isDigit_eq, bindO]
    by_cases h1 : k < (d.2.length : Int)
    · rw [decide_eq_true h1, cond_true, if_pos ⟨hk, h1⟩, W_eq (by omega) (by omega), drop_at hk h1]
      by_cases h2 : okP (at' d.2 k)
      · rw [ih (k + 1) (by omega) (by omega) (by omega)]
        have h3 : (bif (!decide (48 ≤ ((at' d.2 k).toNat : Int) ∧ ((at' d.2 k).toNat : Int) ≤ 57)) then (!(decide (((at' d.2 k).toNat : Int) = (59 : Int)))) else false) = false := by
          unfold okP at h2
          have h2 := of_decide_eq_true h2
          by_cases c : 48 ≤ ((at' d.2 k).toNat : Int) ∧ ((at' d.2 k).toNat : Int) ≤ 57
          · rw [decide_eq_true c]; rfl
          · rw [decide_eq_false c, decide_eq_true (h2.resolve_left c)]; rfl
        rw [h3]
        simp [h2]
      · have h3 : (bif (!decide (48 ≤ ((at' d.2 k).toNat : Int) ∧ ((at' d.2 k).toNat : Int) ≤ 57)) then (!(decide (((at' d.2 k).toNat : Int) = (59 : Int)))) else false) = true := by
          have h2' : okP (at' d.2 k) = false := by simpa using h2
          unfold okP at h2'
          have h2' := of_decide_eq_false h2'
          rw [decide_eq_false (fun c => h2' (.inl c)), decide_eq_false (fun c => h2' (.inr c))]; rfl
        rw [h3]
        simp [h2]
    · rw [decide_eq_false h1, List.drop_eq_nil_of_le (by omega)]
      simp

theorem decOk_i (d : Int × List UInt8) (hl : d.2.length ≤ 100000000) : M_i_DecOk d = some (okD d) := by
  unfold M_i_DecOk okD
  simp only [joinO, Bool.cond_decide]
  by_cases h0 : d.1 = 0
  · rw [if_pos h0, if_pos h0, runeBegin_i _ hl]
    by_cases hz : (d.2.length : Int) = 0
    · have hz' : d.2.length = 0 := by omega
      simp [callO, hz, hz']
    · have hz' : ¬ d.2.length = 0 := by omega
      simp [callO, hz, hz', bindO]
  · rw [if_neg h0, if_neg h0]
    by_cases h2 : d.1 = 2
    · rw [if_pos h2, if_pos h2, okLoop_i d hl _ FUEL 0 (by omega) (by omega) (by rw [fuel_eq]; omega)]
      have hd : decide ((d.2.length : Int) ≤ 8) = decide (d.2.length ≤ 8) := by
        by_cases q : d.2.length ≤ 8
        · rw [decide_eq_true q, decide_eq_true (by omega)]
        · rw [decide_eq_false q, decide_eq_false (by omega)]
      rw [hd]
      simp only [Int.toNat_zero, List.drop_zero]
      cases hq : d.2.all okP <;> simp
    · rw [if_neg h2, if_neg h2]
      by_cases c1 : d.1 = 1
      · by_cases c4 : d.2.length = 0 <;> simp [c1, c4]
      · by_cases c2 : d.1 = 3
        · by_cases c4 : d.2.length = 0 <;> simp [c1, c2, c4]
        · by_cases c3 : d.1 = 4
          · by_cases c4 : d.2.length = 0 <;> simp [c1, c2, c3, c4]
          · have : ¬ (1 ≤ d.1 ∧ d.1 ≤ 4) := by omega
            simp [c1, c2, c3, this]

def kOk (k : Int × Int) : Bool :=
  if k.1 = 1 then pr k.2
  else if k.1 = 2 then decide (k.2 = 95 ∨ (97 ≤ k.2 ∧ k.2 ≤ 122 ∧ k.2 ≠ 104 ∧ k.2 ≠ 105 ∧ k.2 ≠ 106 ∧ k.2 ≠ 109))
  else if k.1 = 3 then decide (33 ≤ k.2 ∧ k.2 ≤ 126)
  else decide (4 ≤ k.1 ∧ k.1 ≤ 16 ∧ k.2 = 0)

theorem keyOk_i (k : Int × Int) : M_i_KeyOk k = some (kOk k) := by
  unfold M_i_KeyOk kOk
  simp only [printable_i, bindO, Bool.cond_decide, M_i_isLower, M_i_in, callO_of]
  by_cases h1 : k.1 = 1
  · rw [if_pos h1, if_pos h1]
  rw [if_neg h1, if_neg h1]
  by_cases h2 : k.1 = 2
  · rw [if_pos h2, if_pos h2]
    congr 1
    by_cases q1 : k.2 = 95
    · simp [q1]
    · by_cases q2 : 97 ≤ k.2 <;> by_cases q3 : k.2 ≤ 122 <;> simp [q1, q2, q3, Bool.and_assoc]
  rw [if_neg h2, if_neg h2]
  by_cases h3 : k.1 = 3
  · rw [if_pos h3, if_pos h3]
    congr 1
    by_cases q2 : 33 ≤ k.2 <;> simp [q2]
  rw [if_neg h3, if_neg h3]
  congr 1
  by_cases q2 : 4 ≤ k.1 <;> by_cases q3 : k.1 ≤ 16 <;> simp [q2, q3]

/-- The keys that are drawn. -/
def KeyD (k : Int × Int) : Prop := (k.1 = 1 ∧ Drawn k.2) ∨ (k.1 = 2 ∧ k.2 ∈ ([97, 101, 107, 117, 119, 121, 98, 102, 100, 116, 114, 112, 110, 95, 103, 99, 108, 122] : List Int)) ∨ (k.1 = 3 ∧ k.2 ∈ ([98, 102, 100, 121, 117, 108, 99, 91, 79, 51, 45, 126] : List Int)) ∨ (4 ≤ k.1 ∧ k.1 ≤ 16 ∧ k.2 = 0)

theorem key_ok (c : List UInt8 × Int × Int) (hc : CurOk c) : ∃ y i h, M_s_l11Key c = some (y, (c.1, i, h)) ∧ CurOk (c.1, i, h) ∧ KeyD y := by
  unfold M_s_l11Key
  obtain ⟨y, i, h, e, ho, y0, y1, _⟩ := below_ok _ hc 12
  have e' : M_s_l01Below (c.1, c.2.1, c.2.2) 12 = _ := e
  have e'' : M_s_l01Below c 12 = _ := e
  rw [bindO_of e'']
  simp only [Bool.cond_decide]
  have two : ∀ n, 0 < n → ∃ y2 i2 h2, M_s_l01Below (c.1, i, h) n = some (y2, (c.1, i2, h2)) ∧ CurOk (c.1, i2, h2) ∧ 0 ≤ y2 ∧ y2 < n := by
    intro n hn
    obtain ⟨y2, i2, h2, e2, o2, p0, p1, _⟩ := below_ok _ ho n
    exact ⟨y2, i2, h2, e2, o2, p0, p1 hn⟩
  split
  · obtain ⟨y2, i2, h2, e2, o2, p⟩ := rune_ok _ ho
    rw [bindO_of e2]
    exact ⟨_, i2, h2, rfl, o2, .inl ⟨rfl, p⟩⟩
  · split
    · obtain ⟨y2, i2, h2, e2, o2, p0, p1⟩ := two 18 (by omega)
      rw [bindO_of e2]
      simp only [guardO]
      rw [if_pos ⟨p0, p1⟩]
      exact ⟨_, i2, h2, rfl, o2, .inr (.inl ⟨rfl, List.mem_of_getElem? (at_some ⟨p0, p1⟩)⟩)⟩
    · split
      · obtain ⟨y2, i2, h2, e2, o2, p0, p1⟩ := two 12 (by omega)
        rw [bindO_of e2]
        simp only [guardO]
        rw [if_pos ⟨p0, p1⟩]
        exact ⟨_, i2, h2, rfl, o2, .inr (.inr (.inl ⟨rfl, List.mem_of_getElem? (at_some ⟨p0, p1⟩)⟩))⟩
      · obtain ⟨y2, i2, h2, e2, o2, p0, p1⟩ := two 13 (by omega)
        rw [bindO_of e2]
        simp only
        rw [W_eq (by omega) (by omega)]
        exact ⟨_, i2, h2, rfl, o2, .inr (.inr (.inr ⟨by simp only; omega, by simp only; omega, rfl⟩))⟩

theorem runeOk_i (r : Int) : M_i_RuneOk r = some (decide (0 ≤ r ∧ r ≤ 1114111 ∧ (r < 55296 ∨ 57343 < r))) := by
  unfold M_i_RuneOk
  simp only [in_eq, bindO, callO]
  by_cases h1 : 0 ≤ r ∧ r ≤ 1114111
  · rw [decide_eq_true h1]
    simp only [cond_true, if_true]
    by_cases h2 : r < 55296
    · have : ¬ (55296 ≤ r ∧ r ≤ 57343) := by omega
      simp [h1, h2, this]
    · by_cases h3 : 57343 < r
      · have : ¬ (55296 ≤ r ∧ r ≤ 57343) := by omega
        simp [h1, h2, h3, this]
      · have : (55296 ≤ r ∧ r ≤ 57343) := by omega
        simp [h1, h2, h3, this]
  · have : ¬ (0 ≤ r ∧ r ≤ 1114111 ∧ (r < 55296 ∨ 57343 < r)) := fun h => h1 ⟨h.1, h.2.1⟩
    rw [decide_eq_false h1, decide_eq_false this]
    simp

theorem runeBytes_i (r : Int) : M_i_RuneBytes r = some (enc r) := by
  unfold M_i_RuneBytes enc encL
  rw [bindO_of (runeOk_i r)]
  by_cases h : 0 ≤ r ∧ r ≤ 1114111 ∧ (r < 55296 ∨ 57343 < r)
  · have h0 := h.1
    have h00 : 0 ≤ r / 64 := by omega
    have h01 : 0 ≤ r / 4096 := by omega
    simp only [h, decide_true, Bool.not_true, cond_false, not_true, if_false, Bool.cond_decide, td h0, tm h0]
    rw [W_eq (x := r / 64) (by omega) (by omega), W_eq (x := r / 4096) (by omega) (by omega), W_eq (x := r / 262144) (by omega) (by omega), tm h00, tm h01]
    rw [W_eq (x := 192 + r / 64) (by omega) (by omega), W_eq (x := 128 + r % 64) (by omega) (by omega), W_eq (x := 224 + r / 4096) (by omega) (by omega), W_eq (x := 128 + r / 64 % 64) (by omega) (by omega), W_eq (x := 240 + r / 262144) (by omega) (by omega), W_eq (x := 128 + r / 4096 % 64) (by omega) (by omega)]
    split
    · rfl
    · split
      · rfl
      · split <;> rfl
  · simp only [h, decide_false, Bool.not_false, cond_true, not_false_eq_true, if_true, List.map_nil]

section
variable {b : List UInt8} {a : Int} (h0 : 0 ≤ a) (hl : (b.length : Int) ≤ 100000000)
include h0 hl

theorem riInner (n : Int) (hn : 2 ≤ n) (hn4 : n ≤ 4) (han : a + n ≤ (b.length : Int)) (j : Int → Option (Int × Int)) (m : Nat) : ∀ (r i : Int), 0 ≤ i → i ≤ n - 1 → (-100000000 ≤ r ∧ r ≤ 100000000) →
    fixF (M_i_RuneRead_L1 b a n j) (m + 1) (r, i) = if i < n - 1 then fixF (M_i_RuneRead_L1 b a n j) m (r * 64 + ((at' b (a + 1 + i)).toNat : Int) - 128, i + 1) else j r := by
  intro r i hi hin hr
  have e1 : W (a + 1) = a + 1 := W_eq (by omega) (by omega)
  have e2 : W (a + n) = a + n := W_eq (by omega) (by omega)
  have hsl : ((sub' b (a + 1) (a + n)).length : Int) = n - 1 := by rw [sub_len (by omega)]; omega
  simp only [fixF, M_i_RuneRead_L1, guardO, Bool.cond_decide, e1, e2, hsl]
  by_cases h : i < n - 1
  · have ea : at' (sub' b (a + 1) (a + n)) i = at' b (a + 1 + i) := by
      unfold at' sub'
      have q : (a + 1 + i).toNat = (a + 1).toNat + i.toNat := by omega
      rw [q]
      simp only [List.getD_eq_getElem?_getD, List.getElem?_take, List.getElem?_drop]
      rw [if_pos (by omega)]
    have hb := byteB (at' b (a + 1 + i))
    rw [if_pos h, if_pos h, if_pos ⟨hi, h⟩, ea]
    rw [W_eq (x := r * 64) (by omega) (by omega), W_eq (x := r * 64 + _) (by omega) (by omega), W_eq (x := r * 64 + _ - 128) (by omega) (by omega), W_eq (x := i + 1) (by omega) (by omega)]
  · rw [if_neg h, if_neg h]

theorem riTail (n v0 : Int) (hn : 2 ≤ n) (hn4 : n ≤ 4) (han : a + n ≤ (b.length : Int)) (hv : v0 = (at' b a).toNat - (if n = 2 then 192 else if n = 3 then 224 else 240)) (j : Int → Option (Int × Int)) :
    fixF (M_i_RuneRead_L1 b a n j) FUEL (v0, 0) = j (vl b a n) := by
  obtain ⟨m, hm⟩ : ∃ m, FUEL = m + 1 + 1 + 1 + 1 := ⟨FUEL - 4, by rw [fuel_eq]⟩
  rw [hm]
  subst hv
  have b0 := byteB (at' b a)
  have b1 := byteB (at' b (a + 1))
  have b2 := byteB (at' b (a + 2))
  have b3 := byteB (at' b (a + 3))
  have b4 := byteB (at' b (a + 1 + 0))
  have b5 := byteB (at' b (a + 1 + 1))
  have b6 := byteB (at' b (a + 1 + 2))
  have q0 : a + 1 + 0 = a + 1 := by omega
  have q1 : a + 1 + 1 = a + 2 := by omega
  have q2 : a + 1 + 2 = a + 3 := by omega
  have z1 : (0 : Int) + 1 = 1 := rfl
  have z2 : (1 : Int) + 1 = 2 := rfl
  have z3 : (2 : Int) + 1 = 3 := rfl
  have hc : n = 2 ∨ n = 3 ∨ n = 4 := by omega
  rcases hc with rfl | rfl | rfl
  · rw [if_pos rfl, riInner h0 hl _ hn hn4 han _ _ _ _ (by omega) (by omega) (by omega), if_pos (by omega), z1, riInner h0 hl _ hn hn4 han _ _ _ _ (by omega) (by omega) (by omega), if_neg (by omega), q0]
    rfl
  · rw [if_neg (by omega), if_pos rfl, riInner h0 hl _ hn hn4 han _ _ _ _ (by omega) (by omega) (by omega), if_pos (by omega), z1, riInner h0 hl _ hn hn4 han _ _ _ _ (by omega) (by omega) (by omega), if_pos (by omega), z2, riInner h0 hl _ hn hn4 han _ _ _ _ (by omega) (by omega) (by omega), if_neg (by omega), q0, q1]
    rfl
  · rw [if_neg (by omega), if_neg (by omega), riInner h0 hl _ hn hn4 han _ _ _ _ (by omega) (by omega) (by omega), if_pos (by omega), z1, riInner h0 hl _ hn hn4 han _ _ _ _ (by omega) (by omega) (by omega), if_pos (by omega), z2, riInner h0 hl _ hn hn4 han _ _ _ _ (by omega) (by omega) (by omega), if_pos (by omega), z3, riInner h0 hl _ hn hn4 han _ _ _ _ (by omega) (by omega) (by omega), if_neg (by omega), q0, q1, q2]
    rfl

theorem riMid (n v0 : Int) (hn : 2 ≤ n) (hn4 : n ≤ 4) (ha : a < (b.length : Int)) (hv : v0 = (at' b a).toNat - (if n = 2 then 192 else if n = 3 then 224 else 240)) :
    (bif (decide ((W ((b.length : Int) - n)) < a)) then
      some ((0 : Int), (0 : Int))
      else
      (guardO (0 ≤ (W (a + 1)) ∧ (W (a + 1)) ≤ (W (a + n)) ∧ (W (a + n)) ≤ (b.length : Int)) <|
      (joinO (fun (x38 : Int) =>
      (bindO (M_i_RuneBytes x38) fun (y42 : List UInt8) =>
      (guardO (0 ≤ a ∧ a ≤ (W (a + n)) ∧ (W (a + n)) ≤ (b.length : Int)) <|
      (bif (!(decide (y42 = (sub' b a (W (a + n)))))) then
      some (0, 0)
      else
      some (x38, n))))) fun j39 =>
      (fixF (M_i_RuneRead_L1 b a n j39) FUEL (v0, 0))))) = some (if a + n ≤ (b.length : Int) ∧ enc (vl b a n) = sub' b a (a + n) then (vl b a n, n) else (0, 0)) := by
  rw [W_eq (x := (b.length : Int) - n) (by omega) (by omega), W_eq (x := a + 1) (by omega) (by omega), W_eq (x := a + n) (by omega) (by omega)]
  by_cases c : (b.length : Int) - n < a
  · rw [decide_eq_true c, if_neg (by omega)]; rfl
  · rw [decide_eq_false c, cond_false]
    simp only [guardO, joinO, runeBytes_i, bindO]
    rw [if_pos (by omega), riTail h0 hl n v0 hn hn4 (by omega) hv, if_pos (by omega)]
    by_cases h : enc (vl b a n) = sub' b a (a + n)
    · rw [if_pos ⟨by omega, h⟩]; simp [h]
    · rw [if_neg (fun q => h q.2)]; simp [h]

theorem runeRead_i (ha : a < (b.length : Int)) : M_i_RuneRead b a = some (rd (b.drop a.toNat)) := by
  unfold M_i_RuneRead
  have e0 : decide (a < 0) = false := by simp; omega
  have e1 : decide ((b.length : Int) ≤ a) = false := by simp; omega
  have b0 := byteB (at' b a)
  rw [e0, e1]
  simp only [cond_false, in_eq]
  have g : 0 ≤ a ∧ a < (b.length : Int) := ⟨h0, ha⟩
  rw [show ∀ k : Option (Int × Int), guardO (0 ≤ a ∧ a < (b.length : Int)) k = k from fun k => if_pos g]
  have j1 : ∀ (f : Int × Int → Option (Int × Int)) (B : (Int × Int → Option (Int × Int)) → Option (Int × Int)), joinO f B = B f := fun _ _ => rfl
  rw [j1]
  rw [W_eq (x := ((at' b a).toNat : Int) - 192) (by omega) (by omega), W_eq (x := ((at' b a).toNat : Int) - 224) (by omega) (by omega), W_eq (x := ((at' b a).toNat : Int) - 240) (by omega) (by omega)]
  have bS : ∀ (x : Bool) (k : Bool → Option (Int × Int)), bindO (some x) k = k x := fun _ _ => rfl
  simp only [bS]
  have m2 := fun v => riMid h0 hl 2 v (by omega) (by omega) ha
  have m3 := fun v => riMid h0 hl 3 v (by omega) (by omega) ha
  have m4 := fun v => riMid h0 hl 4 v (by omega) (by omega) ha
  have hL : (b.length : Int) = a + ((b.drop a.toNat).length : Int) := by simp; omega
  have s2 := sub_drop (b := b) (n := 2) h0 (by omega)
  have s3 := sub_drop (b := b) (n := 3) h0 (by omega)
  have s4 := sub_drop (b := b) (n := 4) h0 (by omega)
  have t0 := at_drop0 (b := b) h0
  have t1 := at_drop (b := b) h0 1 (by omega)
  have t2 := at_drop (b := b) h0 2 (by omega)
  have t3 := at_drop (b := b) h0 3 (by omega)
  have v2 : vl b a 2 = r2 (at' b a).toNat (at' b (a + 1)).toNat := rfl
  have v3 : vl b a 3 = r3 (at' b a).toNat (at' b (a + 1)).toNat (at' b (a + 2)).toNat := rfl
  have v4 : vl b a 4 = r4 (at' b a).toNat (at' b (a + 1)).toNat (at' b (a + 2)).toNat (at' b (a + 3)).toNat := rfl
  have hne : 0 < (b.drop a.toNat).length := by simp; omega
  by_cases c0 : ((at' b a).toNat : Int) < 128
  · rw [decide_eq_true c0, cond_true]
    rw [t0] at c0 ⊢
    unfold rd bi
    rw [if_neg (show ¬ (List.drop a.toNat b).length < 1 by omega), if_pos c0]
  · rw [decide_eq_false c0, cond_false]
    by_cases c2 : 192 ≤ ((at' b a).toNat : Int) ∧ ((at' b a).toNat : Int) ≤ 223
    · rw [decide_eq_true c2, cond_true, m2 _ (by simp), s2, v2, t1]
      rw [t0] at c0 c2 ⊢
      rw [hL]
      generalize b.drop a.toNat = s at *
      congr 1
      unfold rd bi
      rw [if_neg (show ¬ s.length < 1 by omega), if_neg c0]
      by_cases l2 : s.length < 2
      · rw [if_pos l2, if_neg (show ¬ (a + 2 ≤ a + (s.length : Int) ∧ _) from fun h => by omega)]
      · rw [if_neg l2]
        obtain ⟨x, y, t, rfl⟩ : ∃ x y t, s = x :: y :: t := by
          rcases s with _ | ⟨x, _ | ⟨y, t⟩⟩
          · simp at l2
          · simp at l2
          · exact ⟨x, y, t, rfl⟩
        have e := encL2 (x := x.toNat) (y := y.toNat) (by have := byteB x; have := byteB y; omega)
        have a0 : at' (x :: y :: t) 0 = x := rfl
        have a1 : at' (x :: y :: t) 1 = y := rfl
        have tk : (x :: y :: t).take (Int.toNat 2) = [x, y] := rfl
        rw [a0] at c0 c2
        rw [tk, a0, a1]
        have ee : (a + 2 ≤ a + ((x :: y :: t).length : Int) ∧ enc (r2 x.toNat y.toNat) = [x, y]) ↔ E2 x.toNat y.toNat := by
          rw [enc_iff]
          simp only [List.map_cons, List.map_nil, e]
          exact ⟨fun h => h.2, fun h => ⟨by simp; omega, h⟩⟩
        by_cases q : E2 x.toNat y.toNat
        · rw [if_pos (ee.2 q), if_pos q]
        · rw [if_neg (fun h => q (ee.1 h)), if_neg q]
          have n3 : ∀ u v, ¬ E3 (x.toNat : Int) u v := fun u v h => by unfold E3 at h; omega
          have n4 : ∀ u v w, ¬ E4 (x.toNat : Int) u v w := fun u v w h => by unfold E4 at h; omega
          simp only [n3, n4, if_false, ite_self]
    · rw [decide_eq_false c2, cond_false]
      by_cases c3 : 224 ≤ ((at' b a).toNat : Int) ∧ ((at' b a).toNat : Int) ≤ 239
      · rw [decide_eq_true c3, cond_true, m3 _ (by simp), s3, v3, t1, t2]
        rw [t0] at c0 c2 c3 ⊢
        rw [hL]
        generalize b.drop a.toNat = s at *
        congr 1
        unfold rd bi
        have n2 : ∀ u, ¬ E2 ((at' s 0).toNat : Int) u := fun u h => by unfold E2 at h; omega
        have n4 : ∀ u v w, ¬ E4 ((at' s 0).toNat : Int) u v w := fun u v w h => by unfold E4 at h; omega
        rw [if_neg (show ¬ s.length < 1 by omega), if_neg c0]
        simp only [n2, n4, if_false, ite_self]
        by_cases l2 : s.length < 3
        · rw [if_pos l2, ite_self, if_neg (show ¬ (a + 3 ≤ a + (s.length : Int) ∧ _) from fun h => by omega)]
        · rw [if_neg l2, if_neg (show ¬ s.length < 2 by omega)]
          obtain ⟨x, y, z, t, rfl⟩ : ∃ x y z t, s = x :: y :: z :: t := by
            rcases s with _ | ⟨x, _ | ⟨y, _ | ⟨z, t⟩⟩⟩
            · simp at l2
            · simp at l2
            · simp at l2
            · exact ⟨x, y, z, t, rfl⟩
          have e := encL3 (x := x.toNat) (y := y.toNat) (z := z.toNat) (by have := byteB x; have := byteB y; have := byteB z; omega)
          have a0 : at' (x :: y :: z :: t) 0 = x := rfl
          have a1 : at' (x :: y :: z :: t) 1 = y := rfl
          have a2 : at' (x :: y :: z :: t) 2 = z := rfl
          have tk : (x :: y :: z :: t).take (Int.toNat 3) = [x, y, z] := rfl
          rw [tk, a0, a1, a2]
          have ee : (a + 3 ≤ a + ((x :: y :: z :: t).length : Int) ∧ enc (r3 x.toNat y.toNat z.toNat) = [x, y, z]) ↔ E3 x.toNat y.toNat z.toNat := by
            rw [enc_iff]
            simp only [List.map_cons, List.map_nil, e]
            exact ⟨fun h => h.2, fun h => ⟨by simp; omega, h⟩⟩
          by_cases q : E3 x.toNat y.toNat z.toNat
          · rw [if_pos (ee.2 q), if_pos q]
          · rw [if_neg (fun h => q (ee.1 h)), if_neg q]
      · rw [decide_eq_false c3, cond_false]
        by_cases c4 : 240 ≤ ((at' b a).toNat : Int) ∧ ((at' b a).toNat : Int) ≤ 247
        · rw [decide_eq_true c4, cond_true, m4 _ (by simp), s4, v4, t1, t2, t3]
          rw [t0] at c0 c2 c3 c4 ⊢
          rw [hL]
          generalize b.drop a.toNat = s at *
          congr 1
          unfold rd bi
          have n2 : ∀ u, ¬ E2 ((at' s 0).toNat : Int) u := fun u h => by unfold E2 at h; omega
          have n3 : ∀ u v, ¬ E3 ((at' s 0).toNat : Int) u v := fun u v h => by unfold E3 at h; omega
          rw [if_neg (show ¬ s.length < 1 by omega), if_neg c0]
          simp only [n2, n3, if_false, ite_self]
          by_cases l2 : s.length < 4
          · rw [if_pos l2, ite_self, ite_self, if_neg (show ¬ (a + 4 ≤ a + (s.length : Int) ∧ _) from fun h => by omega)]
          · rw [if_neg l2, if_neg (show ¬ s.length < 2 by omega), if_neg (show ¬ s.length < 3 by omega)]
            obtain ⟨x, y, z, v, t, rfl⟩ : ∃ x y z v t, s = x :: y :: z :: v :: t := by
              rcases s with _ | ⟨x, _ | ⟨y, _ | ⟨z, _ | ⟨v, t⟩⟩⟩⟩
              · simp at l2
              · simp at l2
              · simp at l2
              · simp at l2
              · exact ⟨x, y, z, v, t, rfl⟩
            have e := encL4 (x := x.toNat) (y := y.toNat) (z := z.toNat) (v := v.toNat) (by have := byteB x; have := byteB y; have := byteB z; have := byteB v; omega)
            have a0 : at' (x :: y :: z :: v :: t) 0 = x := rfl
            have a1 : at' (x :: y :: z :: v :: t) 1 = y := rfl
            have a2 : at' (x :: y :: z :: v :: t) 2 = z := rfl
            have a3 : at' (x :: y :: z :: v :: t) 3 = v := rfl
            have tk : (x :: y :: z :: v :: t).take (Int.toNat 4) = [x, y, z, v] := rfl
            rw [tk, a0, a1, a2, a3]
            have ee : (a + 4 ≤ a + ((x :: y :: z :: v :: t).length : Int) ∧ enc (r4 x.toNat y.toNat z.toNat v.toNat) = [x, y, z, v]) ↔ E4 x.toNat y.toNat z.toNat v.toNat := by
              rw [enc_iff]
              simp only [List.map_cons, List.map_nil, e]
              exact ⟨fun h => h.2, fun h => ⟨by simp; omega, h⟩⟩
            by_cases q : E4 x.toNat y.toNat z.toNat v.toNat
            · rw [if_pos (ee.2 q), if_pos q]
            · rw [if_neg (fun h => q (ee.1 h)), if_neg q]
        · rw [decide_eq_false c4, cond_false]
          rw [t0] at c0 c2 c3 c4
          unfold rd bi
          generalize b.drop a.toNat = s at *
          have n2 : ∀ u, ¬ E2 ((at' s 0).toNat : Int) u := fun u h => by unfold E2 at h; omega
          have n3 : ∀ u v, ¬ E3 ((at' s 0).toNat : Int) u v := fun u v h => by unfold E3 at h; omega
          have n4 : ∀ u v w, ¬ E4 ((at' s 0).toNat : Int) u v w := fun u v w h => by unfold E4 at h; omega
          simp only [n2, n3, n4, c0, if_false, ite_self]
end

def kBytes (k : Int × Int) : List UInt8 :=
  if k.1 = 1 then enc k.2
  else if k.1 = 2 then (if k.2 = 95 then [31] else [u8 (k.2 - 96)])
  else if k.1 = 3 then [27, u8 k.2]
  else if k.1 = 4 then [13] else if k.1 = 5 then [127] else if k.1 = 6 then [9] else if k.1 = 7 then [27]
  else if k.1 = 14 then [27, 91, 51, 126] else if k.1 = 15 then [27, 127] else if k.1 = 16 then [0]
  else [27, 91, at' ([65, 66, 67, 68, 72, 70] : List UInt8) (k.1 - 8)]

theorem keyBytes_i (k : Int × Int) (hk : kOk k = true) : M_i_KeyBytes k = some (kBytes k) := by
  unfold M_i_KeyBytes kBytes
  rw [bindO_of (keyOk_i k), hk]
  simp only [Bool.not_true, cond_false, runeBytes_i, bindO, Bool.cond_decide]
  by_cases h1 : k.1 = 1
  · rw [if_pos h1, if_pos h1]
  rw [if_neg h1, if_neg h1]
  unfold kOk at hk
  rw [if_neg h1] at hk
  by_cases h2 : k.1 = 2
  · rw [if_pos h2, if_pos h2]
    rw [if_pos h2] at hk
    have := of_decide_eq_true hk
    by_cases q : k.2 = 95
    · rw [if_pos q, if_pos q]
    · rw [if_neg q, if_neg q, W_eq (by omega) (by omega)]
  rw [if_neg h2, if_neg h2]
  rw [if_neg h2] at hk
  by_cases h3 : k.1 = 3
  · rw [if_pos h3, if_pos h3]
  rw [if_neg h3, if_neg h3]
  rw [if_neg h3] at hk
  have hk := of_decide_eq_true hk
  by_cases h4 : k.1 = 4
  · rw [if_pos h4, if_pos h4]
  by_cases h5 : k.1 = 5
  · rw [if_neg h4, if_neg h4, if_pos h5, if_pos h5]
  by_cases h6 : k.1 = 6
  · rw [if_neg h4, if_neg h4, if_neg h5, if_neg h5, if_pos h6, if_pos h6]
  by_cases h7 : k.1 = 7
  · rw [if_neg h4, if_neg h4, if_neg h5, if_neg h5, if_neg h6, if_neg h6, if_pos h7, if_pos h7]
  by_cases h14 : k.1 = 14
  · rw [if_neg h4, if_neg h4, if_neg h5, if_neg h5, if_neg h6, if_neg h6, if_neg h7, if_neg h7, if_pos h14, if_pos h14]
  by_cases h15 : k.1 = 15
  · rw [if_neg h4, if_neg h4, if_neg h5, if_neg h5, if_neg h6, if_neg h6, if_neg h7, if_neg h7, if_neg h14, if_neg h14, if_pos h15, if_pos h15]
  by_cases h16 : k.1 = 16
  · rw [if_neg h4, if_neg h4, if_neg h5, if_neg h5, if_neg h6, if_neg h6, if_neg h7, if_neg h7, if_neg h14, if_neg h14, if_neg h15, if_neg h15, if_pos h16, if_pos h16]
  rw [if_neg h4, if_neg h4, if_neg h5, if_neg h5, if_neg h6, if_neg h6, if_neg h7, if_neg h7, if_neg h14, if_neg h14, if_neg h15, if_neg h15, if_neg h16, if_neg h16, W_eq (by omega) (by omega)]
  unfold guardO
  rw [if_pos ⟨by omega, by simp; omega⟩]

theorem kBytes_len (k : Int × Int) : (kBytes k).length ≤ 4 := by
  unfold kBytes
  have := enc_len k.2
  repeat' split
  all_goals simp
  all_goals omega

theorem rd_bound (s : List UInt8) : 0 ≤ (rd s).2 ∧ (rd s).2 ≤ 4 ∧ (rd s).2 ≤ (s.length : Int) := by
  unfold rd
  repeat' split
  all_goals simp only
  all_goals omega

/-- The runes of some bytes: with so much fuel. -/
def runes : Nat → List UInt8 → Option (List Int)
  | 0, _ => some []
  | m + 1, s => if s.length = 0 then some [] else if (rd s).2 = 0 then none else (runes m (s.drop (rd s).2.toNat)).map ((rd s).1 :: ·)

def runesR (s : List UInt8) : List Int × Bool := if 65536 < (s.length : Int) then ([], false) else match runes s.length s with
  | some l => (l, true)
  | none => ([], false)

theorem runes_len : ∀ (m : Nat) (s : List UInt8) (l : List Int), runes m s = some l → l.length ≤ s.length
  | 0, s, l, h => by simp only [runes, Option.some.injEq] at h; subst h; simp
  | m + 1, s, l, h => by
    simp only [runes] at h
    split at h
    · simp only [Option.some.injEq] at h; subst h; simp
    · split at h
      · cases h
      · rename_i h0 h1
        obtain ⟨q, hq, rfl⟩ := Option.map_eq_some_iff.1 h
        have := runes_len m _ q hq
        have b := rd_bound s
        simp only [List.length_drop, List.length_cons] at this ⊢
        omega

theorem runesLoop_i (s : List UInt8) (hs : (s.length : Int) ≤ 65536) (j : List Int → Option (List Int × Bool)) : ∀ (f m : Nat) (o : List Int) (k : Int), 0 ≤ k → k ≤ (s.length : Int) → (s.length : Int) - k ≤ f → (s.length : Int) - k < m → (o.length : Int) ≤ k →
    fixF (M_i_RunesOf_L1 s j) m (o, k) = match runes f (s.drop k.toNat) with
      | some l => j (o ++ l)
      | none => some ([], false) := by
  intro f
  induction f with
  | zero =>
    intro m o k hk hk' hf hm ho
    cases m with
    | zero => omega
    | succ m =>
      have h1 : ¬ k < (s.length : Int) := by omega
      simp only [fixF, M_i_RunesOf_L1, h1, decide_false, cond_false, runes, List.append_nil]
  | succ f ih =>
    intro m o k hk hk' hf hm ho
    cases m with
    | zero => omega
    | succ m =>
      simp only [fixF, M_i_RunesOf_L1, guardO, runes, Bool.cond_decide]
      by_cases h1 : k < (s.length : Int)
      · have hne : ¬ (s.drop k.toNat).length = 0 := by simp; omega
        rw [if_pos h1, bindO_of (runeRead_i hk (by omega) h1), if_neg hne]
        have hb := rd_bound (s.drop k.toNat)
        simp only [List.length_drop] at hb
        by_cases h2 : (rd (s.drop k.toNat)).2 = 0
        · rw [if_pos h2, if_pos h2]
        · rw [if_neg h2, if_neg h2, if_pos (by simp; omega), W_eq (by omega) (by omega), ih m _ _ (by omega) (by omega) (by omega) (by omega) (by simp; omega)]
          have e : s.drop (k + (rd (s.drop k.toNat)).2).toNat = (s.drop k.toNat).drop (rd (s.drop k.toNat)).2.toNat := by
            rw [List.drop_drop]; congr 1; omega
          rw [e]
          cases runes f ((s.drop k.toNat).drop (rd (s.drop k.toNat)).2.toNat) with
          | none => rfl
          | some l => simp
      · have hne : (s.drop k.toNat).length = 0 := by simp; omega
        rw [if_neg h1, if_pos hne]; simp

theorem runesOf_i (s : List UInt8) : M_i_RunesOf s = some (runesR s) := by
  unfold M_i_RunesOf runesR
  simp only [joinO, Bool.cond_decide]
  by_cases h : 65536 < (s.length : Int)
  · rw [if_pos h, if_pos h]
  · rw [if_neg h, if_neg h, runesLoop_i s (by omega) _ s.length FUEL [] 0 (by omega) (by omega) (by omega) (by rw [fuel_eq]; omega) (by simp)]
    simp only [Int.toNat_zero, List.drop_zero, List.nil_append]
    cases runes s.length s <;> rfl

def spl (c : UInt8) : List UInt8 → List (List UInt8)
  | [] => [[]]
  | b :: l => if b = c then [] :: spl c l else match spl c l with
    | [] => [[b]]
    | x :: xs => (b :: x) :: xs

theorem spl_cases (c : UInt8) : ∀ (l : List UInt8), (Lib.indexByte l c = -1 ∧ spl c l = [l] ∧ l.count c = 0) ∨
    ∃ p : Nat, Lib.indexByte l c = p ∧ p < l.length ∧ spl c l = l.take p :: spl c (l.drop (p + 1)) ∧ l.count c = (l.drop (p + 1)).count c + 1
  | [] => .inl ⟨rfl, rfl, rfl⟩
  | b :: l => by
    by_cases h : b = c
    · subst h
      refine .inr ⟨0, by simp [Lib.indexByte], by simp, ?_, ?_⟩
      · simp [spl]
      · simp
    · have hb : (b == c) = false := by simpa using h
      rcases spl_cases c l with ⟨h1, h2, h3⟩ | ⟨p, h1, h2, h3, h4⟩
      · refine .inl ⟨?_, ?_, ?_⟩
        · simp [Lib.indexByte, hb, h1]
        · simp [spl, h, h2]
        · rw [List.count_cons, h3]; simp [h]
      · refine .inr ⟨p + 1, ?_, ?_, ?_, ?_⟩
        · have : ¬ ((p : Int) = -1) := by omega
          simp [Lib.indexByte, hb, h1, this]
        · simp; omega
        · simp [spl, h, h3]
        · rw [List.count_cons, h4]; simp [h]

theorem set_take (a : List (List UInt8)) (s : List UInt8) (i : Nat) (hi : i < a.length) : sub' (List.set a i s) 0 ((i : Int) + 1) = a.take i ++ [s] := by
  unfold sub'
  have e1 : ((i : Int) + 1).toNat = i + 1 := by omega
  simp only [Int.toNat_zero, List.drop_zero, Nat.sub_zero, e1]
  rw [List.take_set, List.take_succ_eq_append_getElem hi, List.set_append_right _ _ (by simp; omega)]
  simp only [List.length_take, Nat.min_eq_left (show i ≤ a.length by omega), Nat.sub_self, List.set_cons_zero]

theorem set_take' (a : List (List UInt8)) (s : List UInt8) (i : Nat) (hi : i < a.length) : (List.set a i s).take (i + 1) = a.take i ++ [s] := by
  rw [List.take_set, List.take_succ_eq_append_getElem hi, List.set_append_right _ _ (by simp; omega)]
  simp only [List.length_take, Nat.min_eq_left (show i ≤ a.length by omega), Nat.sub_self, List.set_cons_zero]

theorem gen_loop (x0 : List UInt8) (c : UInt8) (n : Nat) (hx : (x0.length : Int) ≤ 1048576) (hn : (n : Int) = x0.count c + 1) (j : List UInt8 × List (List UInt8) × Int → Option (List (List UInt8)))
    (hj : ∀ (s : List UInt8) (a : List (List UInt8)) (i : Nat), a.length = n → i < n → j (s, a, (i : Int)) = some (a.take i ++ [s])) :
    ∀ (m : Nat) (s : List UInt8) (a : List (List UInt8)) (i : Nat), a.length = n → n = i + s.count c + 1 → s.length ≤ x0.length → (s.count c : Int) < m → 0 < m →
    fixF (M_strings_genSplit_L1 x0 [c] 0 (n : Int) j) m (s, a, (i : Int)) = some (a.take i ++ spl c s) := by
  have hcn := List.count_le_length (a := c) (l := x0)
  have hmin : min (n : Int) (W ((x0.length : Int) + 1)) = n := by rw [W_eq (by omega) (by omega)]; omega
  intro m
  induction m with
  | zero => intro s a i _ _ _ h h'; omega
  | succ m ih =>
    intro s a i ha hi hs hm _
    simp only [fixF, M_strings_genSplit_L1, guardO, Bool.cond_decide, hmin]
    have w1 : W ((n : Int) - 1) = (n : Int) - 1 := W_eq (by omega) (by omega)
    have w2 : W ((i : Int) + 1) = (i : Int) + 1 := W_eq (by omega) (by omega)
    rw [w1]
    rcases spl_cases c s with ⟨h1, h2, h3⟩ | ⟨p, h1, h2, h3, h4⟩
    · rw [if_neg (by omega), hj _ _ _ ha (by omega), h2]
    · rw [if_pos (by omega)]
      simp only [M_strings_Index, bindO, h1]
      have w3 : W ((p : Int) + 0) = p := by rw [W_eq (by omega) (by omega)]; omega
      have w4 : W ((p : Int) + (([c] : List UInt8).length : Int)) = p + 1 := by rw [W_eq (by simp; omega) (by simp; omega)]; simp
      rw [w3, w4, if_neg (by omega), if_pos ⟨by omega, by omega, by omega⟩, if_pos ⟨by omega, by omega⟩, if_pos ⟨by omega, by omega, by omega⟩, w2]
      have e1 : sub' s ((p : Int) + 1) (s.length : Int) = s.drop (p + 1) := by
        rw [sub_all (by omega)]; congr 1
      have e2 : sub' s 0 (p : Int) = s.take p := by unfold sub'; simp
      have e3 : (((i + 1 : Nat)) : Int) = (i : Int) + 1 := by omega
      rw [e1, e2, ← e3]
      rw [ih (s.drop (p + 1)) _ (i + 1) (by simpa using ha) (by omega) (by simp; omega) (by omega) (by omega), h3]
      simp only [Int.toNat_natCast]
      rw [set_take' _ _ _ (by omega), List.append_assoc]
      rfl

theorem split_eq (x0 : List UInt8) (c : UInt8) (hx : (x0.length : Int) ≤ 1048576) : M_strings_Split x0 [c] = some (spl c x0) := by
  have hcn := List.count_le_length (a := c) (l := x0)
  have hg : M_strings_genSplit x0 [c] 0 (-1) = some (spl c x0) := by
    unfold M_strings_genSplit
    simp only [joinO, Bool.cond_decide, M_strings_Count, bindO, Lib.countByte, guardO]
    have w1 : W (((x0.count c : Nat) : Int) + 1) = ((x0.count c + 1 : Nat) : Int) := by rw [W_eq (by omega) (by omega)]; omega
    have hmin : min ((x0.count c + 1 : Nat) : Int) (W ((x0.length : Int) + 1)) = ((x0.count c + 1 : Nat) : Int) := by rw [W_eq (x := (x0.length : Int) + 1) (by omega) (by omega)]; omega
    rw [if_neg (by decide), if_neg (by simp), if_pos (by decide), w1, hmin, if_pos ⟨by omega, by omega⟩]
    have e1 : (List.replicate (((x0.count c + 1 : Nat) : Int).toNat) ([] : List UInt8)).length = x0.count c + 1 := by simp
    refine Eq.trans (gen_loop x0 c (x0.count c + 1) hx (by omega) _ (fun s a i ha hi => ?_) FUEL x0 _ 0 e1 (by omega) (by omega) (by rw [fuel_eq]; omega) (by rw [fuel_eq]; omega)) (by simp)
    have w2 : W ((i : Int) + 1) = (i : Int) + 1 := W_eq (by omega) (by omega)
    simp only [w2]
    rw [if_pos ⟨by omega, by omega⟩, if_pos ⟨by omega, by omega, by simp; omega⟩]
    congr 1
    exact set_take a s i (by omega)
  unfold M_strings_Split
  rw [bindO_of hg]

def NAMES : List (List UInt8) := spl 32 [69, 78, 84, 69, 82, 32, 66, 65, 67, 75, 32, 84, 65, 66, 32, 69, 83, 67, 32, 85, 80, 32, 68, 79, 87, 78, 32, 82, 73, 71, 72, 84, 32, 76, 69, 70, 84, 32, 72, 79, 77, 69, 32, 69, 78, 68, 32, 68, 69, 76, 69, 84, 69, 32, 77, 66, 65, 67, 75, 32, 66, 65, 68]

theorem textOf1 (r : Int) : M_i_TextOf [r] = some (enc r) := by
  unfold M_i_TextOf
  obtain ⟨m, hm⟩ : ∃ m, FUEL = m + 1 + 1 := ⟨FUEL - 2, by rw [fuel_eq]⟩
  have hl := enc_len r
  have a0 : at' [r] 0 = r := rfl
  simp only [joinO]
  rw [hm]
  simp only [fixF, M_i_TextOf_L1, guardO, Bool.cond_decide, runeBytes_i, bindO, a0]
  rw [if_pos (by simp), if_pos (by simp), if_pos (by simp; omega), W_eq (by omega) (by omega), if_neg (by simp)]
  simp

def kText (k : Int × Int) : List UInt8 :=
  if kOk k = false then []
  else if k.1 = 1 then (if k.2 = 32 then [83, 80, 67] else enc k.2)
  else if k.1 = 2 then [67, 45] ++ enc k.2
  else if k.1 = 3 then [77, 45] ++ enc k.2
  else at' NAMES (k.1 - 4)

theorem keyText_i (k : Int × Int) : M_i_KeyText k = some (kText k) := by
  unfold M_i_KeyText kText
  rw [bindO_of (keyOk_i k)]
  have hl := enc_len k.2
  cases hk : kOk k with
  | false => simp
  | true =>
    simp only [Bool.not_true, cond_false, Bool.cond_decide, textOf1, bindO, guardO, Bool.true_eq_false, if_false]
    by_cases h1 : k.1 = 1
    · rw [if_pos h1, if_pos h1]
      split <;> rfl
    rw [if_neg h1, if_neg h1]
    by_cases h2 : k.1 = 2
    · rw [if_pos h2, if_pos h2, if_pos (by simp; omega)]
    rw [if_neg h2, if_neg h2]
    by_cases h3 : k.1 = 3
    · rw [if_pos h3, if_pos h3, if_pos (by simp; omega)]
    rw [if_neg h3, if_neg h3]
    unfold kOk at hk
    rw [if_neg h1, if_neg h2, if_neg h3] at hk
    have hk := of_decide_eq_true hk
    have hs := split_eq ([69, 78, 84, 69, 82, 32, 66, 65, 67, 75, 32, 84, 65, 66, 32, 69, 83, 67, 32, 85, 80, 32, 68, 79, 87, 78, 32, 82, 73, 71, 72, 84, 32, 76, 69, 70, 84, 32, 72, 79, 77, 69, 32, 69, 78, 68, 32, 68, 69, 76, 69, 84, 69, 32, 77, 66, 65, 67, 75, 32, 66, 65, 68] : List UInt8) 32 (by decide)
    rw [hs]
    have hn : NAMES.length = 13 := by decide +kernel
    simp only
    have e : spl 32 ([69, 78, 84, 69, 82, 32, 66, 65, 67, 75, 32, 84, 65, 66, 32, 69, 83, 67, 32, 85, 80, 32, 68, 79, 87, 78, 32, 82, 73, 71, 72, 84, 32, 76, 69, 70, 84, 32, 72, 79, 77, 69, 32, 69, 78, 68, 32, 68, 69, 76, 69, 84, 69, 32, 77, 66, 65, 67, 75, 32, 66, 65, 68] : List UInt8) = NAMES := rfl
    rw [e, W_eq (by omega) (by omega), if_pos ⟨by omega, by omega⟩]

def idxOf (s : List UInt8) : List (List UInt8) → Int → Option Int
  | [], _ => none
  | x :: t, i => if x = s then some i else idxOf s t (i + 1)

theorem textKey_loop (s : List UInt8) (ys : List (List UInt8)) (hy : (ys.length : Int) ≤ 1000) (j : Unit → Option ((Int × Int) × Bool)) : ∀ (m : Nat) (k : Int), 0 ≤ k → k ≤ (ys.length : Int) → (ys.length : Int) - k < m →
    fixF (M_i_TextKey_L1 s ys j) m k = match idxOf s (ys.drop k.toNat) k with
      | some i => some ((4 + i, 0), true)
      | none => j () := by
  intro m
  induction m with
  | zero => intro k _ _ h; omega
  | succ m ih =>
    intro k h0 h1 hm
    simp only [fixF, M_i_TextKey_L1, guardO, Bool.cond_decide]
    by_cases h : k < (ys.length : Int)
    · rw [if_pos h, if_pos ⟨h0, h⟩, drop_at h0 h, W_eq (by omega) (by omega), W_eq (by omega) (by omega)]
      simp only [idxOf]
      by_cases q : at' ys k = s
      · rw [if_pos q, if_pos q]
      · rw [if_neg q, if_neg q]
        exact ih (k + 1) (by omega) (by omega) (by omega)
    · rw [if_neg h, List.drop_eq_nil_of_le (by omega)]
      rfl

def tKey2 (s : List UInt8) (k : Int × Int) : (Int × Int) × Bool := if kText k = s then (k, true) else ((0, 0), false)

def tKey (s : List UInt8) : (Int × Int) × Bool := match idxOf s NAMES 0 with
  | some i => ((4 + i, 0), true)
  | none =>
    if (runesR s).2 = false ∨ (runesR s).1.length = 0 then ((0, 0), false)
    else if s = [83, 80, 67] then ((1, 32), true)
    else if (runesR s).1.length = 1 then tKey2 s (1, at' (runesR s).1 0)
    else if (runesR s).1.length = 3 ∧ sub' s 0 2 = [67, 45] then tKey2 s (2, at' (runesR s).1 2)
    else if (runesR s).1.length = 3 ∧ sub' s 0 2 = [77, 45] then tKey2 s (3, at' (runesR s).1 2)
    else tKey2 s (0, 0)

theorem runesR_le (s : List UInt8) : (runesR s).1.length ≤ s.length := by
  unfold runesR
  split
  · simp
  · split
    · rename_i l hl
      exact runes_len _ _ _ hl
    · simp

theorem textKey_i (s : List UInt8) : M_i_TextKey s = some (tKey s) := by
  unfold M_i_TextKey tKey
  have hs := split_eq ([69, 78, 84, 69, 82, 32, 66, 65, 67, 75, 32, 84, 65, 66, 32, 69, 83, 67, 32, 85, 80, 32, 68, 79, 87, 78, 32, 82, 73, 71, 72, 84, 32, 76, 69, 70, 84, 32, 72, 79, 77, 69, 32, 69, 78, 68, 32, 68, 69, 76, 69, 84, 69, 32, 77, 66, 65, 67, 75, 32, 66, 65, 68] : List UInt8) 32 (by decide)
  have e : spl 32 ([69, 78, 84, 69, 82, 32, 66, 65, 67, 75, 32, 84, 65, 66, 32, 69, 83, 67, 32, 85, 80, 32, 68, 79, 87, 78, 32, 82, 73, 71, 72, 84, 32, 76, 69, 70, 84, 32, 72, 79, 77, 69, 32, 69, 78, 68, 32, 68, 69, 76, 69, 84, 69, 32, 77, 66, 65, 67, 75, 32, 66, 65, 68] : List UInt8) = NAMES := rfl
  have hn : NAMES.length = 13 := by decide +kernel
  rw [e] at hs
  rw [bindO_of hs]
  simp only [joinO]
  rw [textKey_loop s NAMES (by omega) _ FUEL 0 (by omega) (by omega) (by rw [fuel_eq]; omega)]
  simp only [Int.toNat_zero, List.drop_zero]
  split
  · rfl
  have hle := runesR_le s
  have fin : ∀ k : Int × Int, (bindO (M_i_KeyText (k.1, k.2)) fun (y61 : List UInt8) => (bif (!(decide (y61 = s))) then some ((0, 0), false) else some ((k.1, k.2), true))) = some (tKey2 s k) := by
    intro k
    have : M_i_KeyText (k.1, k.2) = some (kText k) := keyText_i k
    rw [bindO_of this]
    unfold tKey2
    by_cases q : kText k = s <;> simp [q]
  rw [bindO_of (runesOf_i s)]
  obtain ⟨r, hr⟩ : ∃ r, r = runesR s := ⟨_, rfl⟩
  rw [← hr] at hle ⊢
  obtain ⟨l, ok⟩ := r
  simp only at hle ⊢
  cases ok with
  | false => simp
  | true =>
    by_cases h0 : l.length = 0
    · have h0' : (l.length : Int) = 0 := by omega
      simp [h0, h0']
    have h0' : ¬ ((l.length : Int) = 0) := by omega
    simp only [Bool.not_true, cond_false, Bool.cond_decide, h0', if_false, guardO, h0, or_self, Bool.true_eq_false]
    by_cases hS : s = [83, 80, 67]
    · rw [if_pos hS, if_pos hS]
    rw [if_neg hS, if_neg hS]
    by_cases h1 : l.length = 1
    · have h1' : (l.length : Int) = 1 := by omega
      rw [if_pos h1, if_pos h1', if_pos (by omega)]
      exact fin (1, at' l 0)
    have h1' : ¬ ((l.length : Int) = 1) := by omega
    rw [if_neg h1, if_neg h1', if_pos (by intro h; simp at h; omega)]
    by_cases h3 : l.length = 3
    · have h3' : (l.length : Int) = 3 := by omega
      have e3 : (l.length = 3) = True := eq_true h3
      simp only [e3, h3', true_and, if_true]
      by_cases hC : sub' s 0 2 = [67, 45]
      · rw [decide_eq_true hC, cond_true, if_pos hC, if_pos (by omega)]
        exact fin (2, at' l 2)
      rw [decide_eq_false hC, cond_false, if_neg hC, if_pos (by intro; omega)]
      by_cases hM : sub' s 0 2 = [77, 45]
      · rw [decide_eq_true hM, cond_true, if_pos hM, if_pos (by omega)]
        exact fin (3, at' l 2)
      rw [decide_eq_false hM, cond_false, if_neg hM]
      exact fin (0, 0)
    · have h3' : ¬ ((l.length : Int) = 3) := by omega
      have e3 : (l.length = 3) = False := eq_false h3
      simp only [e3, h3', false_and, if_false, cond_false, decide_false, Bool.false_eq_true, false_imp_iff, if_true]
      exact fin (0, 0)

def arr (b : Int) : Int := if b = 65 then 8 else if b = 66 then 9 else if b = 67 then 10 else if b = 68 then 11 else if b = 72 then 12 else if b = 70 then 13 else 16

theorem arrow_i (b : Int) : M_i_arrow b = some (arr b, 0) := by
  obtain ⟨m, hm⟩ : ∃ m, FUEL = m + 1 + 1 + 1 + 1 + 1 + 1 + 1 := ⟨FUEL - 7, by rw [fuel_eq]⟩
  have st : ∀ (m : Nat) (k : Int), 0 ≤ k → k ≤ 6 → fixF (M_i_arrow_L1 b fun _ => some (16, 0)) (m + 1) k = if k < 6 then (if b = at' ([65, 66, 67, 68, 72, 70] : List Int) k then some (8 + k, 0) else fixF (M_i_arrow_L1 b fun _ => some (16, 0)) m (k + 1)) else some (16, 0) := by
    intro m k h1 h2
    simp only [fixF, M_i_arrow_L1, guardO, Bool.cond_decide]
    rw [W_eq (x := 8 + k) (by omega) (by omega), W_eq (x := k + 1) (by omega) (by omega)]
    by_cases h : k < 6
    · have e : ((at' ([65, 66, 67, 68, 72, 70] : List UInt8) k).toNat : Int) = at' ([65, 66, 67, 68, 72, 70] : List Int) k := by
        have : k = 0 ∨ k = 1 ∨ k = 2 ∨ k = 3 ∨ k = 4 ∨ k = 5 := by omega
        rcases this with rfl | rfl | rfl | rfl | rfl | rfl <;> rfl
      rw [if_pos h, if_pos h, if_pos ⟨h1, by simpa using h⟩, e]
      by_cases q : b = at' ([65, 66, 67, 68, 72, 70] : List Int) k
      · rw [if_pos q.symm, if_pos q]
      · rw [if_neg (fun h => q h.symm), if_neg q]
    · rw [if_neg h, if_neg h]
  unfold M_i_arrow
  simp only [joinO, M_i_bad, bindO]
  rw [hm, st _ 0 (by omega) (by omega), st _ (0 + 1) (by omega) (by omega), st _ (0 + 1 + 1) (by omega) (by omega), st _ (0 + 1 + 1 + 1) (by omega) (by omega), st _ (0 + 1 + 1 + 1 + 1) (by omega) (by omega), st _ (0 + 1 + 1 + 1 + 1 + 1) (by omega) (by omega), st _ (0 + 1 + 1 + 1 + 1 + 1 + 1) (by omega) (by omega)]
  have e : ∀ (c : Prop) [Decidable c] (x y : Int), (if c then some (x, (0 : Int)) else some (y, 0)) = some (if c then x else y, 0) := fun c _ x y => by split <;> rfl
  simp [at', arr, e]

def bk (b : Int) : Int × Int := if b < 0 ∨ 127 < b then (0, 0) else if b = 8 ∨ b = 127 then (5, 0) else if b = 9 then (6, 0) else if b = 10 ∨ b = 13 then (4, 0) else if b = 27 then (7, 0) else if b = 31 then (2, 95) else if 32 ≤ b then (1, b) else if 1 ≤ b ∧ b ≤ 26 then (2, b + 96) else (16, 0)

theorem byteKey_i (b : Int) : M_i_ByteKey b = some (bk b) := by
  unfold M_i_ByteKey bk
  simp only [in_eq, Bool.cond_decide, bindO]
  by_cases h0 : b < 0 ∨ 127 < b
  · rw [if_pos h0]
    have : ¬ (0 ≤ b ∧ b ≤ 127) := by omega
    rw [decide_eq_false this]; rfl
  · rw [if_neg h0]
    have : (0 ≤ b ∧ b ≤ 127) := by omega
    rw [decide_eq_true this]
    simp only [Bool.not_true, cond_false]
    by_cases h8 : b = 8 ∨ b = 127
    · rw [if_pos h8]; rcases h8 with h | h <;> simp [h]
    · rw [if_neg h8]
      simp only [not_or] at h8
      simp only [h8.1, h8.2, if_false, decide_false, cond_false]
      by_cases h9 : b = 9
      · simp [h9]
      · rw [if_neg h9, if_neg h9]
        by_cases h10 : b = 10 ∨ b = 13
        · rw [if_pos h10]; rcases h10 with h | h <;> simp [h]
        · rw [if_neg h10]
          simp only [not_or] at h10
          simp only [h10.1, h10.2, if_false, decide_false, cond_false]
          rw [W_eq (by omega) (by omega)]
          by_cases h27 : b = 27
          · simp [h27]
          · by_cases h31 : b = 31
            · simp [h31]
            · by_cases h32 : 32 ≤ b
              · have : ¬ b ≤ 26 := by omega
                simp [h27, h31, h32, this]
              · by_cases h1 : 1 ≤ b <;> by_cases h26 : b ≤ 26 <;> simp [h27, h31, h32, h1, h26]

abbrev Stp := (Int × List UInt8) × List (Int × Int)

def plain (p : List UInt8) (b : Int) : Stp :=
  if b < 128 then (if b = 27 then ((1, []), if 0 < p.length then [(16, 0)] else []) else ((0, []), (if 0 < p.length then [(16, 0)] else []) ++ [bk b]))
  else if (rd (p ++ [u8 b])).2 = ((p ++ [u8 b]).length : Int) then (if pr (rd (p ++ [u8 b])).1 then ((0, []), [(1, (rd (p ++ [u8 b])).1)]) else ((0, []), [(16, 0)]))
  else if rbS (p ++ [u8 b]) then ((0, p ++ [u8 b]), [])
  else if 0 < p.length ∧ rbS [u8 b] = true then ((0, [u8 b]), [(16, 0)])
  else ((0, []), [(16, 0)])

theorem plain_i (p : List UInt8) (b : Int) (hp : p.length ≤ 10000000) : M_i_decPlain p b = some (plain p b) := by
  unfold M_i_decPlain plain
  simp only [M_i_bad, M_i_copyBytes, Bool.cond_decide, byteKey_i, printable_i, List.nil_append]
  by_cases h1 : b < 128
  · rw [if_pos h1, if_pos h1]
    by_cases h2 : 0 < p.length
    · have h2' : 0 < (p.length : Int) := by omega
      by_cases h3 : b = 27 <;> simp [h2, h2', h3, bindO, joinO, guardO]
    · have h2' : ¬ 0 < (p.length : Int) := by omega
      by_cases h3 : b = 27 <;> simp [h2, h2', h3, bindO, joinO, guardO]
  · rw [if_neg h1, if_neg h1]
    have g1 : ([] : List UInt8).length + p.length ≤ 536870912 := by simp; omega
    have g2 : p.length + ([u8 b] : List UInt8).length ≤ 536870912 := by simp; omega
    simp only [guardO, g1, if_true, bindO, g2]
    have rr := runeRead_i (b := p ++ [u8 b]) (a := 0) (by omega) (by simp; omega) (by simp)
    simp only [Int.toNat_zero, List.drop_zero] at rr
    have rb := runeBegin_i (p ++ [u8 b]) (by simp; omega)
    simp only [rr]
    by_cases h2 : (rd (p ++ [u8 b])).2 = ((p ++ [u8 b]).length : Int)
    · rw [if_pos h2, if_pos h2]
      cases pr (rd (p ++ [u8 b])).1 <;> rfl
    · rw [if_neg h2, if_neg h2, rb]
      simp only
      cases rbS (p ++ [u8 b])
      · have rb1 := runeBegin_i [u8 b] (by simp)
        by_cases h3 : 0 < p.length
        · have h3' : 0 < (p.length : Int) := by omega
          simp only [h3', decide_true, rb1, callO, bindO, h3, if_true, true_and, cond_false]
          cases rbS [u8 b] <;> simp
        · have h3' : ¬ 0 < (p.length : Int) := by omega
          simp [h3', callO, h3]
      · rfl

def okB (b : Int) : Bool := decide ((48 ≤ b ∧ b ≤ 57) ∨ b = 59)

def csi (p : List UInt8) (b : Int) : Stp :=
  if okB b then (if 8 ≤ p.length then ((4, []), [(16, 0)]) else ((2, p ++ [u8 b]), []))
  else if b = 27 then ((1, []), [(16, 0)])
  else if p.length = 0 then ((0, []), [(arr b, 0)])
  else if b = 126 then ((0, []), [((if p = [51] then 14 else if p = [49] ∨ p = [55] then 12 else if p = [52] ∨ p = [56] then 13 else 16), 0)])
  else ((0, []), [(16, 0)])

theorem csi_i (p : List UInt8) (b : Int) (hp : p.length ≤ 8) : M_i_decCsi p b = some (csi p b) := by
  unfold M_i_decCsi csi
  rw [bindO_of (isDigit_eq b)]
  simp only [M_i_bad, M_i_copyBytes, arrow_i, joinO]
  have g1 : ([] : List UInt8).length + p.length ≤ 536870912 := by simp; omega
  have g2 : p.length + ([u8 b] : List UInt8).length ≤ 536870912 := by simp; omega
  simp only [List.nil_append, guardO, g1, g2, if_true, bindO]
  have ho : (bif decide (48 ≤ b ∧ b ≤ 57) then true else decide (b = 59)) = okB b := by
    unfold okB
    by_cases h : 48 ≤ b ∧ b ≤ 57
    · rw [decide_eq_true h, decide_eq_true (Or.inl h)]; rfl
    · rw [decide_eq_false h]
      by_cases h' : b = 59
      · rw [decide_eq_true h', decide_eq_true (Or.inr h')]; rfl
      · rw [decide_eq_false h', decide_eq_false (fun q => q.elim h h')]; rfl
  rw [ho]
  simp only [Bool.cond_decide]
  cases okB b
  · simp only [cond_false, Bool.false_eq_true, if_false]
    by_cases h1 : b = 27
    · simp [h1]
    · by_cases h2 : p.length = 0
      · have h2' : (p.length : Int) = 0 := by omega
        simp [h1, h2]
      · have h2' : ¬ (p.length : Int) = 0 := by omega
        by_cases h3 : b = 126
        · rw [if_neg h1, if_neg h1, if_neg h2, if_neg h2', if_pos h3, if_pos h3]
          by_cases q1 : p = [51]
          · simp [q1]
          · by_cases q2 : p = [49]
            · simp [q2]
            · by_cases q3 : p = [55]
              · simp [q3]
              · by_cases q4 : p = [52]
                · simp [q4]
                · by_cases q5 : p = [56]
                  · simp [q5]
                  · simp [q1, q2, q3, q4, q5]
        · rw [if_neg h1, if_neg h1, if_neg h2, if_neg h2', if_neg h3, if_neg h3]
  · simp only [cond_true, if_true]
    by_cases h : 8 ≤ p.length
    · have h' : 8 ≤ (p.length : Int) := by omega
      simp [h, h']
    · have h' : ¬ 8 ≤ (p.length : Int) := by omega
      simp [h, h']

def esc (b : Int) : Stp :=
  if b = 91 then ((2, []), []) else if b = 79 then ((3, []), []) else if b = 27 then ((1, []), [(7, 0)])
  else if b = 8 ∨ b = 127 then ((0, []), [(15, 0)]) else if 33 ≤ b ∧ b ≤ 126 then ((0, []), [(3, b)])
  else ((plain [] b).1, (7, 0) :: (plain [] b).2)

theorem plain_len (p : List UInt8) (b : Int) : (plain p b).2.length ≤ 2 := by
  unfold plain
  repeat' (split <;> try simp)

theorem plain_len0 (b : Int) : (plain [] b).2.length ≤ 1 := by
  unfold plain
  repeat' (split <;> try simp)

theorem esc_i (b : Int) : M_i_decEsc b = some (esc b) := by
  unfold M_i_decEsc esc
  simp only [in_eq, Bool.cond_decide]
  rw [bindO_of (plain_i [] b (by simp))]
  have hpl := plain_len0 b
  by_cases h1 : b = 91
  · simp [h1]
  · by_cases h2 : b = 79
    · simp [h2]
    · by_cases h3 : b = 27
      · simp [h3, bindO]
      · by_cases h4 : b = 8 ∨ b = 127
        · rcases h4 with h4 | h4 <;> simp [h4, bindO]
        · simp only [not_or] at h4
          by_cases h5 : 33 ≤ b <;> by_cases h6 : b ≤ 126 <;> simp [h1, h2, h3, h4.1, h4.2, h5, h6, bindO, guardO] <;> omega

def stp (d : Int × List UInt8) (b : Int) : Stp :=
  if d.1 = 0 then plain d.2 b
  else if d.1 = 1 then esc b
  else if d.1 = 2 then csi d.2 b
  else if d.1 = 3 then (if b = 27 then ((1, []), [(16, 0)]) else ((0, []), [(arr b, 0)]))
  else if okB b then ((4, []), []) else if b = 27 then ((1, []), []) else ((0, []), [])

theorem rbS_len {p : List UInt8} (h : rbS p = true) : 1 ≤ p.length ∧ p.length ≤ 3 := by
  rcases p with _ | ⟨x, _ | ⟨y, _ | ⟨z, _ | ⟨v, t⟩⟩⟩⟩
  · cases h
  · simp
  · simp
  · simp
  · cases h

theorem okD_len {d : Int × List UInt8} (h : okD d = true) : d.2.length ≤ 8 := by
  unfold okD at h
  split at h
  · simp at h
    rcases h with h | h
    · simp [h]
    · have := rbS_len h; omega
  · split at h
    · simp at h; exact h.2
    · simp at h; simp [h.2]

theorem decode_i (d : Int × List UInt8) (b : Int) (hl8 : d.2.length ≤ 8) : M_i_decode d b = some (stp d b) := by
  unfold M_i_decode stp
  have ho' : (bif decide (48 ≤ b ∧ b ≤ 57) then true else decide (b = 59)) = okB b := by
    unfold okB
    by_cases h : 48 ≤ b ∧ b ≤ 57
    · rw [decide_eq_true h, decide_eq_true (Or.inl h)]; rfl
    · rw [decide_eq_false h]
      by_cases h' : b = 59
      · rw [decide_eq_true h', decide_eq_true (Or.inr h')]; rfl
      · rw [decide_eq_false h', decide_eq_false (fun q => q.elim h h')]; rfl
  simp only [isDigit_eq, arrow_i, M_i_bad]
  by_cases c0 : d.1 = 0
  · rw [decide_eq_true c0, if_pos c0, plain_i _ _ (by omega)]; rfl
  · rw [decide_eq_false c0, if_neg c0]
    by_cases c1 : d.1 = 1
    · rw [decide_eq_true c1, if_pos c1, esc_i]; rfl
    · rw [decide_eq_false c1, if_neg c1]
      by_cases c2 : d.1 = 2
      · rw [decide_eq_true c2, if_pos c2, csi_i _ _ hl8]; rfl
      · rw [decide_eq_false c2, if_neg c2]
        by_cases c3 : d.1 = 3
        · by_cases q : b = 27 <;> simp [c3, q, bindO]
        · rw [decide_eq_false c3, if_neg c3]
          simp only [cond_false, bindO]
          rw [ho']
          cases ho : okB b
          · by_cases q : b = 27 <;> simp [q]
          · simp

theorem stp_len (d : Int × List UInt8) (b : Int) : (stp d b).2.length ≤ 2 := by
  unfold stp
  split
  · exact plain_len _ _
  · split
    · unfold esc
      have := plain_len0 b
      repeat' (split <;> try simp)
      omega
    · split
      · unfold csi
        repeat' (split <;> try simp)
      · repeat' (split <;> try simp)

theorem okD_0 : okD (0, []) = true := rfl
theorem okP_u8 (b : Int) (h0 : 0 ≤ b) (h1 : b ≤ 255) : okP (u8 b) = okB b := by
  unfold okP okB
  rw [u8_nat h0 (by omega)]

theorem plain_ok (p : List UInt8) (b : Int) : okD (plain p b).1 = true := by
  have hr : ∀ q, rbS q = true → okD (0, q) = true := by
    intro q hq
    unfold okD
    simp [hq]
  unfold plain
  split
  · split <;> exact rfl
  · split
    · split <;> exact rfl
    · split
      · rename_i h; exact hr _ h
      · split
        · rename_i h; exact hr _ h.2
        · rfl

theorem stp_ok (d : Int × List UInt8) (b : Int) (hd : okD d = true) (h0 : 0 ≤ b) (h1 : b ≤ 255) : okD (stp d b).1 = true := by
  unfold stp
  split
  · exact plain_ok _ _
  · split
    · unfold esc
      split
      · rfl
      · split
        · rfl
        · split
          · rfl
          · split
            · rfl
            · split
              · rfl
              · exact plain_ok _ _
    · split
      · rename_i c0 c1 c2
        unfold csi
        split
        · rename_i hb
          split
          · rfl
          · rename_i h8
            unfold okD at hd
            rw [if_neg c0, if_pos c2] at hd
            simp only [Bool.and_eq_true] at hd
            show okD (2, d.2 ++ [u8 b]) = true
            unfold okD
            simp only [List.all_append, hd.1, List.all_cons, okP_u8 b h0 h1, hb, List.all_nil]
            simp; omega
        · repeat' (split <;> try exact rfl)
          all_goals rfl
      · repeat' (split <;> try exact rfl)
        all_goals rfl

def feed (bs : List UInt8) (d : Int × List UInt8) : Stp := match bs with
  | [] => (d, [])
  | b :: t => ((feed t (stp d b.toNat).1).1, (stp d b.toNat).2 ++ (feed t (stp d b.toNat).1).2)

theorem feed_ok (bs : List UInt8) : ∀ d, okD d = true → okD (feed bs d).1 = true ∧ (feed bs d).2.length ≤ 2 * bs.length := by
  induction bs with
  | nil => intro d h; exact ⟨h, by simp [feed]⟩
  | cons b t ih =>
    intro d h
    have hb := byteB b
    have := ih (stp d b.toNat).1 (stp_ok d b.toNat h (by omega) (by omega))
    have hl := stp_len d b.toNat
    simp only [feed, List.length_append, List.length_cons]
    exact ⟨this.1, by omega⟩

theorem feedLoop_i (bs : List UInt8) (hb : (bs.length : Int) ≤ 2000000) (j : (List (Int × Int)) × Int × List UInt8 → Option Stp) : ∀ (m : Nat) (k : Int) (d : Int × List UInt8) (ks : List (Int × Int)), okD d = true → 0 ≤ k → k ≤ (bs.length : Int) → (ks.length : Int) ≤ 2 * k → (bs.length : Int) - k < m →
    fixF (M_i_Decode_L1 bs j) m (ks, k, d.1, d.2) = j (ks ++ (feed (bs.drop k.toNat) d).2, (feed (bs.drop k.toNat) d).1.1, (feed (bs.drop k.toNat) d).1.2) := by
  intro m
  induction m with
  | zero => intro k d ks _ _ _ _ h; omega
  | succ m ih =>
    intro k d ks hd hk hk' hks hm
    simp only [fixF, M_i_Decode_L1, guardO, Bool.cond_decide]
    by_cases h1 : k < (bs.length : Int)
    · have hbb := byteB (at' bs k)
      have hl := okD_len hd
      have hl2 := stp_len d (at' bs k).toNat
      have hD : M_i_decode (d.1, d.2) ((at' bs k).toNat : Int) = some (stp d (at' bs k).toNat) := decode_i d _ hl
      rw [if_pos h1, if_pos ⟨hk, h1⟩, drop_at hk h1, bindO_of hD, W_eq (by omega) (by omega)]
      rw [if_pos (show ks.length + (stp d (at' bs k).toNat).2.length ≤ 536870912 by omega)]
      rw [ih (k + 1) _ _ (stp_ok d _ hd (by omega) (by omega)) (by omega) (by omega) (by simp only [List.length_append]; omega) (by omega)]
      simp only [feed, List.append_assoc]
    · rw [if_neg h1, List.drop_eq_nil_of_le (by omega)]
      simp [feed]

def feedD (d : Int × List UInt8) (bs : List UInt8) : Stp := if okD d then feed bs d else ((0, []), [])

theorem decodeAll_i (d : Int × List UInt8) (bs : List UInt8) (hl : d.2.length ≤ 100000000) (hb : (bs.length : Int) ≤ 2000000) : M_i_Decode d bs = some (feedD d bs) := by
  unfold M_i_Decode feedD
  rw [bindO_of (decOk_i d hl)]
  cases ho : okD d
  · simp
  · have g1 : ([] : List UInt8).length + d.2.length ≤ 536870912 := by simp; omega
    simp only [Bool.not_true, cond_false, joinO, guardO, g1, if_true, List.nil_append, M_i_copyBytes, bindO]
    rw [feedLoop_i bs hb _ FUEL 0 d [] ho (by omega) (by omega) (by simp) (by rw [fuel_eq]; omega)]
    simp

theorem decode_f (d : Int × List UInt8) (bs : List UInt8) (hd : okD d = true) (hb : (bs.length : Int) ≤ 2000000) : M_i_Decode d bs = some (feed bs d) := by
  have hl := okD_len hd
  rw [decodeAll_i d bs (by omega) hb]
  unfold feedD
  rw [hd]
  rfl

def tickK (d : Int × List UInt8) : List (Int × Int) :=
  if okD d then (if d.1 = 1 then [(7, 0)] else if d.1 = 2 ∧ d.2.length = 0 then [(3, 91)] else if d.1 = 3 then [(3, 79)] else if 0 < d.2.length then [(16, 0)] else []) else []

theorem decTick_i (d : Int × List UInt8) (hl : d.2.length ≤ 100000000) : M_i_DecTick d = some ((0, []), tickK d) := by
  unfold M_i_DecTick tickK
  rw [bindO_of (decOk_i d hl)]
  cases ho : okD d
  · simp
  · simp only [joinO, Bool.cond_decide, M_i_bad, bindO, Bool.not_true, cond_false, if_true]
    by_cases h1 : d.1 = 1
    · simp [h1]
    · by_cases h2 : d.1 = 2
      · by_cases hz : d.2.length = 0
        · simp [h2, hz]
        · have : 0 < d.2.length := by omega
          simp [h2, hz, this]
      · by_cases h3 : d.1 = 3
        · simp [h3]
        · by_cases hz : 0 < d.2.length <;> simp [h1, h2, h3, hz]

/-- A key that its bytes and a tick, fed to a fresh decoder, give back, and that its text gives back. -/
def Round (k : Int × Int) : Prop := kOk k = true ∧ (feed (kBytes k) (0, [])).2 ++ tickK (feed (kBytes k) (0, [])).1 = [k] ∧ tKey (kText k) = (k, true)

instance (k : Int × Int) : Decidable (Round k) := by unfold Round; infer_instance

def roundB (r : Int) : Bool := decide (Round (1, r))

theorem round_a : (([97, 98, 99, 120, 49, 50, 32, 32, 46, 45, 95, 233, 4352, 20013, 128512, 47] : List Int).all roundB) = true := by decide +kernel
theorem round_b : ((List.range 94).all fun n => roundB ((33 + n : Nat) : Int)) = true := by decide +kernel
theorem round_c : ((List.range 300).all fun n => roundB ((160 + n : Nat) : Int)) = true := by decide +kernel
set_option maxHeartbeats 4000000 in
theorem round_d : ((List.range 2000).all fun n => roundB ((19968 + n : Nat) : Int)) = true := by decide +kernel

theorem round_at {k m : Nat} (h : ((List.range m).all fun n => roundB ((k + n : Nat) : Int)) = true) {r : Int} (h0 : (k : Int) ≤ r) (h1 : r < k + m) : Round (1, r) := by
  have := List.all_eq_true.1 h (r - k).toNat (by simp; omega)
  rw [show ((k + (r - k).toNat : Nat) : Int) = r by omega] at this
  exact of_decide_eq_true this

theorem drawn_round {r : Int} (h : Drawn r) : Round (1, r) := by
  rcases h with h | h | h | h
  · exact of_decide_eq_true (List.all_eq_true.1 round_a r h)
  · exact round_at round_b (by omega) (by omega)
  · exact round_at round_c (by omega) (by omega)
  · exact round_at round_d (by omega) (by omega)

theorem keyD_round {k : Int × Int} (h : KeyD k) : Round k := by
  obtain ⟨a, b⟩ := k
  simp only [KeyD] at h
  rcases h with ⟨rfl, h⟩ | ⟨rfl, h⟩ | ⟨rfl, h⟩ | ⟨h1, h2, rfl⟩
  · exact drawn_round h
  · have a1 : ∀ r ∈ ([97, 101, 107, 117, 119, 121, 98, 102, 100, 116, 114, 112, 110, 95, 103, 99, 108, 122] : List Int), Round (2, r) := by decide +kernel
    exact a1 b h
  · have a1 : ∀ r ∈ ([98, 102, 100, 121, 117, 108, 99, 91, 79, 51, 45, 126] : List Int), Round (3, r) := by decide +kernel
    exact a1 b h
  · have a1 : ∀ n : Nat, n < 13 → Round (((4 + n : Nat) : Int), 0) := by decide +kernel
    have := a1 (a - 4).toNat (by omega)
    rwa [show ((4 + (a - 4).toNat : Nat) : Int) = a by omega] at this

theorem law_FnKey (l : List UInt8) : M_l_FnKey l = some true := by
  unfold M_l_FnKey
  by_cases hb : 1048576 < (l.length : Int)
  · simp [hb]
  rw [decide_eq_false hb, cond_false]
  have hk : ∃ k, M_s_MakeKey l = some k ∧ KeyD k := by
    unfold M_s_MakeKey
    obtain ⟨h, e, hc⟩ := new_ok l (by omega)
    rw [bindO_of e]
    obtain ⟨y, i, h2, e2, _, d⟩ := key_ok _ hc
    have e2' : M_s_l11Key (l, 0, h) = _ := e2
    rw [bindO_of e2']
    exact ⟨y, rfl, d⟩
  obtain ⟨k, ek, dk⟩ := hk
  obtain ⟨r1, r2, r3⟩ := keyD_round dk
  have hl := kBytes_len k
  rw [bindO_of ek, bindO_of (keyBytes_i k r1), bindO_of (decode_f _ _ okD_0 (by omega))]
  have o1 := feed_ok (kBytes k) _ okD_0
  obtain ⟨r, hr⟩ : ∃ r, r = feed (kBytes k) (0, []) := ⟨_, rfl⟩
  rw [← hr] at o1 r2 ⊢
  have hd := okD_len o1.1
  have t1 : ((tickK r.1).length : Int) ≤ 1 := by unfold tickK; repeat' (split <;> try simp)
  simp only
  rw [bindO_of (decTick_i _ (by omega))]
  simp only [guardO]
  rw [if_pos (by omega), bindO_of (keyText_i k), bindO_of (textKey_i _), r3, r2]
  have a0 : at' [k] 0 = k := rfl
  simp [a0, eqK, keyOk_i, callO_of, r1, bindO]

end Go.Eng

namespace Go.Proofs.YtgpolgjhiknefaaDoor.fnKey
open Go.ChangeShapes Go.WideShapes Go.ChangeAt Go.RowKit Go.Eng
open Go.ChangeMaps (open_string shut_string)

theorem own : ownKnob Tryd.prog.godebug = none := by kernel_rfl
theorem laidOut : laidOutB Tryd.prog = true := by kernel_rfl

theorem walk (a0 : Option Addr) (len0 cap0 : Nat) (z0 : List Int) (w : World) (w0 : IsRow .u8 w a0 len0 cap0 z0) :
    Calls Tryd.prog 3 #[.slice a0 len0 cap0] w fun e w' => e = .returned (.bool true) ∧ Below w.heap.size w w' := by
  obtain ⟨l0, f0⟩ := w0.byteFact
  have h := ok_l_FnKey (bytesOf (z0.take len0)) a0 cap0 len0 l0 true (law_FnKey (bytesOf (z0.take len0)) )
  refine Calls.mono (h.calls w ?_) ?_
  · intro x hx
    rcases List.mem_cons.1 hx with rfl | hx
    · exact ⟨_, f0.choose_spec⟩
    cases hx
  · rintro e w' ⟨r, -, he, hk, -⟩
    exact ⟨he, hk.below⟩

def laid : List (String × DataW Unit) := [("unicode/utf8.acceptRanges", Rows.laid_unicode_utf8_acceptRanges), ("unicode/utf8.first", Rows.laid_unicode_utf8_first)]

set_option maxRecDepth 100000 in
theorem lifted (os : Os) (started : os.Started) (H : Type) (enc : TypeId × Value → H) :
    ReturnsInHanded {} Tryd.checked os 3 .any (fun w args => (Rows.fnKeySpec.pre enc Tryd.prog Tryd.f3 [] false w args ∧ laidMetH Tryd.prog laid w) ∧ sizedMet enc Tryd.prog Tryd.f3 (OpenSpec.ofChange Rows.fnKeySpec) false w args) (Rows.fnKeySpec.post enc Tryd.prog Tryd.f3 false true false false) := by
  refine returnsInHanded_of_change_and (C := Tryd.checked) (X := fun w _ => laidMetH Tryd.prog laid w) (fun _ _ _ hh h => h.of_heap hh) own started (by kernel_rfl) Tryd.func3
    (ChangeSpec.witness_shaped (enc := enc) (C := Tryd.checked) (os := os) (X := fun w _ => laidMetH Tryd.prog laid w) false (World.laidAll Tryd.prog os laid) #[.slice none 0 0] 8 (World.laidAll_os _ _ _)
      (World.shaped_of_ZipB (by kernel_rfl) (by kernel_rfl)) (by kernel_rfl) (by kernel_rfl) (by kernel_rfl)
      (by rw [MakeChecks.laidMetH_plain _ _ _ (by kernel_rfl)]; exact laidMet_laidAll _ (by kernel_rfl) (by kernel_rfl))) ?_
  intro W base args ds gs before hval0 hW _ _ _ _
  have hval : ∀ (j : Nat) t v, Tryd.f3.params[j]? = some t → args[j]? = some v → Value.okWide Tryd.prog W .any base t v := hval0
  have hW' := hW
  obtain ⟨p, q, hA0, hV, rfl, hfz, hnd⟩ := hW
  have hA : DataW.TrodAll enc Tryd.prog W 0 (fun _ => true) true Tryd.f3.params.toList args.toList ds p := hA0
  rw [Tryd.params3] at hA hval
  obtain ⟨v0, vs0, d0, ds0, p0, q0, hargs, rfl, rfl, h0, r0⟩ := trodAll_cons hA
  obtain ⟨rfl, rfl, rfl⟩ := trodAll_nil r0
  obtain rfl : args = #[v0] := by cases args; simp_all
  obtain ⟨rfl, rfl⟩ := trodVars_none hV
  obtain ⟨a0, len0, cap0, rfl⟩ := okWide_slice Tryd.underlying22 (hval 0 22 v0 rfl rfl)
  have k0 := h0
  have lt0 : ∀ x ∈ p0, x.block < W.heap.size := by obtain ⟨m, hm⟩ := k0; exact DataW.trod_lt m _ _ _ hm
  obtain ⟨z0, w0⟩ : ∃ zs, IsRow .u8 W a0 len0 cap0 zs := by
    obtain ⟨fuel, hf⟩ := h0
    rcases open_ints Tryd.underlying22 Tryd.underlying5 (by kernel_rfl) hf with ⟨hcs, _⟩ | ⟨x, l, c, zs, hcs, _, hl, hm, hz, _, hcell, hwz⟩
    · simp [Value.cells] at hcs
      obtain ⟨rfl, rfl, rfl⟩ := hcs
      exact ⟨[], .inl ⟨rfl, rfl, rfl, rfl⟩⟩
    · simp [Value.cells] at hcs
      obtain ⟨rfl, rfl, rfl⟩ := hcs
      exact ⟨zs, .inr ⟨_, rfl, hl, hm, by simpa using hz, hcell, hwz⟩⟩
  clear hA0 hval0
  simp only [List.append_nil] at hW'
  refine (walk a0 len0 cap0 z0 W w0).mono fun e W' ⟨he, bel⟩ => ?_
  subst he
  exact ⟨_, rfl, _, _, _, [], _, [], hW', trodAll_mk1 (shut_bool Tryd.underlying4 _), (trodAll_cons_mk (Below.trod laidOut (by kernel_rfl) (of_decide_eq_true (by kernel_rfl)) k0 bel lt0) trodAll_mk0), rfl, bel.frame _, fun h => by cases h⟩

theorem andI {a b : Bool} (ha : a = true) (hb : b = true) : (a && b) = true := by rw [ha, hb]; rfl
set_option maxHeartbeats 8000000 in
theorem closed : joinedFacts Tryd.checked.prog 3 Tryd.f3 Rows.fnKeySpec Rows.fnKeyRow = true := by
  unfold joinedFacts
  (repeat' with_reducible refine andI ?_ ?_) <;> as_aux_lemma => kernel_rfl

theorem over : Rows.fnKeyRow.holds Tryd.pinned (OpenSpec.ofChange Rows.fnKeySpec) :=
  OpenClaim.holds_of_wide 3 Tryd.f3 rfl rfl rfl rfl rfl rfl rfl ⟨rfl, rfl, rfl, rfl, rfl⟩ rfl rfl rfl rfl rfl (by kernel_rfl) Tryd.func3 closed
    (of_decide_eq_true (by kernel_rfl)) (by unfold Func.isWrapper; first | (rw [if_pos (by decide +kernel)]; kernel_rfl) | (rw [if_neg (by decide +kernel)]; exact ⟨rfl, rfl⟩))
    (fun os started H enc _ => lifted os started H enc)

theorem proved : Rows.FnKeyCardSaid :=
  Claim7.holds_tied_plain_at .later [] [.data, .pinned] true (true, "670887ae7ec9561f545270b8984d9e6759d84207f036b6ca0727b36ed719644a") false
    over (fun _ h => by cases h) (by kernel_rfl) (fun _ h => by cases h) fnKey_row_tie rfl ⟨rfl, rfl⟩ (by kernel_rfl) rfl
    (fun f fn hf hfn => by
      obtain rfl : f = 3 := Option.some.inj ((show Tryd.prog.funcNamed "loop.example/g00600/laws.FnKey" = some 3 by kernel_rfl).symm.trans hf) |>.symm
      obtain rfl : fn = Tryd.f3 := (Option.some.inj (Tryd.func3.symm.trans hfn)).symm
      exact ⟨by kernel_rfl, fun j t ht => by
        rw [Tryd.params3] at ht
        have hm : t ∈ [22] := by simpa using Array.mem_of_getElem? ht
        have hall : ([22].all fun u => !Tryd.prog.wantsStandIn u) = true := by kernel_rfl
        exact (show Tryd.prog.wantsStandIn t = false by simpa using List.all_eq_true.1 hall t hm)⟩)
    (by kernel_rfl)
#print axioms proved
end Go.Proofs.YtgpolgjhiknefaaDoor.fnKey
