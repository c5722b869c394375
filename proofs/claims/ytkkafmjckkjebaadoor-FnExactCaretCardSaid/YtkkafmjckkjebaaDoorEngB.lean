/- The engine: what a step, a loop, a call of the model does, told of known slots and of known slices. No condition. -/
import Derived.Test.YtkkafmjckkjebaaDoorEngA
set_option linter.unusedSimpArgs false
set_option linter.unusedVariables false
namespace Go.Eng
open Go Go.RowKit

def fldsOk (ok : TypeId → Ty → Bool) (P : Program) : List Field → Nat → Ty → Bool
  | [], _, _ => false
  | f :: fs, off, τ => match fs, τ with
    | [], τ => Nat.beq f.offset off && ok f.type τ && Nat.beq (P.cellsOf f.type) τ.size
    | fs, .pair a b => Nat.beq f.offset off && ok f.type a && Nat.beq (P.cellsOf f.type) a.size && fldsOk ok P fs (off + a.size) b
    | _, _ => false

/-- The type t reads as τ. -/
def tyOk (P : Program) : Nat → TypeId → Ty → Bool
  | 0, _, _ => false
  | n + 1, t, τ => match P.underlying t with
    | some .bool => match τ with | .bool => true | _ => false
    | some (.int k) => match τ with | .int k' => k == k' | .byte => k == .u8 | _ => false
    | some .string => match τ with | .str => true | _ => false
    | some (.slice e) => match τ with | .sl τ' => tyOk P n e τ' && Nat.beq (P.cellsOf e) τ'.size && Nat.blt 0 τ'.size | _ => false
    | some (.struct fs) => Nat.beq (P.cellsOf t) τ.size && fldsOk (tyOk P n) P fs.toList 0 τ
    | _ => false

def WfT : (t : Ty) → t.den → Prop
  | .int k, x => (Lit.int k x).wf = true
  | .byte, _ => True
  | .bool, _ => True
  | .str, x => x.length ≤ maxLen
  | .val, _ => True
  | .alt _, _ => False
  | .both _, _ => False
  | .sl t, xs => xs.length ≤ maxLen ∧ ∀ x ∈ xs, WfT t x
  | .pair a b, x => WfT a x.1 ∧ WfT b x.2

section
variable {H : Type} {enc : TypeId × Value → H} {P : Program} {w : World}

theorem cells_each {a : Addr} {n : Nat} {cs : List Value} (h : w.cells? 0 a n = some cs) : cs.length = n ∧ ∀ j, j < n → w.cell? (a.add j) = cs[j]? := by
  unfold World.cells? at h
  rw [if_pos (Nat.zero_le _)] at h
  refine ⟨by simpa using mapM_some_length h, fun j hj => ?_⟩
  have := mapM_some_get h j j (by simp [hj])
  exact this

theorem row_cells {x : Addr} {c : Array Value} {ty : TypeId} {fz : Nat × Nat} (hb : w.heap[x.block]? = some (.cells c ty fz)) (hs : x.spot = none) (k : Nat) : w.cell? (x.add k) = c[x.off + k]? := by
  have hx : x.add k = ⟨x.block, x.off + k, none⟩ := by
    unfold Addr.add
    split
    · rename_i h; subst h; cases x; simp_all
    · rfl
  rw [hx]
  simp [World.cell?, hb]

theorem flds_rep {ok : TypeId → Ty → Bool} {m : Nat} {held : Bool}
    (ih : ∀ (t : TypeId) (τ : Ty) (cs : List Value) (x : DataW H × List MemPlace), ok t τ = true → DataW.trod enc P w 0 (fun _ => true) held m t cs = some x → ∃ (v : τ.den) (L : List Nat), Rep false w τ cs v L ∧ WfT τ v) (all : List Value) :
    ∀ (fs : List Field) (off : Nat) (τ : Ty), fldsOk ok P fs off τ = true → (∀ f ∈ fs, ∃ x, DataW.trod enc P w 0 (fun _ => true) held m f.type ((all.drop f.offset).take (P.cellsOf f.type)) = some x) →
      ∃ (v : τ.den) (L : List Nat), Rep false w τ ((all.drop off).take τ.size) v L ∧ WfT τ v
  | [], off, τ, h, _ => by simp [fldsOk] at h
  | [f], off, τ, h, hx => by
    simp only [fldsOk, Bool.and_eq_true] at h
    obtain ⟨⟨h1, h2⟩, h3⟩ := h
    obtain ⟨x, hx⟩ := hx f (by simp)
    have e1 := Nat.eq_of_beq_eq_true h1
    have e3 := Nat.eq_of_beq_eq_true h3
    rw [e1, e3] at hx
    exact ih _ _ _ x h2 hx
  | f :: g :: fs, off, τ, h, hx => by
    cases τ with
    | pair a b =>
      simp only [fldsOk, Bool.and_eq_true] at h
      obtain ⟨⟨⟨h1, h2⟩, h3⟩, h4⟩ := h
      obtain ⟨x, hx0⟩ := hx f (by simp)
      have e1 := Nat.eq_of_beq_eq_true h1
      have e3 := Nat.eq_of_beq_eq_true h3
      rw [e1, e3] at hx0
      obtain ⟨v1, L1, r1, q1⟩ := ih _ _ _ x h2 hx0
      obtain ⟨v2, L2, r2, q2⟩ := flds_rep ih all (g :: fs) (off + a.size) b h4 (fun f' hf' => hx f' (List.mem_cons_of_mem _ hf'))
      refine ⟨(v1, v2), L1 ++ L2, ⟨_, _, L1, L2, ?_, rfl, r1, r2⟩, q1, q2⟩
      simp only [Ty.size]
      rw [← List.drop_drop, List.take_add]
    | int k => simp [fldsOk] at h
    | byte => simp [fldsOk] at h
    | bool => simp [fldsOk] at h
    | str => simp [fldsOk] at h
    | val => simp [fldsOk] at h
    | alt _ => simp [fldsOk] at h
    | both _ => simp [fldsOk] at h
    | sl t => simp [fldsOk] at h

theorem trod_rep {held : Bool} : ∀ (n : Nat) (m : Nat) (t : TypeId) (τ : Ty) (cs : List Value) (x : DataW H × List MemPlace), tyOk P n t τ = true → DataW.trod enc P w 0 (fun _ => true) held m t cs = some x →
    ∃ (v : τ.den) (L : List Nat), Rep false w τ cs v L ∧ WfT τ v := by
  intro n
  induction n with
  | zero => intro m t τ cs x h; simp [tyOk] at h
  | succ n ih =>
    intro m t τ cs x h hx
    simp only [tyOk] at h
    split at h
    · rename_i hu
      obtain ⟨b, rfl, _⟩ := DataW.trod_bool hu hx
      cases τ <;> simp at h
      exact ⟨b, [], ⟨rfl, rfl⟩, trivial⟩
    · rename_i k hu
      obtain ⟨z, rfl, _, hw⟩ := DataW.trod_int hu hx
      cases τ with
      | int k' =>
        simp at h; subst h
        exact ⟨z, [], ⟨rfl, rfl⟩, hw⟩
      | byte =>
        simp at h; subst h
        refine ⟨UInt8.ofNat z.toNat, [], ⟨?_, rfl⟩, trivial⟩
        have : 0 ≤ z ∧ z ≤ 255 := by simpa [Lit.wf, IntKind.min, IntKind.max, IntKind.signed, IntKind.bits] using hw
        simp; omega
      | _ => simp at h
    · rename_i hu
      obtain ⟨s, rfl, _, hs⟩ := DataW.trod_string hu hx
      cases τ <;> simp at h
      exact ⟨s.data.toList, [], ⟨by simp [bs], rfl⟩, by simpa [WfT] using hs⟩
    · rename_i e hu
      cases τ with
      | sl τ' =>
        simp only [Bool.and_eq_true] at h
        obtain ⟨⟨h1, h2⟩, h3⟩ := h
        have e2 := Nat.eq_of_beq_eq_true h2
        have e3 : 0 < τ'.size := by simpa [Nat.blt_eq] using h3
        rcases DataW.trod_slice hu hx with ⟨rfl, _⟩ | ⟨a, len, cap, elems, rest, m', rfl, rfl, _, _, hlc, hcm, hel, hget, hsp, _⟩
        · exact ⟨[], [], ⟨⟨none, 0, 0⟩, rfl, rfl, .inl ⟨rfl, rfl, rfl⟩⟩, by simp [WfT]⟩
        · obtain ⟨hr1, hr2⟩ := hsp rfl
          rw [e2] at hget hr2
          have hrow : ∀ i, i < cap → ∃ ci, w.cells? 0 (a.add (i * τ'.size)) τ'.size = some ci ∧ ∃ y, DataW.trod enc P w 0 (fun _ => true) held m' e ci = some y := by
            intro i hi
            by_cases hil : i < len
            · have h5 := hget i hil
              rw [List.getElem?_eq_getElem (by omega)] at h5
              obtain ⟨ci, g1, g2⟩ := Option.bind_eq_some_iff.1 h5
              exact ⟨ci, g1, _, g2⟩
            · have h5 := hr2 (i - len) (by omega)
              rw [List.getElem?_eq_getElem (by omega)] at h5
              obtain ⟨ci, g1, g2⟩ := Option.bind_eq_some_iff.1 h5
              have : len + (i - len) = i := by omega
              rw [this] at g1
              exact ⟨ci, g1, _, g2⟩
          by_cases hc0 : cap = 0
          · subst hc0
            have : len = 0 := by omega
            subst this
            exact ⟨[], [], ⟨⟨some a, 0, 0⟩, rfl, rfl, .inl ⟨rfl, rfl, rfl⟩⟩, by simp [WfT]⟩
          · obtain ⟨c0, hc1, _⟩ := hrow 0 (by omega)
            obtain ⟨l0, g0⟩ := cells_each hc1
            have hcell0 := g0 0 e3
            rw [List.getElem?_eq_getElem (by omega)] at hcell0
            have hadd0 : (a.add (0 * τ'.size)).add 0 = a := by simp [Addr.add]
            rw [hadd0] at hcell0
            obtain ⟨c, ty, fz, hb, hs, _⟩ := cell_block hcell0
            have hcs : ∀ i ci, w.cells? 0 (a.add (i * τ'.size)) τ'.size = some ci → ci.length = τ'.size ∧ ∀ j, j < τ'.size → c[a.off + i * τ'.size + j]? = ci[j]? := by
              intro i ci hi
              obtain ⟨l1, g1⟩ := cells_each hi
              refine ⟨l1, fun j hj => ?_⟩
              rw [← g1 j hj]
              have hs' : (a.add (i * τ'.size)).spot = none := by unfold Addr.add; split <;> simp [hs]
              have hb' : w.heap[(a.add (i * τ'.size)).block]? = some (.cells c ty fz) := by unfold Addr.add; split <;> simpa using hb
              have ho' : (a.add (i * τ'.size)).off = a.off + i * τ'.size := by
                unfold Addr.add; split
                · rename_i h0; simp [h0]
                · rfl
              rw [row_cells hb' hs' j, ho']
            have hel' : ∀ i ci, w.cells? 0 (a.add (i * τ'.size)) τ'.size = some ci → elemCells c a.off τ'.size i = ci := by
              intro i ci hi
              obtain ⟨l1, g1⟩ := hcs i ci hi
              apply List.ext_getElem?
              intro j
              unfold elemCells
              rw [List.getElem?_take]
              by_cases hj : j < τ'.size
              · rw [if_pos hj, List.getElem?_drop, ← g1 j hj]
                simp
              · rw [if_neg hj, List.getElem?_eq_none (by omega)]
            have hsize : a.off + cap * τ'.size ≤ c.size := by
              obtain ⟨ci, g1, _⟩ := hrow (cap - 1) (by omega)
              obtain ⟨l1, g2⟩ := hcs _ ci g1
              have g3 := g2 (τ'.size - 1) (by omega)
              rw [List.getElem?_eq_getElem (by omega)] at g3
              have := (Array.getElem?_eq_some_iff.1 g3).1
              have hm : (cap - 1) * τ'.size + τ'.size = cap * τ'.size := by
                rw [← Nat.succ_mul]; congr 1; omega
              omega
            have hex : ∀ i, i < len → ∃ (p : τ'.den × List Nat), Rep false w τ' (elemCells c a.off τ'.size i) p.1 p.2 ∧ WfT τ' p.1 := by
              intro i hi
              obtain ⟨ci, g1, y, g2⟩ := hrow i (by omega)
              obtain ⟨v, L, r1, r2⟩ := ih m' e τ' ci y h1 g2
              rw [hel' i ci g1]
              exact ⟨(v, L), r1, r2⟩
            obtain ⟨ps, p1, p2⟩ := choose_list hex
            have hxa : a = ⟨a.block, a.off, none⟩ := by cases a; simp_all
            refine ⟨ps.map (·.1), a.block :: (ps.map (·.2)).flatten, ⟨⟨some a, len, cap⟩, rfl, by simp [p1], .inr ⟨a.block, a.off, c, ty, fz, ps.map (·.2), by simp only; rw [← hxa], hb, hlc, hsize, by simp, rfl, by simp, ?_⟩⟩, ?_⟩
            · intro i hi hi'
              simp only [List.length_map] at hi
              simp only [List.getElem_map]
              exact (p2 i hi).1
            · simp only [WfT, List.length_map, p1]
              refine ⟨by omega, ?_⟩
              intro z hz
              obtain ⟨q, hq, rfl⟩ := List.mem_map.1 hz
              obtain ⟨i, hi, rfl⟩ := List.mem_iff_getElem.1 hq
              exact (p2 i hi).2
      | _ => simp at h
    · rename_i fs hu
      simp only [Bool.and_eq_true] at h
      obtain ⟨h1, h2⟩ := h
      have e1 := Nat.eq_of_beq_eq_true h1
      obtain ⟨xs, m', rfl, _, hl, hxl, hget⟩ := DataW.trod_struct hu hx
      obtain ⟨v, L, r1, r2⟩ := flds_rep (held := held) (m := m') (fun t τ cs x => ih m' t τ cs x) cs fs.toList 0 τ h2 (by
        intro f hf
        obtain ⟨i, hi, rfl⟩ := List.mem_iff_getElem.1 hf
        have := hget i fs.toList[i] (by simp)
        rw [List.getElem?_eq_getElem (by simp at hi; omega)] at this
        exact ⟨_, this⟩)
      refine ⟨v, L, ?_, r2⟩
      rw [List.drop_zero, List.take_of_length_le (by omega)] at r1
      exact r1
    · cases h

/-- The cells of an argument, told of the addresses of its slices. -/
theorem rep_open {τ : Ty} {cs : List Value} {x : τ.den} {L : List Nat} (h : Rep false w τ cs x L) {G : Prop}
    (k : openK τ x fun y fs => flatC τ.sh y = some cs → (∀ f ∈ fs, ∃ L, f.rep false w L) → G) (hna : τ.noAlt = true := by rfl) : G := by
  obtain ⟨y, fs, h1, h2, h3⟩ := sh_rep hna h
  refine openK_sound k h1 ?_ fun f hf => ?_
  · have key : ∀ (τ : Ty) (cs : List Value) (y : τ.sh.den), τ.noAlt = true → Rep false w τ.sh cs y [] → flatC τ.sh y = some cs := by
      intro τ
      induction τ with
      | alt t _ => intro cs y hn; simp [Ty.noAlt] at hn
      | both t _ => intro cs y hn; simp [Ty.noAlt] at hn
      | int k => intro cs y _ h; have h' : Rep false w (.int k) cs y [] := h; show flatC (.int k) y = some cs; simp only [flatC]; rw [h'.1]
      | byte => intro cs y _ h; have h' : Rep false w (.byte) cs y [] := h; show flatC (.byte) y = some cs; simp only [flatC]; rw [h'.1]
      | bool => intro cs y _ h; have h' : Rep false w (.bool) cs y [] := h; show flatC (.bool) y = some cs; simp only [flatC]; rw [h'.1]
      | str => intro cs y _ h; have h' : Rep false w (.str) cs y [] := h; show flatC (.str) y = some cs; simp only [flatC]; rw [h'.1]
      | val => intro cs y _ h; have h' : Rep false w .val cs y [] := h; show flatC .val y = some cs; simp only [flatC]; rw [h'.1.1]
      | sl t _ => intro cs y _ h; have h' : Rep false w .val cs y [] := h; show flatC .val y = some cs; simp only [flatC]; rw [h'.1.1]
      | pair a b iha ihb =>
        intro cs y hn h
        simp only [Ty.noAlt, Bool.and_eq_true] at hn
        obtain ⟨c1, c2, L1, L2, e1, e2, r1, r2⟩ := (h : Rep false w (.pair a.sh b.sh) cs y [])
        have e3 := List.append_eq_nil_iff.1 e2.symm
        obtain ⟨rfl, rfl⟩ := e3
        show (match flatC a.sh y.1, flatC b.sh y.2 with | some l, some m => some (l ++ m) | _, _ => none) = some cs
        rw [iha _ _ hn.1 r1, ihb _ _ hn.2 r2, e1]
    exact key τ cs y hna h2
  · obtain ⟨M, hM, _⟩ := h3.mem hf
    exact ⟨M, hM⟩
end
end Go.Eng

set_option linter.unusedSimpArgs false
set_option linter.unusedVariables false
namespace Go.Eng
open Go Go.RowKit

section
variable {c : Cx} {e : Env} {B : BL} {R O : List Fact} {stk : List SI}

variable {Λ : (Nat → Nat) → Prop} {K : Act → World → Prop} {Q : Exit → Act → World → Prop}

end
end Go.Eng

set_option linter.unusedSimpArgs false
set_option linter.unusedVariables false
namespace Go.Eng
open Go Go.RowKit

end Go.Eng

set_option linter.unusedSimpArgs false
set_option linter.unusedVariables false
namespace Go.Eng
open Go Go.RowKit

end Go.Eng

set_option linter.unusedSimpArgs false
set_option linter.unusedVariables false
namespace Go.Eng
open Go Go.RowKit

end Go.Eng

set_option linter.unusedSimpArgs false
set_option linter.unusedVariables false
namespace Go.Eng
open Go Go.RowKit

end Go.Eng

set_option linter.unusedSimpArgs false
set_option linter.unusedVariables false
namespace Go.Eng
open Go Go.RowKit

end Go.Eng

set_option linter.unusedSimpArgs false
set_option linter.unusedVariables false
namespace Go.Eng
open Go Go.RowKit

end Go.Eng

set_option linter.unusedSimpArgs false
set_option linter.unusedVariables false
namespace Go.Eng
open Go Go.RowKit

end Go.Eng

set_option linter.unusedSimpArgs false
set_option linter.unusedVariables false
namespace Go.Eng
open Go Go.RowKit

end Go.Eng

set_option linter.unusedSimpArgs false
set_option linter.unusedVariables false
namespace Go.Eng
open Go Go.RowKit

end Go.Eng

set_option linter.unusedVariables false
namespace Go.Eng
open Go Go.RowKit

structure FE (P : Program) (f : Nat) (vs : List Value) (pre : List Fact) (v : Value) : Prop where
  run : ∀ w, (∀ x ∈ pre, ∃ L, x.rep false w L) → (callFunc f vs.toArray).run P w = .ok (.value v) w

theorem run_callE {P : Program} {a : Act} {o : Oper} {f : Nat} {os : List Operand} {w : World} {v : Value} (h : callOf o = some (f, os)) (hr : (callFunc f (os.map a.eval).toArray).run P w = .ok (.value v) w) :
    (execOp a.eval o).run P w = .ok (.value v) w := by
  obtain ⟨d, op, ty, po, af, gu⟩ := o
  unfold callOf at h
  simp only at h
  split at h
  · rename_i c
    split at h
    · rename_i f' hc
      obtain ⟨ca, args, ts⟩ := c
      simp only [Option.some.injEq, Prod.mk.injEq] at h hc
      obtain ⟨rfl, rfl⟩ := h
      subst hc
      have e : execOp a.eval ⟨d, .call ⟨.value (.func f'), args, ts⟩, ty, po, af, gu⟩ = callFunc f' ((#[] ++ args.map a.eval) ++ #[]) := rfl
      have e2 : ((#[] ++ args.map a.eval) ++ #[] : Array Value) = (args.toList.map a.eval).toArray := by
        apply Array.ext'
        simp
      rw [e, e2, hr]
    · cases h
  · cases h

section
variable {c : Cx} {e : Env} {B : BL} {R O : List Fact} {stk : List SI}

theorem JO.ext {ops : Array Oper} {i : Nat} {o : Oper} (ho : ops.toList[i]? = some o) {f : Nat} {os : List Operand} (hc : callOf o = some (f, os)) {d : Nat} (hd : o.dst = some d)
    {G : List (Nat × Bool)} (hG : gpath ops.toList e o = some G) {vs : List Value} {pre : List Fact} {v : Value} (C : gImp e G (FE c.P f vs pre v)) (hvs : evvs e G os = some vs)
    (idx : List Nat) (hpre : getF (R ++ O) idx = some pre) (hput : (okPut c.nt e (.v v) d && notIn d G) = true)
    (k : JO c ops (i + 1) stk ((d, wrapG G (.v v)) :: e) B R O) : JO c ops i stk e B R O := by
  intro a w β hst
  obtain ⟨ho', hr⟩ := range'_cons ho
  rw [hr]
  simp only [Bool.and_eq_true] at hput
  refine step_pure hst ho' hG hd hput.1 (notIn_spec hput.2) (fun hH => ?_) (fun a' hs' => k a' w β hs')
  have hargs := evvs_sound hst.env hH hvs
  refine ⟨v, run_callE hc ?_, rfl⟩
  rw [hargs]
  exact (gImp_sound hst.env hH C).run w fun x hx => hst.inv.fact (getF_mem hpre x hx)

end

theorem FE.outer {P : Program} {f : FuncId} {fn : Func} {x : Array Value → Sem Value} {vs : List Value} {pre : List Fact} {v : Value} (hf : P.funcs[f]? = some fn) (hname : (fn.name == "runtime.NumGoroutine") = false)
    (hb : fn.body.isNone = true) (hn : Extern.findNext fn = none) (he : Extern.find fn = some x) (hr : ∀ w, (∀ x ∈ pre, ∃ L, x.rep false w L) → (x vs.toArray).run P w = .ok v w) : FE P f vs pre v := by
  refine ⟨fun w hw => ?_⟩
  rw [run_callFunc_extern hf hname hb hn he, hr w hw]
  rfl

/-- A variable's only cell. -/
theorem fact_var {w : World} {g : Nat} {m : Int} {L : List Nat} (h : (⟨.int .i64, ⟨some ⟨g, 0, none⟩, 1, 1⟩, [m]⟩ : Fact).rep false w L) : w.cell? ⟨g, 0, none⟩ = some (.int .i64 m) := by
  obtain ⟨b, off, c, ty, fz, L', h1, h2, _, _, _, _, _, h6⟩ := fact_cells h (j := 0) (x := m) rfl
  simp only [Option.some.injEq, Addr.mk.injEq, and_true] at h1
  obtain ⟨rfl, rfl⟩ := h1
  have h6' : elemCells c 0 1 0 = [.int .i64 m] := h6.1
  have := elem_get (c := c) (off := 0) (size := 1) (j := 0) (i := 0) (v := .int .i64 m) (by rw [h6']; rfl)
  simp only [World.cell?, h2]
  simpa using this

theorem var_fact {w : World} {g : Nat} {m : Int} {c : Array Value} {ty : TypeId} {fz : Nat × Nat} (h : w.heap[g]? = some (.cells c ty fz)) (hc : c[0]? = some (.int .i64 m)) : ∃ L, (⟨.int .i64, ⟨some ⟨g, 0, none⟩, 1, 1⟩, [m]⟩ : Fact).rep false w L := by
  refine ⟨[g], rfl, .inr ⟨g, 0, c, ty, fz, [[]], rfl, h, Nat.le_refl _, ?_, by simp, rfl, rfl, ?_⟩⟩
  · obtain ⟨h1, _⟩ := Array.getElem?_eq_some_iff.1 hc
    simp [Ty.size]; omega
  · intro i hi hi'
    have : i = 0 := by simp at hi; omega
    subst this
    have hl : c.toList[0]? = some (.int .i64 m) := by simpa using hc
    refine ⟨?_, rfl⟩
    unfold elemCells
    simp only [Ty.size]
    cases hq : c.toList with
    | nil => rw [hq] at hl; simp at hl
    | cons a t =>
      rw [hq] at hl
      simp at hl
      simp [hl]

theorem bs_size (l : List UInt8) : (bs l).size = l.length := by simp [bs, ByteArray.size]
theorem bs_data (l : List UInt8) : (bs l).data.toList = l := by simp [bs]
end Go.Eng

namespace Go.Eng
open Go Go.RowKit

/-- A variable of a whole number's type holds some number, in a world of the right shape. -/
theorem var_of_shape {P : Program} {w : World} {g : Nat} {t : TypeId} {zero : Array Value}
    (h : w.ShapedOpen P) (hg : g < P.globals.size) (h0 : ((begin P (fun _ _ => 0) default).world.heap[g]?).bind Obj.row? = some (zero, t)) (hz : zero.size = 1)
    (hb : P.buildable t = true) (hc : P.cellTypes P.depth t = some [t]) (hu : P.underlying t = some (.int .i64)) :
    ∃ (m : Int) (L : List Nat), (⟨.int .i64, ⟨some ⟨g, 0, none⟩, 1, 1⟩, [m]⟩ : Fact).rep false w L := by
  obtain ⟨m, hm⟩ := Go.Proofs.cell_of_shapedOpen_int h hg h0 hz hb hc hu
  refine ⟨m, ?_⟩
  unfold World.cell? at hm
  split at hm
  next c ty fz hh => exact var_fact hh (by simpa using hm)
  all_goals simp at hm
end Go.Eng

namespace Go
section
variable {H : Type} {enc : TypeId × Value → H}
/-- The road to a row's statement, with a condition and with the world's shape. -/
theorem returnsInHanded_of_and_shape {a : Assume} {C : Checked} {os : Os} {f : FuncId} {fn : Func} {s : ChangeSpec} {conds : List PathCond} {apart fresh handsOn again : Bool} {X : World → Array Value → Prop}
    (hX : ∀ (w w' : World) (args : Array Value), w.heap = w'.heap → X w args → X w' args)
    (own : ownKnob C.prog.godebug = none) (started : os.Started) (noInit : C.prog.inits.idxOf? f = none) (hfn : C.prog.funcs[f]? = some fn)
    (witness : ∃ (w : World) (tape : Tape) (i : Input), w.os = os ∧ (w.forCall tape i).Shaped C.prog ∧ i.vars = [] ∧ Input.okWide C.prog (w.forCall tape i) .any w.heap.size f i ∧
      ((s.pre enc C.prog fn conds apart (w.forCall tape i).memory i.args ∧ X (w.forCall tape i).memory i.args) ∧ sizedMet enc C.prog fn (OpenSpec.ofChange s) apart (w.forCall tape i).memory i.args) ∧ a.holds C.prog (lone (Frame.enter C.prog f i.args .normal) [] (w.forCall tape i)))
    (contract : ∀ (W : World) (base : Nat) (args : Array Value) (ds gs : List (DataW H)) (before : List MemPlace),
      W.ShapedOpen C.prog →
      (∀ (j : Nat) t v, fn.params[j]? = some t → args[j]? = some v → Value.okWide C.prog W .any base t v) →
      DataW.Whole enc C.prog fn.params.toList s.vars apart W args.toList ds gs before →
      conds.all (PathCond.test C.prog ⟨fn.params.toList, ds, s.plain.varTypes C.prog, gs⟩) = true →
      (DataW.weightsEach C.prog (fn.params.toList ++ s.plain.varTypes C.prog) (ds ++ gs)).all (· ≤ reachBytes) = true → X W args →
      a.holds C.prog (lone (Frame.enter C.prog f args .normal) [] W) →
      Calls C.prog f args W fun e W' => ∃ v, e = .returned v ∧ s.post enc C.prog fn apart fresh handsOn again W args v W') :
    ReturnsInHanded a C os f .any (fun w args => (s.pre enc C.prog fn conds apart w args ∧ X w args) ∧ sizedMet enc C.prog fn (OpenSpec.ofChange s) apart w args) (s.post enc C.prog fn apart fresh handsOn again) := by
  refine returnsInHanded_of_calls own started noInit witness ?_
  intro w tape i _ hsh _ hok hpre hholds
  obtain ⟨_, _, _, fn', hfn', _, _, _, _, hval⟩ := hok
  obtain rfl : fn' = fn := Option.some.inj (hfn'.symm.trans hfn)
  obtain ⟨⟨⟨ds, gs, before, hw, hc⟩, hx⟩, hz⟩ := hpre
  refine (contract (w.forCall tape i) w.heap.size i.args ds gs before hsh hval (DataW.Whole.of_heap (w' := w.forCall tape i) (by rfl) hw) hc (hz.weights hw) (hX _ _ _ (by rfl) hx) hholds).mono fun e W' hq => ?_
  obtain ⟨v, he, hp⟩ := hq
  subst he
  exact ChangeSpec.post_blind hp
end
end Go

namespace Go.Eng
open Go Go.RowKit

theorem Es : ∀ {d e : Env}, (d.map fun p => eget e p.1) = (d.map fun p => some p.2) → EnvSub d e
  | [], _, _ => trivial
  | (t, x) :: r, e, h => by
    simp only [List.map_cons, List.cons.injEq] at h
    exact ⟨h.1, Es h.2⟩

def bOk (B : BL) : List Nat → Bool
  | [] => true
  | k :: r => B.ids.any (Nat.beq k) && !r.any (Nat.beq k) && bOk B r

theorem Bs {B' B : BL} : ∀ {l : List Nat}, bOk B l = true → (l.map fun k => (B'.cells k, B'.ty k)) = (l.map fun k => (B.cells k, B.ty k)) → BSub B' B l
  | [], _, _ => trivial
  | k :: r, h1, h2 => by
    simp only [bOk, Bool.and_eq_true, Bool.not_eq_true'] at h1
    simp only [List.map_cons, List.cons.injEq, Prod.mk.injEq] at h2
    exact ⟨h1.1.1, h2.1.1, h2.1.2, h1.1.2, Bs h1.2 h2.2⟩

section
variable {c : Cx} {e : Env} {B : BL} {R O : List Fact} {stk : List SI}

theorem JS.rg (hT : TTok c.P c.T) {id : Nat} {ops : Array Oper} {b : Code} (n : Nat) (ws : List Int) (ks : List Nat) (d : Env) (B' : BL)
    (h : sx c.T c.nt ops.toList ((ops.toList.drop 0).take n) e B ws ks (fun e' B'' => EnvSub d e' ∧ B'' = B'))
    (hst : allIn (stale ((ops.toList.drop 0).take n) e) d = true) (hi : Nat.ble ops.size (0 + n) = true)
    (k : JS c (.c b :: stk) (d ++ e) B' R O) : JS c (.c (.seq (.region id ops false) b) :: stk) e B R O :=
  JS.seq (JS.region (JO.reg hT n ws ks d B' hst h (JO.done hi k)))

theorem JS.rg0 (hT : TTok c.P c.T) {id : Nat} {ops : Array Oper} {b : Code} (n : Nat) (d : Env)
    (h : sx c.T c.nt ops.toList ((ops.toList.drop 0).take n) e B [] [] (fun e' B'' => EnvSub d e' ∧ B'' = B))
    (hst : allIn (stale ((ops.toList.drop 0).take n) e) d = true) (hi : Nat.ble ops.size (0 + n) = true)
    (k : JS c (.c b :: stk) (d ++ e) B R O) : JS c (.c (.seq (.region id ops false) b) :: stk) e B R O :=
  JS.rg hT n [] [] d B h hst hi k

theorem JS.re (hT : TTok c.P c.T) {id : Nat} {ops : Array Oper} (n : Nat) (ws : List Int) (ks : List Nat) (d : Env) (B' : BL)
    (h : sx c.T c.nt ops.toList ((ops.toList.drop 0).take n) e B ws ks (fun e' B'' => EnvSub d e' ∧ B'' = B'))
    (hst : allIn (stale ((ops.toList.drop 0).take n) e) d = true) (hi : Nat.ble ops.size (0 + n) = true)
    (k : JS c stk (d ++ e) B' R O) : JS c (.c (.region id ops false) :: stk) e B R O :=
  JS.region (JO.reg hT n ws ks d B' hst h (JO.done hi k))

theorem JS.re0 (hT : TTok c.P c.T) {id : Nat} {ops : Array Oper} (n : Nat) (d : Env)
    (h : sx c.T c.nt ops.toList ((ops.toList.drop 0).take n) e B [] [] (fun e' B'' => EnvSub d e' ∧ B'' = B))
    (hst : allIn (stale ((ops.toList.drop 0).take n) e) d = true) (hi : Nat.ble ops.size (0 + n) = true)
    (k : JS c stk (d ++ e) B R O) : JS c (.c (.region id ops false) :: stk) e B R O :=
  JS.re hT n [] [] d B h hst hi k

theorem JS.rgB (hT : TTok c.P c.T) {id : Nat} {ops : Array Oper} {b : Code} (n : Nat) (ws : List Int) (ks : List Nat) (d : Env) (B' : BL)
    (h : sx c.T c.nt ops.toList ((ops.toList.drop 0).take n) e B ws ks (fun e' B'' => EnvSub d e' ∧ BSub B' B'' B'.ids))
    (hst : allIn (stale ((ops.toList.drop 0).take n) e) d = true) (hi : Nat.ble ops.size (0 + n) = true)
    (k : JS c (.c b :: stk) (d ++ e) B' R O) : JS c (.c (.seq (.region id ops false) b) :: stk) e B R O :=
  JS.seq (JS.region (JO.regB hT n ws ks d B' hst h (JO.done hi k)))

end
end Go.Eng

