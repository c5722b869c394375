/- The walks of the functions that FnStep reaches: what each computes, as a plain function (M_..), and that the model computes it (ok_..). Condition of each: that the plain function answers. -/
import Derived.Test.YtokbomfmkllghaaDoorFnStepWalkA
set_option linter.unusedVariables false
set_option linter.unusedSimpArgs false
namespace Go.Eng
open Go Go.Proofs
noncomputable section

def M_i_Grid_moveTo (x0 : Int × Int × List Int × Int × Int × Bool) (x1 : Int) (x2 : Int) : Option (Int × Int × List Int × Int × Int × Bool) :=
  some (x0.1, x0.2.1, x0.2.2.1, (max (0 : Int) (min x1 (W (x0.1 - 1)))), (max (0 : Int) (min x2 (W (x0.2.1 - 1)))), false)

theorem ok_i_Grid_moveTo (x0 : Int × Int × List Int × Int × Int × Bool) (x1 : Int) (x2 : Int) (a4 : Option Addr) (a5 : Option Addr) (c6 : Nat) (l7 : Nat) (hl8 : x0.2.2.1.length = l7) (r : Int × Int × List Int × Int × Int × Bool) (h : M_i_Grid_moveTo x0 x1 x2 = some r) :
    FX Tryd.prog 47 [.pointer a4, .int .i64 x1, .int .i64 x2] [⟨(.int .i64), ⟨a5, l7, c6⟩, x0.2.2.1⟩] [⟨(.pair (.int .i64) (.pair (.int .i64) (.pair .val (.pair (.int .i64) (.pair (.int .i64) .bool))))), ⟨a4, 1, 1⟩, [(x0.1, x0.2.1, (Sl.v ⟨a5, l7, c6⟩), x0.2.2.2.1, x0.2.2.2.2.1, x0.2.2.2.2.2)]⟩] (fun _ : Unit => True) (fun _ => .tuple #[]) (fun _ => [⟨(.pair (.int .i64) (.pair (.int .i64) (.pair .val (.pair (.int .i64) (.pair (.int .i64) .bool))))), ⟨a4, 1, 1⟩, [(r.1, r.2.1, (Sl.v ⟨a5, l7, c6⟩), r.2.2.2.1, r.2.2.2.2.1, r.2.2.2.2.2)]⟩]) :=
  by
    subst hl8
    refine FX.of (T := TTx) Tryd.call47 Tryd.func47 rfl rfl fun w0 L0 => ?_
    unfold M_i_Grid_moveTo at h
    refine JS.ptr 0 a4 rfl ?_
    refine JS.know 1 rfl fun hs13 => ?_
    refine JS.regionA rfl .nil [1] [19, 20, 21, 22, 23, 24, 25, 26, 27] trivial rfl (fun be11 => ?_)
    refine JA.reg ttOk panic_cxX true 20 [0, 3, 4, 5, 6, 12, 13, 14] rfl (by kernel_rfl) [] [(6, .ep ⟨a4, 1, 1⟩ 0), (9, .v (.int .i64 x1)), (12, .ep ⟨a4, 1, 1⟩ 0), (20, .ep ⟨a4, 1, 1⟩ 1)] trivial [1] rfl rfl ⟨(hs13.fa ptr0).1, hs13.fa ptr0, (hs13.fa ptr0).1, hs13.fa ptr0, (Es rfl)⟩ (JA.regL ttOk panic_cxX 17 [1, 2, 11] rfl (by kernel_rfl) [] [(7, .ep ⟨a4, 1, 1⟩ 0), (8, .ep ⟨a4, 1, 1⟩ 0), (17, .v (.int .i64 x2))] rfl (Es rfl) (JA.loadV ttOk panic_cxX 7 rfl (by kernel_rfl) rfl rfl rfl rfl rfl 0 rfl rfl 0 0 (x0.1, x0.2.1, (Sl.v ⟨a5, x0.2.2.1.length, c6⟩), x0.2.2.2.1, x0.2.2.2.2.1, x0.2.2.2.2.2) ⟨rfl, rfl⟩ rfl rfl rfl trivial [1] rfl (JA.reg ttOk panic_cxX true 13 [8, 9, 10] rfl (by kernel_rfl) [(W (x0.1 - 1))] [(16, .v (.int .i64 (max (0 : Int) (min x1 (W (x0.1 - 1))))))] trivial [1] rfl rfl ⟨⟨trivial, rfl⟩, ⟨rfl, trivial⟩⟩ (JA.loadV ttOk panic_cxX 15 rfl (by kernel_rfl) rfl rfl rfl rfl rfl 0 rfl rfl 0 1 (x0.1, x0.2.1, (Sl.v ⟨a5, x0.2.2.1.length, c6⟩), x0.2.2.2.1, x0.2.2.2.2.1, x0.2.2.2.2.2) ⟨rfl, rfl⟩ rfl rfl rfl trivial [1] rfl (JA.regL ttOk panic_cxX 7 [16, 17, 18, 19, 20] rfl (by kernel_rfl) [(W (x0.2.1 - 1))] [(24, .v (.int .i64 (max (0 : Int) (min x2 (W (x0.2.1 - 1)))))), (26, .ep ⟨a4, 1, 1⟩ 3)] rfl ⟨⟨trivial, rfl⟩, (hs13.fa ptr0).1, hs13.fa ptr0, (Es rfl)⟩ (JA.one 21 (by kernel_rfl) (JK.storeE ttOk rfl rfl rfl rfl rfl rfl rfl rfl rfl [0] (fs := []) rfl 0 3 (x0.1, x0.2.1, (Sl.v ⟨a5, x0.2.2.1.length, c6⟩), x0.2.2.2.1, x0.2.2.2.2.1, x0.2.2.2.2.2) (x0.1, x0.2.1, (Sl.v ⟨a5, x0.2.2.1.length, c6⟩), (max (0 : Int) (min x1 (W (x0.1 - 1)))), x0.2.2.2.2.1, x0.2.2.2.2.2) ⟨rfl, rfl⟩ ⟨⟨⟨⟨⟨rfl, rfl, rfl⟩, rfl⟩, rfl⟩, rfl⟩, rfl⟩ (JA.nextL rfl (JA.regL ttOk panic_cxX 4 [22, 23] rfl (by kernel_rfl) [] [(28, .ep ⟨a4, 1, 1⟩ 4)] rfl ⟨(hs13.fa ptr0).1, hs13.fa ptr0, ⟨rfl, trivial⟩⟩ (JA.one 24 (by kernel_rfl) (JK.storeE ttOk rfl rfl rfl rfl rfl rfl rfl rfl rfl [0] (fs := []) rfl 0 4 (x0.1, x0.2.1, (Sl.v ⟨a5, x0.2.2.1.length, c6⟩), (max (0 : Int) (min x1 (W (x0.1 - 1)))), x0.2.2.2.2.1, x0.2.2.2.2.2) (x0.1, x0.2.1, (Sl.v ⟨a5, x0.2.2.1.length, c6⟩), (max (0 : Int) (min x1 (W (x0.1 - 1)))), (max (0 : Int) (min x2 (W (x0.2.1 - 1)))), x0.2.2.2.2.2) ⟨rfl, rfl⟩ ⟨⟨⟨⟨⟨⟨rfl, rfl, rfl⟩, rfl⟩, rfl⟩, rfl⟩, rfl⟩, rfl⟩ (JA.nextL rfl (JA.regL ttOk panic_cxX 1 [25, 26] rfl (by kernel_rfl) [] [(30, .ep ⟨a4, 1, 1⟩ 5)] rfl ⟨(hs13.fa ptr0).1, hs13.fa ptr0, ⟨rfl, trivial⟩⟩ (JA.one 27 (by kernel_rfl) (JK.storeE ttOk rfl rfl rfl rfl rfl rfl rfl rfl rfl [0] (fs := []) rfl 0 5 (x0.1, x0.2.1, (Sl.v ⟨a5, x0.2.2.1.length, c6⟩), (max (0 : Int) (min x1 (W (x0.1 - 1)))), (max (0 : Int) (min x2 (W (x0.2.1 - 1)))), x0.2.2.2.2.2) (x0.1, x0.2.1, (Sl.v ⟨a5, x0.2.2.1.length, c6⟩), (max (0 : Int) (min x1 (W (x0.1 - 1)))), (max (0 : Int) (min x2 (W (x0.2.1 - 1)))), false) ⟨rfl, rfl⟩ ⟨⟨⟨⟨⟨⟨rfl, rfl, rfl⟩, rfl⟩, rfl⟩, rfl⟩, rfl⟩, rfl⟩ (JA.nextL rfl (JA.done (by kernel_rfl) (JS.boxes (B' := .nil) trivial ?_))))))))))))))))))
    cases h
    exact JS.fallX ttOk () trivial rfl rfl [0] rfl

def M_i_Grid_moveTo_in31 (x0 : (Int × Int × List Int × Int × Int × Bool) × Int × List Int × List UInt8 × Int) (x1 : Int) (x2 : Int) : Option ((Int × Int × List Int × Int × Int × Bool) × Int × List Int × List UInt8 × Int) :=
  some ((x0.1.1, x0.1.2.1, x0.1.2.2.1, (max (0 : Int) (min x1 (W (x0.1.1 - 1)))), (max (0 : Int) (min x2 (W (x0.1.2.1 - 1)))), false), x0.2.1, x0.2.2.1, x0.2.2.2.1, x0.2.2.2.2)

theorem ok_i_Grid_moveTo_in31 (x0 : (Int × Int × List Int × Int × Int × Bool) × Int × List Int × List UInt8 × Int) (x1 : Int) (x2 : Int) (a4 : Option Addr) (a5 : Option Addr) (c6 : Nat) (l7 : Nat) (hl8 : x0.1.2.2.1.length = l7) (a9 : Option Addr) (c10 : Nat) (l11 : Nat) (hl12 : x0.2.2.1.length = l11) (a13 : Option Addr) (c14 : Nat) (l15 : Nat) (hl16 : x0.2.2.2.1.length = l15) (r : (Int × Int × List Int × Int × Int × Bool) × Int × List Int × List UInt8 × Int) (h : M_i_Grid_moveTo_in31 x0 x1 x2 = some r) :
    FX Tryd.prog 47 [.pointer a4, .int .i64 x1, .int .i64 x2] [] [⟨(.pair (.pair (.int .i64) (.pair (.int .i64) (.pair .val (.pair (.int .i64) (.pair (.int .i64) .bool))))) (.pair (.int .i64) (.pair .val (.pair .val (.int .i64))))), ⟨a4, 1, 1⟩, [((x0.1.1, x0.1.2.1, (Sl.v ⟨a5, l7, c6⟩), x0.1.2.2.2.1, x0.1.2.2.2.2.1, x0.1.2.2.2.2.2), x0.2.1, (Sl.v ⟨a9, l11, c10⟩), (Sl.v ⟨a13, l15, c14⟩), x0.2.2.2.2)]⟩, ⟨(.int .i64), ⟨a5, l7, c6⟩, x0.1.2.2.1⟩, ⟨(.int .i64), ⟨a9, l11, c10⟩, x0.2.2.1⟩, ⟨.byte, ⟨a13, l15, c14⟩, x0.2.2.2.1⟩] (fun _ : Option Addr × Nat × Option Addr × Nat × Option Addr × Nat => True) (fun q => .tuple #[]) (fun q => [⟨(.pair (.pair (.int .i64) (.pair (.int .i64) (.pair .val (.pair (.int .i64) (.pair (.int .i64) .bool))))) (.pair (.int .i64) (.pair .val (.pair .val (.int .i64))))), ⟨a4, 1, 1⟩, [((r.1.1, r.1.2.1, (Sl.v ⟨q.1, r.1.2.2.1.length, q.2.1⟩), r.1.2.2.2.1, r.1.2.2.2.2.1, r.1.2.2.2.2.2), r.2.1, (Sl.v ⟨q.2.2.1, r.2.2.1.length, q.2.2.2.1⟩), (Sl.v ⟨q.2.2.2.2.1, r.2.2.2.1.length, q.2.2.2.2.2⟩), r.2.2.2.2)]⟩, ⟨(.int .i64), ⟨q.1, r.1.2.2.1.length, q.2.1⟩, r.1.2.2.1⟩, ⟨(.int .i64), ⟨q.2.2.1, r.2.2.1.length, q.2.2.2.1⟩, r.2.2.1⟩, ⟨.byte, ⟨q.2.2.2.2.1, r.2.2.2.1.length, q.2.2.2.2.2⟩, r.2.2.2.1⟩]) :=
  by
    subst hl8
    subst hl12
    subst hl16
    refine FX.of (T := TTx) Tryd.call47 Tryd.func47 rfl rfl fun w0 L0 => ?_
    unfold M_i_Grid_moveTo_in31 at h
    refine JS.ptr 0 a4 rfl ?_
    refine JS.know 0 rfl fun hs21 => ?_
    refine JS.regionA rfl .nil [0] [19, 20, 21, 22, 23, 24, 25, 26, 27] trivial rfl (fun be19 => ?_)
    refine JA.reg ttOk panic_cxX true 20 [0, 3, 4, 5, 6, 12, 13, 14] rfl (by kernel_rfl) [] [(6, .ep ⟨a4, 1, 1⟩ 0), (9, .v (.int .i64 x1)), (12, .ep ⟨a4, 1, 1⟩ 0), (20, .ep ⟨a4, 1, 1⟩ 1)] trivial [0] rfl rfl ⟨(hs21.fa ptr0).1, hs21.fa ptr0, (hs21.fa ptr0).1, hs21.fa ptr0, (Es rfl)⟩ (JA.regL ttOk panic_cxX 17 [1, 2, 11] rfl (by kernel_rfl) [] [(7, .ep ⟨a4, 1, 1⟩ 0), (8, .ep ⟨a4, 1, 1⟩ 0), (17, .v (.int .i64 x2))] rfl (Es rfl) (JA.loadV ttOk panic_cxX 7 rfl (by kernel_rfl) rfl rfl rfl rfl rfl 0 rfl rfl 0 0 ((x0.1.1, x0.1.2.1, (Sl.v ⟨a5, x0.1.2.2.1.length, c6⟩), x0.1.2.2.2.1, x0.1.2.2.2.2.1, x0.1.2.2.2.2.2), x0.2.1, (Sl.v ⟨a9, x0.2.2.1.length, c10⟩), (Sl.v ⟨a13, x0.2.2.2.1.length, c14⟩), x0.2.2.2.2) ⟨rfl, rfl⟩ rfl rfl rfl trivial [0] rfl (JA.reg ttOk panic_cxX true 13 [8, 9, 10] rfl (by kernel_rfl) [(W (x0.1.1 - 1))] [(16, .v (.int .i64 (max (0 : Int) (min x1 (W (x0.1.1 - 1))))))] trivial [0] rfl rfl ⟨⟨trivial, rfl⟩, ⟨rfl, trivial⟩⟩ (JA.loadV ttOk panic_cxX 15 rfl (by kernel_rfl) rfl rfl rfl rfl rfl 0 rfl rfl 0 1 ((x0.1.1, x0.1.2.1, (Sl.v ⟨a5, x0.1.2.2.1.length, c6⟩), x0.1.2.2.2.1, x0.1.2.2.2.2.1, x0.1.2.2.2.2.2), x0.2.1, (Sl.v ⟨a9, x0.2.2.1.length, c10⟩), (Sl.v ⟨a13, x0.2.2.2.1.length, c14⟩), x0.2.2.2.2) ⟨rfl, rfl⟩ rfl rfl rfl trivial [0] rfl (JA.regL ttOk panic_cxX 7 [16, 17, 18, 19, 20] rfl (by kernel_rfl) [(W (x0.1.2.1 - 1))] [(24, .v (.int .i64 (max (0 : Int) (min x2 (W (x0.1.2.1 - 1)))))), (26, .ep ⟨a4, 1, 1⟩ 3)] rfl ⟨⟨trivial, rfl⟩, (hs21.fa ptr0).1, hs21.fa ptr0, (Es rfl)⟩ (JA.one 21 (by kernel_rfl) (JK.storeE ttOk rfl rfl rfl rfl rfl rfl rfl rfl rfl [0] (fs := []) rfl 0 3 ((x0.1.1, x0.1.2.1, (Sl.v ⟨a5, x0.1.2.2.1.length, c6⟩), x0.1.2.2.2.1, x0.1.2.2.2.2.1, x0.1.2.2.2.2.2), x0.2.1, (Sl.v ⟨a9, x0.2.2.1.length, c10⟩), (Sl.v ⟨a13, x0.2.2.2.1.length, c14⟩), x0.2.2.2.2) ((x0.1.1, x0.1.2.1, (Sl.v ⟨a5, x0.1.2.2.1.length, c6⟩), (max (0 : Int) (min x1 (W (x0.1.1 - 1)))), x0.1.2.2.2.2.1, x0.1.2.2.2.2.2), x0.2.1, (Sl.v ⟨a9, x0.2.2.1.length, c10⟩), (Sl.v ⟨a13, x0.2.2.2.1.length, c14⟩), x0.2.2.2.2) ⟨rfl, rfl⟩ ⟨⟨⟨⟨⟨⟨rfl, rfl, rfl⟩, rfl⟩, rfl⟩, rfl⟩, rfl⟩, rfl⟩ (JA.nextL rfl (JA.regL ttOk panic_cxX 4 [22, 23] rfl (by kernel_rfl) [] [(28, .ep ⟨a4, 1, 1⟩ 4)] rfl ⟨(hs21.fa ptr0).1, hs21.fa ptr0, ⟨rfl, trivial⟩⟩ (JA.one 24 (by kernel_rfl) (JK.storeE ttOk rfl rfl rfl rfl rfl rfl rfl rfl rfl [0] (fs := []) rfl 0 4 ((x0.1.1, x0.1.2.1, (Sl.v ⟨a5, x0.1.2.2.1.length, c6⟩), (max (0 : Int) (min x1 (W (x0.1.1 - 1)))), x0.1.2.2.2.2.1, x0.1.2.2.2.2.2), x0.2.1, (Sl.v ⟨a9, x0.2.2.1.length, c10⟩), (Sl.v ⟨a13, x0.2.2.2.1.length, c14⟩), x0.2.2.2.2) ((x0.1.1, x0.1.2.1, (Sl.v ⟨a5, x0.1.2.2.1.length, c6⟩), (max (0 : Int) (min x1 (W (x0.1.1 - 1)))), (max (0 : Int) (min x2 (W (x0.1.2.1 - 1)))), x0.1.2.2.2.2.2), x0.2.1, (Sl.v ⟨a9, x0.2.2.1.length, c10⟩), (Sl.v ⟨a13, x0.2.2.2.1.length, c14⟩), x0.2.2.2.2) ⟨rfl, rfl⟩ ⟨⟨⟨⟨⟨⟨⟨rfl, rfl, rfl⟩, rfl⟩, rfl⟩, rfl⟩, rfl⟩, rfl⟩, rfl⟩ (JA.nextL rfl (JA.regL ttOk panic_cxX 1 [25, 26] rfl (by kernel_rfl) [] [(30, .ep ⟨a4, 1, 1⟩ 5)] rfl ⟨(hs21.fa ptr0).1, hs21.fa ptr0, ⟨rfl, trivial⟩⟩ (JA.one 27 (by kernel_rfl) (JK.storeE ttOk rfl rfl rfl rfl rfl rfl rfl rfl rfl [0] (fs := []) rfl 0 5 ((x0.1.1, x0.1.2.1, (Sl.v ⟨a5, x0.1.2.2.1.length, c6⟩), (max (0 : Int) (min x1 (W (x0.1.1 - 1)))), (max (0 : Int) (min x2 (W (x0.1.2.1 - 1)))), x0.1.2.2.2.2.2), x0.2.1, (Sl.v ⟨a9, x0.2.2.1.length, c10⟩), (Sl.v ⟨a13, x0.2.2.2.1.length, c14⟩), x0.2.2.2.2) ((x0.1.1, x0.1.2.1, (Sl.v ⟨a5, x0.1.2.2.1.length, c6⟩), (max (0 : Int) (min x1 (W (x0.1.1 - 1)))), (max (0 : Int) (min x2 (W (x0.1.2.1 - 1)))), false), x0.2.1, (Sl.v ⟨a9, x0.2.2.1.length, c10⟩), (Sl.v ⟨a13, x0.2.2.2.1.length, c14⟩), x0.2.2.2.2) ⟨rfl, rfl⟩ ⟨⟨⟨⟨⟨⟨⟨rfl, rfl, rfl⟩, rfl⟩, rfl⟩, rfl⟩, rfl⟩, rfl⟩, rfl⟩ (JA.nextL rfl (JA.done (by kernel_rfl) (JS.boxes (B' := .nil) trivial ?_))))))))))))))))))
    cases h
    exact JS.fallX ttOk (a5, c6, a9, c10, a13, c14) trivial rfl rfl [0, 0, 0, 0] rfl

def M_i_Vt_control (x0 : (Int × Int × List Int × Int × Int × Bool) × Int × List Int × List UInt8 × Int) (x1 : Int) : Option ((Int × Int × List Int × Int × Int × Bool) × Int × List Int × List UInt8 × Int) :=
  (bindO (M_i_Vt_arg x0 0) fun (y17, y18) =>
  (joinO (fun ((x103, x104, x105, x108, x109, x110, x111, x112, x115, x118) : Int × Int × List Int × Int × Int × Bool × Int × List Int × List UInt8 × Int) =>
  some ((x103, x104, x105, x108, x109, x110), x111, x112, x115, x118)) fun j119 =>
  (bif (decide (x1 = 65)) then
  (bindO (M_i_Grid_moveTo_in31 y18 y18.1.2.2.2.1 (W (y18.1.2.2.2.2.1 - y17))) fun (y26 : (Int × Int × List Int × Int × Int × Bool) × Int × List Int × List UInt8 × Int) =>
  j119 (y26.1.1, y26.1.2.1, y26.1.2.2.1, y26.1.2.2.2.1, y26.1.2.2.2.2.1, y26.1.2.2.2.2.2, y26.2.1, y26.2.2.1, y26.2.2.2.1, y26.2.2.2.2))
  else
  (bif (decide (x1 = 66)) then
  (bindO (M_i_Grid_moveTo_in31 y18 y18.1.2.2.2.1 (W (y18.1.2.2.2.2.1 + y17))) fun (y35 : (Int × Int × List Int × Int × Int × Bool) × Int × List Int × List UInt8 × Int) =>
  j119 (y35.1.1, y35.1.2.1, y35.1.2.2.1, y35.1.2.2.2.1, y35.1.2.2.2.2.1, y35.1.2.2.2.2.2, y35.2.1, y35.2.2.1, y35.2.2.2.1, y35.2.2.2.2))
  else
  (bif (decide (x1 = 67)) then
  (bindO (M_i_Grid_moveTo_in31 y18 (W (y18.1.2.2.2.1 + y17)) y18.1.2.2.2.2.1) fun (y44 : (Int × Int × List Int × Int × Int × Bool) × Int × List Int × List UInt8 × Int) =>
  j119 (y44.1.1, y44.1.2.1, y44.1.2.2.1, y44.1.2.2.2.1, y44.1.2.2.2.2.1, y44.1.2.2.2.2.2, y44.2.1, y44.2.2.1, y44.2.2.2.1, y44.2.2.2.2))
  else
  (bif (decide (x1 = 68)) then
  (bindO (M_i_Grid_moveTo_in31 y18 (W (y18.1.2.2.2.1 - y17)) y18.1.2.2.2.2.1) fun (y53 : (Int × Int × List Int × Int × Int × Bool) × Int × List Int × List UInt8 × Int) =>
  j119 (y53.1.1, y53.1.2.1, y53.1.2.2.1, y53.1.2.2.2.1, y53.1.2.2.2.2.1, y53.1.2.2.2.2.2, y53.2.1, y53.2.2.1, y53.2.2.2.1, y53.2.2.2.2))
  else
  (bif (decide (x1 = 72)) then
  (bindO (M_i_Vt_arg y18 1) fun (y62, y63) =>
  (bindO (M_i_Grid_moveTo_in31 y63 (W (y62 - 1)) (W (y17 - 1))) fun (y71 : (Int × Int × List Int × Int × Int × Bool) × Int × List Int × List UInt8 × Int) =>
  j119 (y71.1.1, y71.1.2.1, y71.1.2.2.1, y71.1.2.2.2.1, y71.1.2.2.2.2.1, y71.1.2.2.2.2.2, y71.2.1, y71.2.2.1, y71.2.2.2.1, y71.2.2.2.2)))
  else
  (bif (decide (x1 = 74)) then
  (bindO (M_i_Vt_clear y18 0 (y18.1.2.2.1.length : Int)) fun (y79 : (Int × Int × List Int × Int × Int × Bool) × Int × List Int × List UInt8 × Int) =>
  j119 (y79.1.1, y79.1.2.1, y79.1.2.2.1, y79.1.2.2.2.1, y79.1.2.2.2.2.1, y79.1.2.2.2.2.2, y79.2.1, y79.2.2.1, y79.2.2.2.1, y79.2.2.2.2))
  else
  (bif (decide (x1 = 75)) then
  (bindO (M_i_Vt_clear y18 (W (y18.1.2.2.2.2.1 * y18.1.1)) (W ((W (y18.1.2.2.2.2.1 + 1)) * y18.1.1))) fun (y87 : (Int × Int × List Int × Int × Int × Bool) × Int × List Int × List UInt8 × Int) =>
  j119 (y87.1.1, y87.1.2.1, y87.1.2.2.1, y87.1.2.2.2.1, y87.1.2.2.2.2.1, y87.1.2.2.2.2.2, y87.2.1, y87.2.2.1, y87.2.2.2.1, y87.2.2.2.2))
  else
  j119 (y18.1.1, y18.1.2.1, y18.1.2.2.1, y18.1.2.2.2.1, y18.1.2.2.2.2.1, y18.1.2.2.2.2.2, y18.2.1, y18.2.2.1, y18.2.2.2.1, y18.2.2.2.2))))))))))

theorem ok_i_Vt_control (x0 : (Int × Int × List Int × Int × Int × Bool) × Int × List Int × List UInt8 × Int) (x1 : Int) (a3 : Option Addr) (a4 : Option Addr) (c5 : Nat) (l6 : Nat) (hl7 : x0.1.2.2.1.length = l6) (a8 : Option Addr) (c9 : Nat) (l10 : Nat) (hl11 : x0.2.2.1.length = l10) (a12 : Option Addr) (c13 : Nat) (l14 : Nat) (hl15 : x0.2.2.2.1.length = l14) (r : (Int × Int × List Int × Int × Int × Bool) × Int × List Int × List UInt8 × Int) (h : M_i_Vt_control x0 x1 = some r) :
    FX Tryd.prog 50 [.pointer a3, .int .i64 x1] [] [⟨(.pair (.pair (.int .i64) (.pair (.int .i64) (.pair .val (.pair (.int .i64) (.pair (.int .i64) .bool))))) (.pair (.int .i64) (.pair .val (.pair .val (.int .i64))))), ⟨a3, 1, 1⟩, [((x0.1.1, x0.1.2.1, (Sl.v ⟨a4, l6, c5⟩), x0.1.2.2.2.1, x0.1.2.2.2.2.1, x0.1.2.2.2.2.2), x0.2.1, (Sl.v ⟨a8, l10, c9⟩), (Sl.v ⟨a12, l14, c13⟩), x0.2.2.2.2)]⟩, ⟨(.int .i64), ⟨a4, l6, c5⟩, x0.1.2.2.1⟩, ⟨(.int .i64), ⟨a8, l10, c9⟩, x0.2.2.1⟩, ⟨.byte, ⟨a12, l14, c13⟩, x0.2.2.2.1⟩] (fun _ : Option Addr × Nat × Option Addr × Nat × Option Addr × Nat => True) (fun q => .tuple #[]) (fun q => [⟨(.pair (.pair (.int .i64) (.pair (.int .i64) (.pair .val (.pair (.int .i64) (.pair (.int .i64) .bool))))) (.pair (.int .i64) (.pair .val (.pair .val (.int .i64))))), ⟨a3, 1, 1⟩, [((r.1.1, r.1.2.1, (Sl.v ⟨q.1, r.1.2.2.1.length, q.2.1⟩), r.1.2.2.2.1, r.1.2.2.2.2.1, r.1.2.2.2.2.2), r.2.1, (Sl.v ⟨q.2.2.1, r.2.2.1.length, q.2.2.2.1⟩), (Sl.v ⟨q.2.2.2.2.1, r.2.2.2.1.length, q.2.2.2.2.2⟩), r.2.2.2.2)]⟩, ⟨(.int .i64), ⟨q.1, r.1.2.2.1.length, q.2.1⟩, r.1.2.2.1⟩, ⟨(.int .i64), ⟨q.2.2.1, r.2.2.1.length, q.2.2.2.1⟩, r.2.2.1⟩, ⟨.byte, ⟨q.2.2.2.2.1, r.2.2.2.1.length, q.2.2.2.2.2⟩, r.2.2.2.1⟩]) :=
  by
    subst hl7
    subst hl11
    subst hl15
    refine FX.of (T := TTx) Tryd.call50 Tryd.func50 rfl rfl fun w0 L0 => ?_
    unfold M_i_Vt_control at h
    refine JS.ptr 0 a3 rfl ?_
    refine JS.seq (JS.region (JO.know 0 rfl fun hs128 => JO.reg ttOk 4 [] [] [(4, .ep ⟨a3, 1, 1⟩ 0)] _ rfl ⟨(hs128.fa ptr0).1, hs128.fa ptr0, ⟨rfl, trivial⟩, rfl⟩ (JO.done rfl (JS.seq (JS.region (JO.reg ttOk 1 [] [] [(9, .ep ⟨a3, 1, 1⟩ 0)] _ rfl ⟨⟨rfl, trivial⟩, rfl⟩ ?_))))))
    obtain ⟨⟨y17, y18⟩, hy19, h⟩ := bindO_some h
    refine JO.callX rfl rfl rfl rfl (ok_i_Vt_arg x0 0 a3 a4 c5 x0.1.2.2.1.length rfl a8 c9 x0.2.2.1.length rfl a12 c13 x0.2.2.2.1.length rfl _ hy19) rfl [0, 0, 0, 0] rfl [] rfl rfl ?_
    rintro ⟨a20, c21, a22, c23, a24, c25⟩ -
    refine JO.reg ttOk 1 [] [] [(5, .v (.int .i64 y17))] _ rfl ⟨⟨rfl, trivial⟩, rfl⟩ (JO.done rfl (JS.rg0 ttOk 1 [(11, .v (.int .i64 x1))] ⟨⟨rfl, trivial⟩, rfl⟩ rfl rfl ?_))
    obtain ⟨j119, hj136, h⟩ := joinO_some h
    refine JS.blockJ (ι := Int × Int × List Int × Int × Int × Bool × Int × List Int × List UInt8 × Int × Option Addr × Nat × Option Addr × Nat × Option Addr × Nat) ⟨fun z => j119 (z.1, z.2.1, z.2.2.1, z.2.2.2.1, z.2.2.2.2.1, z.2.2.2.2.2.1, z.2.2.2.2.2.2.1, z.2.2.2.2.2.2.2.1, z.2.2.2.2.2.2.2.2.1, z.2.2.2.2.2.2.2.2.2.1) = some r, fun z => [], fun z => .nil, fun z => [], fun z => [⟨(.int .i64), ⟨z.2.2.2.2.2.2.2.2.2.2.1, z.2.2.1.length, z.2.2.2.2.2.2.2.2.2.2.2.1⟩, z.2.2.1⟩, ⟨(.int .i64), ⟨z.2.2.2.2.2.2.2.2.2.2.2.2.1, z.2.2.2.2.2.2.2.1.length, z.2.2.2.2.2.2.2.2.2.2.2.2.2.1⟩, z.2.2.2.2.2.2.2.1⟩, ⟨.byte, ⟨z.2.2.2.2.2.2.2.2.2.2.2.2.2.2.1, z.2.2.2.2.2.2.2.2.1.length, z.2.2.2.2.2.2.2.2.2.2.2.2.2.2.2⟩, z.2.2.2.2.2.2.2.2.1⟩, ⟨(.pair (.pair (.int .i64) (.pair (.int .i64) (.pair .val (.pair (.int .i64) (.pair (.int .i64) .bool))))) (.pair (.int .i64) (.pair .val (.pair .val (.int .i64))))), ⟨a3, 1, 1⟩, [((z.1, z.2.1, (Sl.v ⟨z.2.2.2.2.2.2.2.2.2.2.1, z.2.2.1.length, z.2.2.2.2.2.2.2.2.2.2.2.1⟩), z.2.2.2.1, z.2.2.2.2.1, z.2.2.2.2.2.1), z.2.2.2.2.2.2.1, (Sl.v ⟨z.2.2.2.2.2.2.2.2.2.2.2.2.1, z.2.2.2.2.2.2.2.1.length, z.2.2.2.2.2.2.2.2.2.2.2.2.2.1⟩), (Sl.v ⟨z.2.2.2.2.2.2.2.2.2.2.2.2.2.2.1, z.2.2.2.2.2.2.2.2.1.length, z.2.2.2.2.2.2.2.2.2.2.2.2.2.2.2⟩), z.2.2.2.2.2.2.2.2.2.1)]⟩], fun z => 0⟩ ?_ ?_
    · refine JS.rg0 ttOk 2 [(12, .v (.bool (decide (x1 = 65))))] ⟨⟨rfl, trivial⟩, rfl⟩ rfl rfl ?_
      refine JS.cond rfl (fun ht135 => ?_) (fun ht135 => ?_)
      · have h := condT h ht135
        obtain ⟨y26, hy27, h⟩ := bindO_some h
        refine JS.regionA rfl .nil [0] [11] trivial rfl (fun be34 => ?_)
        refine JA.reg ttOk panic_cxX true 4 [0, 1, 2, 3, 5, 6, 7, 9] rfl (by kernel_rfl) [] [(14, .ep ⟨a3, 1, 1⟩ 0), (17, .ep ⟨a3, 1, 1⟩ 3), (21, .ep ⟨a3, 1, 1⟩ 4), (23, .v (.int .i64 y17))] trivial [0] rfl rfl ⟨(hs128.fa ptr0).1, hs128.fa ptr0, (hs128.fa ptr0).1, hs128.fa ptr0, (Es rfl)⟩ (JA.loadV ttOk panic_cxX 4 rfl (by kernel_rfl) rfl rfl rfl rfl rfl 0 rfl rfl 0 3 ((y18.1.1, y18.1.2.1, (Sl.v ⟨a20, y18.1.2.2.1.length, c21⟩), y18.1.2.2.2.1, y18.1.2.2.2.2.1, y18.1.2.2.2.2.2), y18.2.1, (Sl.v ⟨a22, y18.2.2.1.length, c23⟩), (Sl.v ⟨a24, y18.2.2.2.1.length, c25⟩), y18.2.2.2.2) ⟨rfl, rfl⟩ rfl rfl rfl trivial [0] rfl (JA.loadV ttOk panic_cxX 8 rfl (by kernel_rfl) rfl rfl rfl rfl rfl 0 rfl rfl 0 4 ((y18.1.1, y18.1.2.1, (Sl.v ⟨a20, y18.1.2.2.1.length, c21⟩), y18.1.2.2.2.1, y18.1.2.2.2.2.1, y18.1.2.2.2.2.2), y18.2.1, (Sl.v ⟨a22, y18.2.2.1.length, c23⟩), (Sl.v ⟨a24, y18.2.2.2.1.length, c25⟩), y18.2.2.2.2) ⟨rfl, rfl⟩ rfl rfl rfl trivial [0] rfl (JA.reg ttOk panic_cxX true 1 [10] rfl (by kernel_rfl) [(W (y18.1.2.2.2.2.1 - y17))] [(24, .v (.int .i64 (W (y18.1.2.2.2.2.1 - y17))))] trivial [0] rfl rfl ⟨⟨trivial, rfl⟩, ⟨rfl, trivial⟩⟩ (JA.one 11 (by kernel_rfl) (JK.callX rfl rfl rfl rfl (ok_i_Grid_moveTo_in31 y18 y18.1.2.2.2.1 (W (y18.1.2.2.2.2.1 - y17)) a3 a20 c21 y18.1.2.2.1.length rfl a22 c23 y18.2.2.1.length rfl a24 c25 y18.2.2.2.1.length rfl _ hy27) rfl [0, 0, 0, 0] rfl [] rfl rfl ?_)))))
        rintro ⟨a28, c29, a30, c31, a32, c33⟩ -
        refine JA.nextL rfl (JA.done (by kernel_rfl) (JS.boxes (B' := .nil) trivial (JS.endB (JS.endJA (y26.1.1, y26.1.2.1, y26.1.2.2.1, y26.1.2.2.2.1, y26.1.2.2.2.2.1, y26.1.2.2.2.2.2, y26.2.1, y26.2.2.1, y26.2.2.2.1, y26.2.2.2.2, a28, c29, a30, c31, a32, c33) h trivial trivial [] rfl [1, 2, 3, 0] rfl rfl))))
      have h := condF h ht135
      refine JS.rg0 ttOk 2 [(26, .v (.bool (decide (x1 = 66))))] ⟨⟨rfl, trivial⟩, rfl⟩ rfl rfl ?_
      refine JS.cond rfl (fun ht134 => ?_) (fun ht134 => ?_)
      · have h := condT h ht134
        obtain ⟨y35, hy36, h⟩ := bindO_some h
        refine JS.regionA rfl .nil [0] [11] trivial rfl (fun be43 => ?_)
        refine JA.reg ttOk panic_cxX true 4 [0, 1, 2, 3, 5, 6, 7, 9] rfl (by kernel_rfl) [] [(28, .ep ⟨a3, 1, 1⟩ 0), (31, .ep ⟨a3, 1, 1⟩ 3), (35, .ep ⟨a3, 1, 1⟩ 4), (37, .v (.int .i64 y17))] trivial [0] rfl rfl ⟨(hs128.fa ptr0).1, hs128.fa ptr0, (hs128.fa ptr0).1, hs128.fa ptr0, (Es rfl)⟩ (JA.loadV ttOk panic_cxX 4 rfl (by kernel_rfl) rfl rfl rfl rfl rfl 0 rfl rfl 0 3 ((y18.1.1, y18.1.2.1, (Sl.v ⟨a20, y18.1.2.2.1.length, c21⟩), y18.1.2.2.2.1, y18.1.2.2.2.2.1, y18.1.2.2.2.2.2), y18.2.1, (Sl.v ⟨a22, y18.2.2.1.length, c23⟩), (Sl.v ⟨a24, y18.2.2.2.1.length, c25⟩), y18.2.2.2.2) ⟨rfl, rfl⟩ rfl rfl rfl trivial [0] rfl (JA.loadV ttOk panic_cxX 8 rfl (by kernel_rfl) rfl rfl rfl rfl rfl 0 rfl rfl 0 4 ((y18.1.1, y18.1.2.1, (Sl.v ⟨a20, y18.1.2.2.1.length, c21⟩), y18.1.2.2.2.1, y18.1.2.2.2.2.1, y18.1.2.2.2.2.2), y18.2.1, (Sl.v ⟨a22, y18.2.2.1.length, c23⟩), (Sl.v ⟨a24, y18.2.2.2.1.length, c25⟩), y18.2.2.2.2) ⟨rfl, rfl⟩ rfl rfl rfl trivial [0] rfl (JA.reg ttOk panic_cxX true 1 [10] rfl (by kernel_rfl) [(W (y18.1.2.2.2.2.1 + y17))] [(38, .v (.int .i64 (W (y18.1.2.2.2.2.1 + y17))))] trivial [0] rfl rfl ⟨⟨trivial, rfl⟩, ⟨rfl, trivial⟩⟩ (JA.one 11 (by kernel_rfl) (JK.callX rfl rfl rfl rfl (ok_i_Grid_moveTo_in31 y18 y18.1.2.2.2.1 (W (y18.1.2.2.2.2.1 + y17)) a3 a20 c21 y18.1.2.2.1.length rfl a22 c23 y18.2.2.1.length rfl a24 c25 y18.2.2.2.1.length rfl _ hy36) rfl [0, 0, 0, 0] rfl [] rfl rfl ?_)))))
        rintro ⟨a37, c38, a39, c40, a41, c42⟩ -
        refine JA.nextL rfl (JA.done (by kernel_rfl) (JS.boxes (B' := .nil) trivial (JS.endB (JS.endJA (y35.1.1, y35.1.2.1, y35.1.2.2.1, y35.1.2.2.2.1, y35.1.2.2.2.2.1, y35.1.2.2.2.2.2, y35.2.1, y35.2.2.1, y35.2.2.2.1, y35.2.2.2.2, a37, c38, a39, c40, a41, c42) h trivial trivial [] rfl [1, 2, 3, 0] rfl rfl))))
      have h := condF h ht134
      refine JS.rg0 ttOk 2 [(40, .v (.bool (decide (x1 = 67))))] ⟨⟨rfl, trivial⟩, rfl⟩ rfl rfl ?_
      refine JS.cond rfl (fun ht133 => ?_) (fun ht133 => ?_)
      · have h := condT h ht133
        obtain ⟨y44, hy45, h⟩ := bindO_some h
        refine JS.regionA rfl .nil [0] [11] trivial rfl (fun be52 => ?_)
        refine JA.reg ttOk panic_cxX true 4 [0, 1, 2, 3, 5, 7, 8, 9] rfl (by kernel_rfl) [] [(42, .ep ⟨a3, 1, 1⟩ 0), (45, .ep ⟨a3, 1, 1⟩ 3), (47, .v (.int .i64 y17)), (51, .ep ⟨a3, 1, 1⟩ 4)] trivial [0] rfl rfl ⟨(hs128.fa ptr0).1, hs128.fa ptr0, (hs128.fa ptr0).1, hs128.fa ptr0, (Es rfl)⟩ (JA.loadV ttOk panic_cxX 4 rfl (by kernel_rfl) rfl rfl rfl rfl rfl 0 rfl rfl 0 3 ((y18.1.1, y18.1.2.1, (Sl.v ⟨a20, y18.1.2.2.1.length, c21⟩), y18.1.2.2.2.1, y18.1.2.2.2.2.1, y18.1.2.2.2.2.2), y18.2.1, (Sl.v ⟨a22, y18.2.2.1.length, c23⟩), (Sl.v ⟨a24, y18.2.2.2.1.length, c25⟩), y18.2.2.2.2) ⟨rfl, rfl⟩ rfl rfl rfl trivial [0] rfl (JA.reg ttOk panic_cxX true 2 [6] rfl (by kernel_rfl) [(W (y18.1.2.2.2.1 + y17))] [(48, .v (.int .i64 (W (y18.1.2.2.2.1 + y17))))] trivial [0] rfl rfl ⟨⟨trivial, rfl⟩, ⟨rfl, trivial⟩⟩ (JA.loadV ttOk panic_cxX 10 rfl (by kernel_rfl) rfl rfl rfl rfl rfl 0 rfl rfl 0 4 ((y18.1.1, y18.1.2.1, (Sl.v ⟨a20, y18.1.2.2.1.length, c21⟩), y18.1.2.2.2.1, y18.1.2.2.2.2.1, y18.1.2.2.2.2.2), y18.2.1, (Sl.v ⟨a22, y18.2.2.1.length, c23⟩), (Sl.v ⟨a24, y18.2.2.2.1.length, c25⟩), y18.2.2.2.2) ⟨rfl, rfl⟩ rfl rfl rfl trivial [0] rfl (JA.one 11 (by kernel_rfl) (JK.callX rfl rfl rfl rfl (ok_i_Grid_moveTo_in31 y18 (W (y18.1.2.2.2.1 + y17)) y18.1.2.2.2.2.1 a3 a20 c21 y18.1.2.2.1.length rfl a22 c23 y18.2.2.1.length rfl a24 c25 y18.2.2.2.1.length rfl _ hy45) rfl [0, 0, 0, 0] rfl [] rfl rfl ?_)))))
        rintro ⟨a46, c47, a48, c49, a50, c51⟩ -
        refine JA.nextL rfl (JA.done (by kernel_rfl) (JS.boxes (B' := .nil) trivial (JS.endB (JS.endJA (y44.1.1, y44.1.2.1, y44.1.2.2.1, y44.1.2.2.2.1, y44.1.2.2.2.2.1, y44.1.2.2.2.2.2, y44.2.1, y44.2.2.1, y44.2.2.2.1, y44.2.2.2.2, a46, c47, a48, c49, a50, c51) h trivial trivial [] rfl [1, 2, 3, 0] rfl rfl))))
      have h := condF h ht133
      refine JS.rg0 ttOk 2 [(54, .v (.bool (decide (x1 = 68))))] ⟨⟨rfl, trivial⟩, rfl⟩ rfl rfl ?_
      refine JS.cond rfl (fun ht132 => ?_) (fun ht132 => ?_)
      · have h := condT h ht132
        obtain ⟨y53, hy54, h⟩ := bindO_some h
        refine JS.regionA rfl .nil [0] [11] trivial rfl (fun be61 => ?_)
        refine JA.reg ttOk panic_cxX true 4 [0, 1, 2, 3, 5, 7, 8, 9] rfl (by kernel_rfl) [] [(56, .ep ⟨a3, 1, 1⟩ 0), (59, .ep ⟨a3, 1, 1⟩ 3), (61, .v (.int .i64 y17)), (65, .ep ⟨a3, 1, 1⟩ 4)] trivial [0] rfl rfl ⟨(hs128.fa ptr0).1, hs128.fa ptr0, (hs128.fa ptr0).1, hs128.fa ptr0, (Es rfl)⟩ (JA.loadV ttOk panic_cxX 4 rfl (by kernel_rfl) rfl rfl rfl rfl rfl 0 rfl rfl 0 3 ((y18.1.1, y18.1.2.1, (Sl.v ⟨a20, y18.1.2.2.1.length, c21⟩), y18.1.2.2.2.1, y18.1.2.2.2.2.1, y18.1.2.2.2.2.2), y18.2.1, (Sl.v ⟨a22, y18.2.2.1.length, c23⟩), (Sl.v ⟨a24, y18.2.2.2.1.length, c25⟩), y18.2.2.2.2) ⟨rfl, rfl⟩ rfl rfl rfl trivial [0] rfl (JA.reg ttOk panic_cxX true 2 [6] rfl (by kernel_rfl) [(W (y18.1.2.2.2.1 - y17))] [(62, .v (.int .i64 (W (y18.1.2.2.2.1 - y17))))] trivial [0] rfl rfl ⟨⟨trivial, rfl⟩, ⟨rfl, trivial⟩⟩ (JA.loadV ttOk panic_cxX 10 rfl (by kernel_rfl) rfl rfl rfl rfl rfl 0 rfl rfl 0 4 ((y18.1.1, y18.1.2.1, (Sl.v ⟨a20, y18.1.2.2.1.length, c21⟩), y18.1.2.2.2.1, y18.1.2.2.2.2.1, y18.1.2.2.2.2.2), y18.2.1, (Sl.v ⟨a22, y18.2.2.1.length, c23⟩), (Sl.v ⟨a24, y18.2.2.2.1.length, c25⟩), y18.2.2.2.2) ⟨rfl, rfl⟩ rfl rfl rfl trivial [0] rfl (JA.one 11 (by kernel_rfl) (JK.callX rfl rfl rfl rfl (ok_i_Grid_moveTo_in31 y18 (W (y18.1.2.2.2.1 - y17)) y18.1.2.2.2.2.1 a3 a20 c21 y18.1.2.2.1.length rfl a22 c23 y18.2.2.1.length rfl a24 c25 y18.2.2.2.1.length rfl _ hy54) rfl [0, 0, 0, 0] rfl [] rfl rfl ?_)))))
        rintro ⟨a55, c56, a57, c58, a59, c60⟩ -
        refine JA.nextL rfl (JA.done (by kernel_rfl) (JS.boxes (B' := .nil) trivial (JS.endB (JS.endJA (y53.1.1, y53.1.2.1, y53.1.2.2.1, y53.1.2.2.2.1, y53.1.2.2.2.2.1, y53.1.2.2.2.2.2, y53.2.1, y53.2.2.1, y53.2.2.2.1, y53.2.2.2.2, a55, c56, a57, c58, a59, c60) h trivial trivial [] rfl [1, 2, 3, 0] rfl rfl))))
      have h := condF h ht132
      refine JS.rg0 ttOk 2 [(68, .v (.bool (decide (x1 = 72))))] ⟨⟨rfl, trivial⟩, rfl⟩ rfl rfl ?_
      refine JS.cond rfl (fun ht131 => ?_) (fun ht131 => ?_)
      · have h := condT h ht131
        refine JS.region (JO.reg ttOk 2 [] [] [(70, .ep ⟨a3, 1, 1⟩ 0), (71, .ep ⟨a3, 1, 1⟩ 0)] _ rfl ⟨(Es rfl), rfl⟩ ?_)
        obtain ⟨⟨y62, y63⟩, hy64, h⟩ := bindO_some h
        refine JO.callX rfl rfl rfl rfl (ok_i_Vt_arg y18 1 a3 a20 c21 y18.1.2.2.1.length rfl a22 c23 y18.2.2.1.length rfl a24 c25 y18.2.2.2.1.length rfl _ hy64) rfl [0, 0, 0, 0] rfl [] rfl rfl ?_
        rintro ⟨a65, c66, a67, c68, a69, c70⟩ -
        refine JO.reg ttOk 3 [(W (y62 - 1)), (W (y17 - 1))] [] [(73, .v (.int .i64 (W (y62 - 1)))), (75, .v (.int .i64 (W (y17 - 1))))] _ rfl ⟨⟨trivial, rfl⟩, ⟨trivial, rfl⟩, (Es rfl), rfl⟩ ?_
        obtain ⟨y71, hy72, h⟩ := bindO_some h
        refine JO.callX rfl rfl rfl rfl (ok_i_Grid_moveTo_in31 y63 (W (y62 - 1)) (W (y17 - 1)) a3 a65 c66 y63.1.2.2.1.length rfl a67 c68 y63.2.2.1.length rfl a69 c70 y63.2.2.2.1.length rfl _ hy72) rfl [0, 0, 0, 0] rfl [] rfl rfl ?_
        rintro ⟨a73, c74, a75, c76, a77, c78⟩ -
        refine JO.done rfl (JS.endB (JS.endJA (y71.1.1, y71.1.2.1, y71.1.2.2.1, y71.1.2.2.2.1, y71.1.2.2.2.2.1, y71.1.2.2.2.2.2, y71.2.1, y71.2.2.1, y71.2.2.2.1, y71.2.2.2.2, a73, c74, a75, c76, a77, c78) h trivial trivial [] rfl [1, 2, 3, 0] rfl rfl))
      have h := condF h ht131
      refine JS.rg0 ttOk 2 [(77, .v (.bool (decide (x1 = 74))))] ⟨⟨rfl, trivial⟩, rfl⟩ rfl rfl ?_
      refine JS.cond rfl (fun ht130 => ?_) (fun ht130 => ?_)
      · have h := condT h ht130
        refine JS.region (JO.reg ttOk 4 [] [] [(79, .ep ⟨a3, 1, 1⟩ 0), (82, .ep ⟨a3, 1, 1⟩ 2)] _ rfl ⟨(hs128.fa ptr0).1, hs128.fa ptr0, (Es rfl), rfl⟩ (JO.loadV ttOk rfl rfl rfl rfl rfl rfl 0 rfl rfl 0 2 ((y18.1.1, y18.1.2.1, (Sl.v ⟨a20, y18.1.2.2.1.length, c21⟩), y18.1.2.2.2.1, y18.1.2.2.2.2.1, y18.1.2.2.2.2.2), y18.2.1, (Sl.v ⟨a22, y18.2.2.1.length, c23⟩), (Sl.v ⟨a24, y18.2.2.2.1.length, c25⟩), y18.2.2.2.2) ⟨rfl, rfl⟩ rfl rfl rfl (JO.reg ttOk 1 [] [] [(84, .v (.int .i64 (y18.1.2.2.1.length : Int)))] _ rfl ⟨⟨rfl, trivial⟩, rfl⟩ ?_)))
        obtain ⟨y79, hy80, h⟩ := bindO_some h
        refine JO.callX rfl rfl rfl rfl (ok_i_Vt_clear y18 0 (y18.1.2.2.1.length : Int) a3 a20 c21 y18.1.2.2.1.length rfl a22 c23 y18.2.2.1.length rfl a24 c25 y18.2.2.2.1.length rfl _ hy80) rfl [0, 0, 0, 0] rfl [] rfl rfl ?_
        rintro ⟨a81, c82, a83, c84, a85, c86⟩ -
        refine JO.done rfl (JS.endB (JS.endJA (y79.1.1, y79.1.2.1, y79.1.2.2.1, y79.1.2.2.2.1, y79.1.2.2.2.2.1, y79.1.2.2.2.2.2, y79.2.1, y79.2.2.1, y79.2.2.2.1, y79.2.2.2.2, a81, c82, a83, c84, a85, c86) h trivial trivial [] rfl [1, 2, 3, 0] rfl rfl))
      have h := condF h ht130
      refine JS.rg0 ttOk 2 [(86, .v (.bool (decide (x1 = 75))))] ⟨⟨rfl, trivial⟩, rfl⟩ rfl rfl ?_
      refine JS.cond rfl (fun ht129 => ?_) (fun ht129 => ?_)
      · have h := condT h ht129
        obtain ⟨y87, hy88, h⟩ := bindO_some h
        refine JS.regionA rfl .nil [0] [20] trivial rfl (fun be95 => ?_)
        refine JA.reg ttOk panic_cxX true 11 [0, 1, 2, 3, 5, 6, 7, 15, 16, 17] rfl (by kernel_rfl) [] [(88, .ep ⟨a3, 1, 1⟩ 0), (91, .ep ⟨a3, 1, 1⟩ 4), (95, .ep ⟨a3, 1, 1⟩ 0), (105, .ep ⟨a3, 1, 1⟩ 0)] trivial [0] rfl rfl ⟨(hs128.fa ptr0).1, hs128.fa ptr0, (hs128.fa ptr0).1, hs128.fa ptr0, (hs128.fa ptr0).1, hs128.fa ptr0, (Es rfl)⟩ (JA.regL ttOk panic_cxX 10 [10] rfl (by kernel_rfl) [] [(98, .ep ⟨a3, 1, 1⟩ 0)] rfl ⟨rfl, trivial⟩ (JA.reg ttOk panic_cxX true 8 [11, 12] rfl (by kernel_rfl) [] [(100, .ep ⟨a3, 1, 1⟩ 4)] trivial [0] rfl rfl ⟨(hs128.fa ptr0).1, hs128.fa ptr0, ⟨rfl, trivial⟩⟩ (JA.loadV ttOk panic_cxX 4 rfl (by kernel_rfl) rfl rfl rfl rfl rfl 0 rfl rfl 0 4 ((y18.1.1, y18.1.2.1, (Sl.v ⟨a20, y18.1.2.2.1.length, c21⟩), y18.1.2.2.2.1, y18.1.2.2.2.2.1, y18.1.2.2.2.2.2), y18.2.1, (Sl.v ⟨a22, y18.2.2.1.length, c23⟩), (Sl.v ⟨a24, y18.2.2.2.1.length, c25⟩), y18.2.2.2.2) ⟨rfl, rfl⟩ rfl rfl rfl trivial [0] rfl (JA.loadV ttOk panic_cxX 8 rfl (by kernel_rfl) rfl rfl rfl rfl rfl 0 rfl rfl 0 0 ((y18.1.1, y18.1.2.1, (Sl.v ⟨a20, y18.1.2.2.1.length, c21⟩), y18.1.2.2.2.1, y18.1.2.2.2.2.1, y18.1.2.2.2.2.2), y18.2.1, (Sl.v ⟨a22, y18.2.2.1.length, c23⟩), (Sl.v ⟨a24, y18.2.2.2.1.length, c25⟩), y18.2.2.2.2) ⟨rfl, rfl⟩ rfl rfl rfl trivial [0] rfl (JA.reg ttOk panic_cxX true 5 [9] rfl (by kernel_rfl) [(W (y18.1.2.2.2.2.1 * y18.1.1))] [(97, .v (.int .i64 (W (y18.1.2.2.2.2.1 * y18.1.1))))] trivial [0] rfl rfl ⟨⟨trivial, rfl⟩, ⟨rfl, trivial⟩⟩ (JA.loadV ttOk panic_cxX 13 rfl (by kernel_rfl) rfl rfl rfl rfl rfl 0 rfl rfl 0 4 ((y18.1.1, y18.1.2.1, (Sl.v ⟨a20, y18.1.2.2.1.length, c21⟩), y18.1.2.2.2.1, y18.1.2.2.2.2.1, y18.1.2.2.2.2.2), y18.2.1, (Sl.v ⟨a22, y18.2.2.1.length, c23⟩), (Sl.v ⟨a24, y18.2.2.2.1.length, c25⟩), y18.2.2.2.2) ⟨rfl, rfl⟩ rfl rfl rfl trivial [0] rfl (JA.reg ttOk panic_cxX true 3 [14] rfl (by kernel_rfl) [(W (y18.1.2.2.2.2.1 + 1))] [(102, .v (.int .i64 (W (y18.1.2.2.2.2.1 + 1))))] trivial [0] rfl rfl ⟨⟨trivial, rfl⟩, ⟨rfl, trivial⟩⟩ (JA.loadV ttOk panic_cxX 18 rfl (by kernel_rfl) rfl rfl rfl rfl rfl 0 rfl rfl 0 0 ((y18.1.1, y18.1.2.1, (Sl.v ⟨a20, y18.1.2.2.1.length, c21⟩), y18.1.2.2.2.1, y18.1.2.2.2.2.1, y18.1.2.2.2.2.2), y18.2.1, (Sl.v ⟨a22, y18.2.2.1.length, c23⟩), (Sl.v ⟨a24, y18.2.2.2.1.length, c25⟩), y18.2.2.2.2) ⟨rfl, rfl⟩ rfl rfl rfl trivial [0] rfl (JA.reg ttOk panic_cxX true 1 [19] rfl (by kernel_rfl) [(W ((W (y18.1.2.2.2.2.1 + 1)) * y18.1.1))] [(107, .v (.int .i64 (W ((W (y18.1.2.2.2.2.1 + 1)) * y18.1.1))))] trivial [0] rfl rfl ⟨⟨trivial, rfl⟩, ⟨rfl, trivial⟩⟩ (JA.one 20 (by kernel_rfl) (JK.callX rfl rfl rfl rfl (ok_i_Vt_clear y18 (W (y18.1.2.2.2.2.1 * y18.1.1)) (W ((W (y18.1.2.2.2.2.1 + 1)) * y18.1.1)) a3 a20 c21 y18.1.2.2.1.length rfl a22 c23 y18.2.2.1.length rfl a24 c25 y18.2.2.2.1.length rfl _ hy88) rfl [0, 0, 0, 0] rfl [] rfl rfl ?_)))))))))))
        rintro ⟨a89, c90, a91, c92, a93, c94⟩ -
        refine JA.nextL rfl (JA.done (by kernel_rfl) (JS.boxes (B' := .nil) trivial (JS.endB (JS.endJA (y87.1.1, y87.1.2.1, y87.1.2.2.1, y87.1.2.2.2.1, y87.1.2.2.2.2.1, y87.1.2.2.2.2.2, y87.2.1, y87.2.2.1, y87.2.2.2.1, y87.2.2.2.2, a89, c90, a91, c92, a93, c94) h trivial trivial [] rfl [1, 2, 3, 0] rfl rfl))))
      have h := condF h ht129
      refine JS.skip (JS.endB (JS.endJA (y18.1.1, y18.1.2.1, y18.1.2.2.1, y18.1.2.2.2.1, y18.1.2.2.2.2.1, y18.1.2.2.2.2.2, y18.2.1, y18.2.2.1, y18.2.2.2.1, y18.2.2.2.2, a20, c21, a22, c23, a24, c25) h trivial trivial [] rfl [1, 2, 3, 0] rfl rfl))
    rintro ⟨x103, x104, x105, x108, x109, x110, x111, x112, x115, x118, a106, c107, a113, c114, a116, c117⟩ h
    subst hj136
    cases h
    exact JS.fallX ttOk (a106, c107, a113, c114, a116, c117) trivial rfl rfl [3, 0, 0, 0] rfl

def M_i_Vt_sequence (x0 : (Int × Int × List Int × Int × Int × Bool) × Int × List Int × List UInt8 × Int) (x1 : Int) : Option ((Int × Int × List Int × Int × Int × Bool) × Int × List Int × List UInt8 × Int) :=
  (joinO (fun ((x70, x71, x72, x75, x76, x77, x78, x79, x82, x85) : Int × Int × List Int × Int × Int × Bool × Int × List Int × List UInt8 × Int) =>
  some ((x70, x71, x72, x75, x76, x77), 0, [], x82, x85)) fun j86 =>
  (bindO (M_i_isDigit x1) fun (y16 : Bool) =>
  (bif y16 then
  (joinO (fun (x21 : List Int) =>
  (guardO (0 ≤ (W ((x21.length : Int) - 1)) ∧ (W ((x21.length : Int) - 1)) < (x21.length : Int)) <|
  (guardO (0 ≤ (W ((x21.length : Int) - 1)) ∧ (W ((x21.length : Int) - 1)) < (x21.length : Int)) <|
  some (x0.1, x0.2.1, (List.set x21 (Int.toNat (W ((x21.length : Int) - 1))) (min (W ((W ((W (10 * (at' x21 (W ((x21.length : Int) - 1))))) + x1)) - 48)) 9999)), x0.2.2.2.1, x0.2.2.2.2)))) fun j24 =>
  (bif (decide ((x0.2.2.1.length : Int) = 0)) then
  j24 ([0] : List Int)
  else
  j24 x0.2.2.1))
  else
  (bif (decide (x1 = 59)) then
  (joinO (fun (x37 : List Int) =>
  (joinO (fun (x49 : List Int) =>
  some (x0.1, x0.2.1, x49, x0.2.2.2.1, x0.2.2.2.2)) fun j52 =>
  (bif (decide ((x37.length : Int) < 4)) then
  (guardO (x37.length + ([0] : List Int).length ≤ 536870912) <|
  j52 (x37 ++ ([0] : List Int)))
  else
  j52 x37))) fun j40 =>
  (bif (decide ((x0.2.2.1.length : Int) = 0)) then
  j40 ([0] : List Int)
  else
  j40 x0.2.2.1))
  else
  (bindO (M_i_in x1 64 126) fun (y57 : Bool) =>
  (bif y57 then
  (bindO (M_i_Vt_control x0 x1) fun (y59 : (Int × Int × List Int × Int × Int × Bool) × Int × List Int × List UInt8 × Int) =>
  j86 (y59.1.1, y59.1.2.1, y59.1.2.2.1, y59.1.2.2.2.1, y59.1.2.2.2.2.1, y59.1.2.2.2.2.2, y59.2.1, y59.2.2.1, y59.2.2.2.1, y59.2.2.2.2))
  else
  j86 (x0.1.1, x0.1.2.1, x0.1.2.2.1, x0.1.2.2.2.1, x0.1.2.2.2.2.1, x0.1.2.2.2.2.2, x0.2.1, x0.2.2.1, x0.2.2.2.1, x0.2.2.2.2)))))))

theorem ok_i_Vt_sequence (x0 : (Int × Int × List Int × Int × Int × Bool) × Int × List Int × List UInt8 × Int) (x1 : Int) (a3 : Option Addr) (a4 : Option Addr) (c5 : Nat) (l6 : Nat) (hl7 : x0.1.2.2.1.length = l6) (a8 : Option Addr) (c9 : Nat) (l10 : Nat) (hl11 : x0.2.2.1.length = l10) (a12 : Option Addr) (c13 : Nat) (l14 : Nat) (hl15 : x0.2.2.2.1.length = l14) (r : (Int × Int × List Int × Int × Int × Bool) × Int × List Int × List UInt8 × Int) (h : M_i_Vt_sequence x0 x1 = some r) :
    FX Tryd.prog 38 [.pointer a3, .int .i64 x1] [] [⟨(.pair (.pair (.int .i64) (.pair (.int .i64) (.pair .val (.pair (.int .i64) (.pair (.int .i64) .bool))))) (.pair (.int .i64) (.pair .val (.pair .val (.int .i64))))), ⟨a3, 1, 1⟩, [((x0.1.1, x0.1.2.1, (Sl.v ⟨a4, l6, c5⟩), x0.1.2.2.2.1, x0.1.2.2.2.2.1, x0.1.2.2.2.2.2), x0.2.1, (Sl.v ⟨a8, l10, c9⟩), (Sl.v ⟨a12, l14, c13⟩), x0.2.2.2.2)]⟩, ⟨(.int .i64), ⟨a4, l6, c5⟩, x0.1.2.2.1⟩, ⟨(.int .i64), ⟨a8, l10, c9⟩, x0.2.2.1⟩, ⟨.byte, ⟨a12, l14, c13⟩, x0.2.2.2.1⟩] (fun _ : Option Addr × Nat × Option Addr × Nat × Option Addr × Nat => True) (fun q => .tuple #[]) (fun q => [⟨(.pair (.pair (.int .i64) (.pair (.int .i64) (.pair .val (.pair (.int .i64) (.pair (.int .i64) .bool))))) (.pair (.int .i64) (.pair .val (.pair .val (.int .i64))))), ⟨a3, 1, 1⟩, [((r.1.1, r.1.2.1, (Sl.v ⟨q.1, r.1.2.2.1.length, q.2.1⟩), r.1.2.2.2.1, r.1.2.2.2.2.1, r.1.2.2.2.2.2), r.2.1, (Sl.v ⟨q.2.2.1, r.2.2.1.length, q.2.2.2.1⟩), (Sl.v ⟨q.2.2.2.2.1, r.2.2.2.1.length, q.2.2.2.2.2⟩), r.2.2.2.2)]⟩, ⟨(.int .i64), ⟨q.1, r.1.2.2.1.length, q.2.1⟩, r.1.2.2.1⟩, ⟨(.int .i64), ⟨q.2.2.1, r.2.2.1.length, q.2.2.2.1⟩, r.2.2.1⟩, ⟨.byte, ⟨q.2.2.2.2.1, r.2.2.2.1.length, q.2.2.2.2.2⟩, r.2.2.2.1⟩]) :=
  by
    subst hl7
    subst hl11
    subst hl15
    refine FX.of (T := TTx) Tryd.call38 Tryd.func38 rfl rfl fun w0 L0 => ?_
    unfold M_i_Vt_sequence at h
    refine JS.ptr 0 a3 rfl ?_
    refine JS.seq ?_
    obtain ⟨j86, hj120, h⟩ := joinO_some h
    refine JS.blockJ (ι := Int × Int × List Int × Int × Int × Bool × Int × List Int × List UInt8 × Int × Option Addr × Nat × Option Addr × Nat × Option Addr × Nat) ⟨fun z => j86 (z.1, z.2.1, z.2.2.1, z.2.2.2.1, z.2.2.2.2.1, z.2.2.2.2.2.1, z.2.2.2.2.2.2.1, z.2.2.2.2.2.2.2.1, z.2.2.2.2.2.2.2.2.1, z.2.2.2.2.2.2.2.2.2.1) = some r, fun z => [(0, .ep ⟨a3, 1, 1⟩ 0)], fun z => .nil, fun z => [], fun z => [⟨(.int .i64), ⟨z.2.2.2.2.2.2.2.2.2.2.1, z.2.2.1.length, z.2.2.2.2.2.2.2.2.2.2.2.1⟩, z.2.2.1⟩, ⟨(.int .i64), ⟨z.2.2.2.2.2.2.2.2.2.2.2.2.1, z.2.2.2.2.2.2.2.1.length, z.2.2.2.2.2.2.2.2.2.2.2.2.2.1⟩, z.2.2.2.2.2.2.2.1⟩, ⟨.byte, ⟨z.2.2.2.2.2.2.2.2.2.2.2.2.2.2.1, z.2.2.2.2.2.2.2.2.1.length, z.2.2.2.2.2.2.2.2.2.2.2.2.2.2.2⟩, z.2.2.2.2.2.2.2.2.1⟩, ⟨(.pair (.pair (.int .i64) (.pair (.int .i64) (.pair .val (.pair (.int .i64) (.pair (.int .i64) .bool))))) (.pair (.int .i64) (.pair .val (.pair .val (.int .i64))))), ⟨a3, 1, 1⟩, [((z.1, z.2.1, (Sl.v ⟨z.2.2.2.2.2.2.2.2.2.2.1, z.2.2.1.length, z.2.2.2.2.2.2.2.2.2.2.2.1⟩), z.2.2.2.1, z.2.2.2.2.1, z.2.2.2.2.2.1), z.2.2.2.2.2.2.1, (Sl.v ⟨z.2.2.2.2.2.2.2.2.2.2.2.2.1, z.2.2.2.2.2.2.2.1.length, z.2.2.2.2.2.2.2.2.2.2.2.2.2.1⟩), (Sl.v ⟨z.2.2.2.2.2.2.2.2.2.2.2.2.2.2.1, z.2.2.2.2.2.2.2.2.1.length, z.2.2.2.2.2.2.2.2.2.2.2.2.2.2.2⟩), z.2.2.2.2.2.2.2.2.2.1)]⟩], fun z => 0⟩ ?_ ?_
    · refine JS.seq (JS.region (JO.reg ttOk 1 [] [] [(6, .v (.int .i64 x1))] _ rfl ⟨⟨rfl, trivial⟩, rfl⟩ ?_))
      obtain ⟨y16, hy17, h⟩ := bindO_some h
      refine JO.call rfl rfl rfl rfl (ok_i_isDigit x1 _ hy17) rfl [] rfl rfl fun _ _ => JO.reg ttOk 1 [] [] [(5, .v (.bool y16))] _ rfl ⟨⟨rfl, trivial⟩, rfl⟩ (JO.done rfl ?_)
      refine JS.cond rfl (fun ht118 => ?_) (fun ht118 => ?_)
      · have h := condT h ht118
        obtain ⟨j24, hj109, h⟩ := joinO_some h
        refine JS.seqJ (ι := List Int × Option Addr × Nat) ⟨fun z => j24 z.1 = some r, fun z => [(0, .ep ⟨a3, 1, 1⟩ 0), (1, .v (.int .i64 x1))], fun z => .nil, fun z => [], fun z => [⟨(.int .i64), ⟨z.2.1, z.1.length, z.2.2⟩, z.1⟩, ⟨(.pair (.pair (.int .i64) (.pair (.int .i64) (.pair .val (.pair (.int .i64) (.pair (.int .i64) .bool))))) (.pair (.int .i64) (.pair .val (.pair .val (.int .i64))))), ⟨a3, 1, 1⟩, [((x0.1.1, x0.1.2.1, (Sl.v ⟨a4, x0.1.2.2.1.length, c5⟩), x0.1.2.2.2.1, x0.1.2.2.2.2.1, x0.1.2.2.2.2.2), x0.2.1, (Sl.v ⟨z.2.1, z.1.length, z.2.2⟩), (Sl.v ⟨a12, x0.2.2.2.1.length, c13⟩), x0.2.2.2.2)]⟩, ⟨(.int .i64), ⟨a4, x0.1.2.2.1.length, c5⟩, x0.1.2.2.1⟩, ⟨.byte, ⟨a12, x0.2.2.2.1.length, c13⟩, x0.2.2.2.1⟩], fun z => 0⟩ ?_ ?_
        · refine JS.seq (JS.region (JO.know 0 rfl fun hs104 => JO.reg ttOk 3 [] [] [(10, .ep ⟨a3, 1, 1⟩ 7)] _ rfl ⟨(hs104.fa ptr0).1, hs104.fa ptr0, ⟨rfl, trivial⟩, rfl⟩ (JO.loadV ttOk rfl rfl rfl rfl rfl rfl 0 rfl rfl 0 7 ((x0.1.1, x0.1.2.1, (Sl.v ⟨a4, x0.1.2.2.1.length, c5⟩), x0.1.2.2.2.1, x0.1.2.2.2.2.1, x0.1.2.2.2.2.2), x0.2.1, (Sl.v ⟨a8, x0.2.2.1.length, c9⟩), (Sl.v ⟨a12, x0.2.2.2.1.length, c13⟩), x0.2.2.2.2) ⟨rfl, rfl⟩ rfl rfl rfl (JO.reg ttOk 2 [] [] [(13, .v (.bool (decide ((x0.2.2.1.length : Int) = 0))))] _ rfl ⟨⟨rfl, trivial⟩, rfl⟩ (JO.done rfl ?_)))))
          refine JS.cond rfl (fun ht105 => ?_) (fun ht105 => ?_)
          · have h := condT h ht105
            refine JS.region (JO.reg ttOk 1 [] [] [(14, .ep ⟨a3, 1, 1⟩ 0)] _ rfl ⟨⟨rfl, trivial⟩, rfl⟩ ?_)
            refine JO.ofK rfl (JK.buildSlice ttOk rfl rfl rfl rfl rfl rfl rfl rfl rfl rfl rfl [] rfl (.int .i64) [0] ⟨rfl, rfl⟩ rfl rfl fun a19 => JO.toK ?_)
            refine JO.reg ttOk 2 [] [] [(17, .ep ⟨a3, 1, 1⟩ 7)] _ rfl ⟨(hs104.fa ptr0).1, hs104.fa ptr0, ⟨rfl, trivial⟩, rfl⟩ (JO.storeE ttOk rfl rfl rfl rfl rfl rfl rfl rfl rfl [1] (fs := []) rfl 0 7 ((x0.1.1, x0.1.2.1, (Sl.v ⟨a4, x0.1.2.2.1.length, c5⟩), x0.1.2.2.2.1, x0.1.2.2.2.2.1, x0.1.2.2.2.2.2), x0.2.1, (Sl.v ⟨a8, x0.2.2.1.length, c9⟩), (Sl.v ⟨a12, x0.2.2.2.1.length, c13⟩), x0.2.2.2.2) ((x0.1.1, x0.1.2.1, (Sl.v ⟨a4, x0.1.2.2.1.length, c5⟩), x0.1.2.2.2.1, x0.1.2.2.2.2.1, x0.1.2.2.2.2.2), x0.2.1, (Sl.v ⟨a19, ([0] : List Int).length, ([0] : List Int).length⟩), (Sl.v ⟨a12, x0.2.2.2.1.length, c13⟩), x0.2.2.2.2) ⟨rfl, rfl⟩ ⟨⟨⟨⟨rfl, rfl, rfl, rfl⟩, rfl⟩, rfl⟩, rfl⟩ (JO.done rfl (JS.endJA (([0] : List Int), a19, ([0] : List Int).length) h (Es rfl) trivial [] rfl [1, 0, 2, 4] rfl rfl)))
          have h := condF h ht105
          refine JS.skip (JS.endJA (x0.2.2.1, a8, c9) h (Es rfl) trivial [] rfl [2, 0, 1, 3] rfl rfl)
        rintro ⟨x21, a22, c23⟩ h
        subst hj109
        refine JS.seq (JS.region (JO.know 1 rfl fun hs106 => JO.reg ttOk 3 [] [] [(20, .ep ⟨a3, 1, 1⟩ 7)] _ rfl ⟨(hs106.fa ptr0).1, hs106.fa ptr0, ⟨rfl, trivial⟩, rfl⟩ (JO.loadV ttOk rfl rfl rfl rfl rfl rfl 1 rfl rfl 0 7 ((x0.1.1, x0.1.2.1, (Sl.v ⟨a4, x0.1.2.2.1.length, c5⟩), x0.1.2.2.2.1, x0.1.2.2.2.2.1, x0.1.2.2.2.2.2), x0.2.1, (Sl.v ⟨a22, x21.length, c23⟩), (Sl.v ⟨a12, x0.2.2.2.1.length, c13⟩), x0.2.2.2.2) ⟨rfl, rfl⟩ rfl rfl rfl (JO.reg ttOk 3 [(W ((x21.length : Int) - 1))] [] [(4, .v (.int .i64 (W ((x21.length : Int) - 1))))] _ rfl ⟨⟨trivial, rfl⟩, ⟨rfl, trivial⟩, rfl⟩ (JO.done rfl (JS.seq ?_))))))
        obtain ⟨g29, h⟩ := guardO_some h
        obtain ⟨g30, h⟩ := guardO_some h
        refine JS.know 0 rfl fun hs108 => ?_
        refine JS.regionA rfl .nil [1, 0] [17, 18] trivial rfl (fun be32 => ?_)
        refine JA.reg ttOk panic_cxX true 10 [0, 1, 2, 4, 5, 6, 7, 9, 13] rfl (by kernel_rfl) [] [(26, .ep ⟨a3, 1, 1⟩ 7), (28, .v (.int .i64 (W ((x21.length : Int) - 1)))), (31, .ep ⟨a3, 1, 1⟩ 7), (33, .v (.int .i64 (W ((x21.length : Int) - 1)))), (37, .v (.int .i64 x1))] trivial [1, 0] rfl rfl ⟨(hs106.fa ptr0).1, hs106.fa ptr0, (hs106.fa ptr0).1, hs106.fa ptr0, (Es rfl)⟩ (JA.loadV ttOk panic_cxX 3 rfl (by kernel_rfl) rfl rfl rfl rfl rfl 0 rfl rfl 0 7 ((x0.1.1, x0.1.2.1, (Sl.v ⟨a4, x0.1.2.2.1.length, c5⟩), x0.1.2.2.2.1, x0.1.2.2.2.2.1, x0.1.2.2.2.2.2), x0.2.1, (Sl.v ⟨a22, x21.length, c23⟩), (Sl.v ⟨a12, x0.2.2.2.1.length, c13⟩), x0.2.2.2.2) ⟨rfl, rfl⟩ rfl rfl rfl trivial [1, 0] rfl (JA.loadV ttOk panic_cxX 8 rfl (by kernel_rfl) rfl rfl rfl rfl rfl 0 rfl rfl 0 7 ((x0.1.1, x0.1.2.1, (Sl.v ⟨a4, x0.1.2.2.1.length, c5⟩), x0.1.2.2.2.1, x0.1.2.2.2.2.1, x0.1.2.2.2.2.2), x0.2.1, (Sl.v ⟨a22, x21.length, c23⟩), (Sl.v ⟨a12, x0.2.2.2.1.length, c13⟩), x0.2.2.2.2) ⟨rfl, rfl⟩ rfl rfl rfl trivial [1, 0] rfl (JA.reg ttOk panic_cxX true 7 [10] rfl (by kernel_rfl) [] [(34, .ep ⟨a22, x21.length, c23⟩ (Int.toNat (W ((x21.length : Int) - 1)) * 1))] trivial [1, 0] rfl rfl ⟨hs108.ix g29, ⟨rfl, trivial⟩⟩ (JA.load ttOk panic_cxX 11 rfl (by kernel_rfl) rfl rfl rfl rfl rfl rfl 1 rfl rfl (Int.toNat (W ((x21.length : Int) - 1))) 0 (at' x21 (W ((x21.length : Int) - 1))) ⟨at_some g29, rfl⟩ rfl rfl trivial [1, 0] rfl (JA.reg ttOk panic_cxX true 2 [12, 14, 15, 16] rfl (by kernel_rfl) [(W (10 * (at' x21 (W ((x21.length : Int) - 1))))), (W ((W (10 * (at' x21 (W ((x21.length : Int) - 1))))) + x1)), (W ((W ((W (10 * (at' x21 (W ((x21.length : Int) - 1))))) + x1)) - 48))] [(40, .v (.int .i64 (min (W ((W ((W (10 * (at' x21 (W ((x21.length : Int) - 1))))) + x1)) - 48)) 9999)))] trivial [1, 0] rfl rfl ⟨⟨trivial, rfl⟩, ⟨trivial, rfl⟩, ⟨trivial, rfl⟩, ⟨rfl, trivial⟩⟩ (JA.regL ttOk panic_cxX 1 [17] rfl (by kernel_rfl) [] [(41, .ep ⟨a22, x21.length, c23⟩ (Int.toNat (W ((x21.length : Int) - 1)) * 1))] rfl ⟨hs108.ix g30, ⟨rfl, trivial⟩⟩ (JA.one 18 (by kernel_rfl) (JK.storeE ttOk rfl rfl rfl rfl rfl rfl rfl rfl rfl [0] (fs := []) rfl (Int.toNat (W ((x21.length : Int) - 1))) 0 (at' x21 (W ((x21.length : Int) - 1))) (min (W ((W ((W (10 * (at' x21 (W ((x21.length : Int) - 1))))) + x1)) - 48)) 9999) ⟨at_some g30, rfl⟩ ⟨rfl, rfl, rfl⟩ (JA.nextL rfl (JA.done (by kernel_rfl) (JS.boxes (B' := .nil) trivial ?_)))))))))))
        cases h
        exact JS.retX ttOk (a4, c5, a22, c23, a12, c13) trivial rfl rfl [1, 1, 0, 0] (by simp only [List.length_set, List.length_replicate, pickO, getF, cl25, cl31]; rfl)
      have h := condF h ht118
      refine JS.rg0 ttOk 3 [(42, .v (.bool (decide (x1 = 59))))] ⟨⟨rfl, trivial⟩, rfl⟩ rfl rfl ?_
      refine JS.cond rfl (fun ht117 => ?_) (fun ht117 => ?_)
      · have h := condT h ht117
        obtain ⟨j40, hj115, h⟩ := joinO_some h
        refine JS.seqJ (ι := List Int × Option Addr × Nat) ⟨fun z => j40 z.1 = some r, fun z => [(0, .ep ⟨a3, 1, 1⟩ 0)], fun z => .nil, fun z => [], fun z => [⟨(.int .i64), ⟨z.2.1, z.1.length, z.2.2⟩, z.1⟩, ⟨(.pair (.pair (.int .i64) (.pair (.int .i64) (.pair .val (.pair (.int .i64) (.pair (.int .i64) .bool))))) (.pair (.int .i64) (.pair .val (.pair .val (.int .i64))))), ⟨a3, 1, 1⟩, [((x0.1.1, x0.1.2.1, (Sl.v ⟨a4, x0.1.2.2.1.length, c5⟩), x0.1.2.2.2.1, x0.1.2.2.2.2.1, x0.1.2.2.2.2.2), x0.2.1, (Sl.v ⟨z.2.1, z.1.length, z.2.2⟩), (Sl.v ⟨a12, x0.2.2.2.1.length, c13⟩), x0.2.2.2.2)]⟩, ⟨(.int .i64), ⟨a4, x0.1.2.2.1.length, c5⟩, x0.1.2.2.1⟩, ⟨.byte, ⟨a12, x0.2.2.2.1.length, c13⟩, x0.2.2.2.1⟩], fun z => 0⟩ ?_ ?_
        · refine JS.seq (JS.region (JO.know 0 rfl fun hs110 => JO.reg ttOk 3 [] [] [(47, .ep ⟨a3, 1, 1⟩ 7)] _ rfl ⟨(hs110.fa ptr0).1, hs110.fa ptr0, ⟨rfl, trivial⟩, rfl⟩ (JO.loadV ttOk rfl rfl rfl rfl rfl rfl 0 rfl rfl 0 7 ((x0.1.1, x0.1.2.1, (Sl.v ⟨a4, x0.1.2.2.1.length, c5⟩), x0.1.2.2.2.1, x0.1.2.2.2.2.1, x0.1.2.2.2.2.2), x0.2.1, (Sl.v ⟨a8, x0.2.2.1.length, c9⟩), (Sl.v ⟨a12, x0.2.2.2.1.length, c13⟩), x0.2.2.2.2) ⟨rfl, rfl⟩ rfl rfl rfl (JO.reg ttOk 2 [] [] [(50, .v (.bool (decide ((x0.2.2.1.length : Int) = 0))))] _ rfl ⟨⟨rfl, trivial⟩, rfl⟩ (JO.done rfl ?_)))))
          refine JS.cond rfl (fun ht111 => ?_) (fun ht111 => ?_)
          · have h := condT h ht111
            refine JS.region (JO.reg ttOk 1 [] [] [(51, .ep ⟨a3, 1, 1⟩ 0)] _ rfl ⟨⟨rfl, trivial⟩, rfl⟩ ?_)
            refine JO.ofK rfl (JK.buildSlice ttOk rfl rfl rfl rfl rfl rfl rfl rfl rfl rfl rfl [] rfl (.int .i64) [0] ⟨rfl, rfl⟩ rfl rfl fun a35 => JO.toK ?_)
            refine JO.reg ttOk 2 [] [] [(54, .ep ⟨a3, 1, 1⟩ 7)] _ rfl ⟨(hs110.fa ptr0).1, hs110.fa ptr0, ⟨rfl, trivial⟩, rfl⟩ (JO.storeE ttOk rfl rfl rfl rfl rfl rfl rfl rfl rfl [1] (fs := []) rfl 0 7 ((x0.1.1, x0.1.2.1, (Sl.v ⟨a4, x0.1.2.2.1.length, c5⟩), x0.1.2.2.2.1, x0.1.2.2.2.2.1, x0.1.2.2.2.2.2), x0.2.1, (Sl.v ⟨a8, x0.2.2.1.length, c9⟩), (Sl.v ⟨a12, x0.2.2.2.1.length, c13⟩), x0.2.2.2.2) ((x0.1.1, x0.1.2.1, (Sl.v ⟨a4, x0.1.2.2.1.length, c5⟩), x0.1.2.2.2.1, x0.1.2.2.2.2.1, x0.1.2.2.2.2.2), x0.2.1, (Sl.v ⟨a35, ([0] : List Int).length, ([0] : List Int).length⟩), (Sl.v ⟨a12, x0.2.2.2.1.length, c13⟩), x0.2.2.2.2) ⟨rfl, rfl⟩ ⟨⟨⟨⟨rfl, rfl, rfl, rfl⟩, rfl⟩, rfl⟩, rfl⟩ (JO.done rfl (JS.endJA (([0] : List Int), a35, ([0] : List Int).length) h ⟨rfl, trivial⟩ trivial [] rfl [1, 0, 2, 4] rfl rfl)))
          have h := condF h ht111
          refine JS.skip (JS.endJA (x0.2.2.1, a8, c9) h ⟨rfl, trivial⟩ trivial [] rfl [2, 0, 1, 3] rfl rfl)
        rintro ⟨x37, a38, c39⟩ h
        subst hj115
        obtain ⟨j52, hj114, h⟩ := joinO_some h
        refine JS.seqJ (ι := List Int × Option Addr × Nat) ⟨fun z => j52 z.1 = some r, fun z => [], fun z => .nil, fun z => [], fun z => [⟨(.int .i64), ⟨z.2.1, z.1.length, z.2.2⟩, z.1⟩, ⟨(.pair (.pair (.int .i64) (.pair (.int .i64) (.pair .val (.pair (.int .i64) (.pair (.int .i64) .bool))))) (.pair (.int .i64) (.pair .val (.pair .val (.int .i64))))), ⟨a3, 1, 1⟩, [((x0.1.1, x0.1.2.1, (Sl.v ⟨a4, x0.1.2.2.1.length, c5⟩), x0.1.2.2.2.1, x0.1.2.2.2.2.1, x0.1.2.2.2.2.2), x0.2.1, (Sl.v ⟨z.2.1, z.1.length, z.2.2⟩), (Sl.v ⟨a12, x0.2.2.2.1.length, c13⟩), x0.2.2.2.2)]⟩, ⟨(.int .i64), ⟨a4, x0.1.2.2.1.length, c5⟩, x0.1.2.2.1⟩, ⟨.byte, ⟨a12, x0.2.2.2.1.length, c13⟩, x0.2.2.2.1⟩], fun z => 0⟩ ?_ ?_
        · refine JS.seq (JS.region (JO.know 1 rfl fun hs112 => JO.reg ttOk 3 [] [] [(57, .ep ⟨a3, 1, 1⟩ 7)] _ rfl ⟨(hs112.fa ptr0).1, hs112.fa ptr0, ⟨rfl, trivial⟩, rfl⟩ (JO.loadV ttOk rfl rfl rfl rfl rfl rfl 1 rfl rfl 0 7 ((x0.1.1, x0.1.2.1, (Sl.v ⟨a4, x0.1.2.2.1.length, c5⟩), x0.1.2.2.2.1, x0.1.2.2.2.2.1, x0.1.2.2.2.2.2), x0.2.1, (Sl.v ⟨a38, x37.length, c39⟩), (Sl.v ⟨a12, x0.2.2.2.1.length, c13⟩), x0.2.2.2.2) ⟨rfl, rfl⟩ rfl rfl rfl (JO.reg ttOk 2 [] [] [(60, .v (.bool (decide ((x37.length : Int) < 4))))] _ rfl ⟨⟨rfl, trivial⟩, rfl⟩ (JO.done rfl ?_)))))
          refine JS.cond rfl (fun ht113 => ?_) (fun ht113 => ?_)
          · have h := condT h ht113
            refine JS.region (JO.reg ttOk 4 [] [] [(61, .ep ⟨a3, 1, 1⟩ 0), (64, .ep ⟨a3, 1, 1⟩ 7)] _ rfl ⟨(hs112.fa ptr0).1, hs112.fa ptr0, (Es rfl), rfl⟩ (JO.loadV ttOk rfl rfl rfl rfl rfl rfl 1 rfl rfl 0 7 ((x0.1.1, x0.1.2.1, (Sl.v ⟨a4, x0.1.2.2.1.length, c5⟩), x0.1.2.2.2.1, x0.1.2.2.2.2.1, x0.1.2.2.2.2.2), x0.2.1, (Sl.v ⟨a38, x37.length, c39⟩), (Sl.v ⟨a12, x0.2.2.2.1.length, c13⟩), x0.2.2.2.2) ⟨rfl, rfl⟩ rfl rfl rfl ?_))
            refine JO.ofK rfl (JK.buildSlice ttOk rfl rfl rfl rfl rfl rfl rfl rfl rfl rfl rfl [] rfl (.int .i64) [0] ⟨rfl, rfl⟩ rfl rfl fun a44 => JO.toK ?_)
            obtain ⟨g45, h⟩ := guardO_some h
            refine JO.appendR' ttOk rfl rfl rfl rfl ⟨rfl, rfl, rfl, rfl, trivial, rfl, rfl, rfl, rfl⟩ rfl rfl rfl [1] rfl 0 rfl g45 rfl fun a46 c47 => JO.reg ttOk 2 [] [] [(69, .ep ⟨a3, 1, 1⟩ 7)] _ rfl ⟨(hs112.fa ptr0).1, hs112.fa ptr0, ⟨rfl, trivial⟩, rfl⟩ (JO.storeE ttOk rfl rfl rfl rfl rfl rfl rfl rfl rfl [2] (fs := []) rfl 0 7 ((x0.1.1, x0.1.2.1, (Sl.v ⟨a4, x0.1.2.2.1.length, c5⟩), x0.1.2.2.2.1, x0.1.2.2.2.2.1, x0.1.2.2.2.2.2), x0.2.1, (Sl.v ⟨a38, x37.length, c39⟩), (Sl.v ⟨a12, x0.2.2.2.1.length, c13⟩), x0.2.2.2.2) ((x0.1.1, x0.1.2.1, (Sl.v ⟨a4, x0.1.2.2.1.length, c5⟩), x0.1.2.2.2.1, x0.1.2.2.2.2.1, x0.1.2.2.2.2.2), x0.2.1, (Sl.v ⟨a46, (x37 ++ ([0] : List Int)).length, c47⟩), (Sl.v ⟨a12, x0.2.2.2.1.length, c13⟩), x0.2.2.2.2) ⟨rfl, rfl⟩ ⟨⟨⟨⟨rfl, rfl, rfl, rfl⟩, rfl⟩, rfl⟩, rfl⟩ (JO.done rfl (JS.endJA ((x37 ++ ([0] : List Int)), a46, c47) h trivial trivial [] rfl [1, 0, 3, 4] rfl rfl)))
          have h := condF h ht113
          refine JS.skip (JS.endJA (x37, a38, c39) h trivial trivial [] rfl [0, 1, 2, 3] rfl rfl)
        rintro ⟨x49, a50, c51⟩ h
        subst hj114
        cases h
        exact JS.retX ttOk (a4, c5, a50, c51, a12, c13) trivial rfl rfl [1, 1, 0, 0] rfl
      have h := condF h ht117
      refine JS.seq (JS.region (JO.reg ttOk 1 [] [] [(71, .v (.int .i64 x1))] _ rfl ⟨⟨rfl, trivial⟩, rfl⟩ ?_))
      obtain ⟨y57, hy58, h⟩ := bindO_some h
      refine JO.call rfl rfl rfl rfl (ok_i_in x1 64 126 _ hy58) rfl [] rfl rfl fun _ _ => JO.reg ttOk 1 [] [] [(70, .v (.bool y57))] _ rfl ⟨⟨rfl, trivial⟩, rfl⟩ (JO.done rfl ?_)
      refine JS.cond rfl (fun ht116 => ?_) (fun ht116 => ?_)
      · have h := condT h ht116
        refine JS.region (JO.reg ttOk 2 [] [] [(73, .ep ⟨a3, 1, 1⟩ 0), (74, .v (.int .i64 x1))] _ rfl ⟨(Es rfl), rfl⟩ ?_)
        obtain ⟨y59, hy60, h⟩ := bindO_some h
        refine JO.callX rfl rfl rfl rfl (ok_i_Vt_control x0 x1 a3 a4 c5 x0.1.2.2.1.length rfl a8 c9 x0.2.2.1.length rfl a12 c13 x0.2.2.2.1.length rfl _ hy60) rfl [0, 0, 0, 0] rfl [] rfl rfl ?_
        rintro ⟨a61, c62, a63, c64, a65, c66⟩ -
        refine JO.done rfl (JS.endB (JS.endJA (y59.1.1, y59.1.2.1, y59.1.2.2.1, y59.1.2.2.2.1, y59.1.2.2.2.2.1, y59.1.2.2.2.2.2, y59.2.1, y59.2.2.1, y59.2.2.2.1, y59.2.2.2.2, a61, c62, a63, c64, a65, c66) h ⟨rfl, trivial⟩ trivial [] rfl [1, 2, 3, 0] rfl rfl))
      have h := condF h ht116
      refine JS.skip (JS.endB (JS.endJA (x0.1.1, x0.1.2.1, x0.1.2.2.1, x0.1.2.2.2.1, x0.1.2.2.2.2.1, x0.1.2.2.2.2.2, x0.2.1, x0.2.2.1, x0.2.2.2.1, x0.2.2.2.2, a4, c5, a8, c9, a12, c13) h ⟨rfl, trivial⟩ trivial [] rfl [1, 2, 3, 0] rfl rfl))
    rintro ⟨x70, x71, x72, x75, x76, x77, x78, x79, x82, x85, a73, c74, a80, c81, a83, c84⟩ h
    subst hj120
    refine JS.region (JO.know 3 rfl fun hs119 => JO.reg ttOk 4 [] [] [(77, .ep ⟨a3, 1, 1⟩ 0), (79, .ep ⟨a3, 1, 1⟩ 6)] _ rfl ⟨(hs119.fa ptr0).1, hs119.fa ptr0, (Es rfl), rfl⟩ (JO.storeE ttOk rfl rfl rfl rfl rfl rfl rfl rfl rfl [3] (fs := []) rfl 0 6 ((x70, x71, (Sl.v ⟨a73, x72.length, c74⟩), x75, x76, x77), x78, (Sl.v ⟨a80, x79.length, c81⟩), (Sl.v ⟨a83, x82.length, c84⟩), x85) ((x70, x71, (Sl.v ⟨a73, x72.length, c74⟩), x75, x76, x77), 0, (Sl.v ⟨a80, x79.length, c81⟩), (Sl.v ⟨a83, x82.length, c84⟩), x85) ⟨rfl, rfl⟩ ⟨⟨⟨rfl, rfl, rfl⟩, rfl⟩, rfl⟩ (JO.reg ttOk 2 [] [] [(81, .ep ⟨a3, 1, 1⟩ 7)] _ rfl ⟨(hs119.fa ptr0).1, hs119.fa ptr0, ⟨rfl, trivial⟩, rfl⟩ (JO.storeE ttOk rfl rfl rfl rfl rfl rfl rfl rfl rfl [0] (fs := []) rfl 0 7 ((x70, x71, (Sl.v ⟨a73, x72.length, c74⟩), x75, x76, x77), 0, (Sl.v ⟨a80, x79.length, c81⟩), (Sl.v ⟨a83, x82.length, c84⟩), x85) ((x70, x71, (Sl.v ⟨a73, x72.length, c74⟩), x75, x76, x77), 0, (Sl.v ⟨none, 0, 0⟩), (Sl.v ⟨a83, x82.length, c84⟩), x85) ⟨rfl, rfl⟩ ⟨⟨⟨⟨rfl, rfl, rfl, rfl⟩, rfl⟩, rfl⟩, rfl⟩ (JO.done rfl ?_)))))
    cases h
    refine JS.nilO (.int .i64) Sl.nil rfl rfl (JS.fallX ttOk (a73, c74, none, 0, a83, c84) trivial rfl rfl [1, 1, 0, 1] rfl)

def M_i_Grid_scroll_L1 (x0 : Int × Int × List Int × Int × Int × Bool) (j46 : (List Int) → Option (Int × Int × List Int × Int × Int × Bool)) (k40 : (List Int × Int) → Option (Int × Int × List Int × Int × Int × Bool)) : (List Int × Int) → Option (Int × Int × List Int × Int × Int × Bool) := fun (x22, x25) =>
  (bif (decide (x25 < x0.1)) then
  (guardO (x22.length + ([32] : List Int).length ≤ 536870912) <|
  k40 ((x22 ++ ([32] : List Int)), (W (x25 + 1))))
  else
  j46 x22)

def M_i_Grid_scroll (x0 : Int × Int × List Int × Int × Int × Bool) : Option (Int × Int × List Int × Int × Int × Bool) :=
  (guardO (0 ≤ x0.1 ∧ x0.1 ≤ (x0.2.2.1.length : Int) ∧ (x0.2.2.1.length : Int) ≤ (x0.2.2.1.length : Int)) <|
  (bindO (M_i_copyInts (sub' x0.2.2.1 x0.1 (x0.2.2.1.length : Int))) fun (y13 : List Int) =>
  (joinO (fun (x43 : List Int) =>
  some (x0.1, x0.2.1, x43, x0.2.2.2.1, x0.2.2.2.2.1, x0.2.2.2.2.2)) fun j46 =>
  (fixF (M_i_Grid_scroll_L1 x0 j46) FUEL (y13, 0)))))

theorem ok_i_Grid_scroll (x0 : Int × Int × List Int × Int × Int × Bool) (a2 : Option Addr) (a3 : Option Addr) (c4 : Nat) (l5 : Nat) (hl6 : x0.2.2.1.length = l5) (r : Int × Int × List Int × Int × Int × Bool) (h : M_i_Grid_scroll x0 = some r) :
    FX Tryd.prog 48 [.pointer a2] [] [⟨(.pair (.int .i64) (.pair (.int .i64) (.pair .val (.pair (.int .i64) (.pair (.int .i64) .bool))))), ⟨a2, 1, 1⟩, [(x0.1, x0.2.1, (Sl.v ⟨a3, l5, c4⟩), x0.2.2.2.1, x0.2.2.2.2.1, x0.2.2.2.2.2)]⟩, ⟨(.int .i64), ⟨a3, l5, c4⟩, x0.2.2.1⟩] (fun _ : Option Addr × Nat => True) (fun q => .tuple #[]) (fun q => [⟨(.pair (.int .i64) (.pair (.int .i64) (.pair .val (.pair (.int .i64) (.pair (.int .i64) .bool))))), ⟨a2, 1, 1⟩, [(r.1, r.2.1, (Sl.v ⟨q.1, r.2.2.1.length, q.2⟩), r.2.2.2.1, r.2.2.2.2.1, r.2.2.2.2.2)]⟩, ⟨(.int .i64), ⟨q.1, r.2.2.1.length, q.2⟩, r.2.2.1⟩]) :=
  by
    subst hl6
    refine FX.of (T := TTx) Tryd.call48 Tryd.func48 rfl rfl fun w0 L0 => ?_
    unfold M_i_Grid_scroll at h
    refine JS.ptr 0 a2 rfl ?_
    refine JS.seq ?_
    obtain ⟨g8, h⟩ := guardO_some h
    obtain ⟨y13, hy14, h⟩ := bindO_some h
    refine JS.freeze [1] rfl (JS.subR 0 rfl x0.1 (x0.2.2.1.length : Int) fun a9 c10 hu11 => JS.know 2 rfl fun hs54 => JS.know 1 rfl fun hs55 => ?_)
    refine JS.regionA rfl .nil [2] [8, 9, 10] trivial rfl (fun be21 => ?_)
    refine JA.reg ttOk panic_cxX true 5 [0, 1, 2, 4, 5, 6] rfl (by kernel_rfl) [] [(5, .ep ⟨a2, 1, 1⟩ 2), (9, .ep ⟨a2, 1, 1⟩ 0)] trivial [2] rfl rfl ⟨(hs54.fa ptr0).1, hs54.fa ptr0, (hs54.fa ptr0).1, hs54.fa ptr0, (Es rfl)⟩ (JA.loadV ttOk panic_cxX 3 rfl (by kernel_rfl) rfl rfl rfl rfl rfl 0 rfl rfl 0 2 (x0.1, x0.2.1, (Sl.v ⟨a3, x0.2.2.1.length, c4⟩), x0.2.2.2.1, x0.2.2.2.2.1, x0.2.2.2.2.2) ⟨rfl, rfl⟩ rfl rfl rfl trivial [2] rfl (JA.loadV ttOk panic_cxX 7 rfl (by kernel_rfl) rfl rfl rfl rfl rfl 0 rfl rfl 0 0 (x0.1, x0.2.1, (Sl.v ⟨a3, x0.2.2.1.length, c4⟩), x0.2.2.2.1, x0.2.2.2.2.1, x0.2.2.2.2.2) ⟨rfl, rfl⟩ rfl rfl rfl trivial [2] rfl (JA.sliceP ttOk panic_cxX 8 rfl (by kernel_rfl) rfl rfl rfl rfl rfl rfl x0.1 (x0.2.2.1.length : Int) rfl rfl ⟨g8.1, g8.2.1, g8.2.2, hs55.cap, hu11 g8⟩ rfl (JA.one 9 (by kernel_rfl) (JK.call rfl rfl rfl rfl (ok_i_copyInts (sub' x0.2.2.1 x0.1 (x0.2.2.1.length : Int)) a9 c10 ((sub' x0.2.2.1 x0.1 (x0.2.2.1.length : Int)).length) rfl _ hy14) rfl [0] rfl rfl ?_)))))
    rintro ⟨a15, c16⟩ -
    refine JA.nextL rfl (JA.regL ttOk panic_cxX 0 [10] rfl (by kernel_rfl) [] [(2, .v (.slice a15 y13.length c16))] rfl ⟨rfl, trivial⟩ (JA.done (by kernel_rfl) (JS.boxes (B' := .nil) trivial (JS.seq (JS.seq (JS.region (JO.reg ttOk 3 [] [] [(15, .ep ⟨a2, 1, 1⟩ 0)] _ rfl ⟨(hs54.fa ptr0).1, hs54.fa ptr0, ⟨rfl, trivial⟩, rfl⟩ (JO.loadV ttOk rfl rfl rfl rfl rfl rfl 3 rfl rfl 0 0 (x0.1, x0.2.1, (Sl.v ⟨a3, x0.2.2.1.length, c4⟩), x0.2.2.2.1, x0.2.2.2.2.1, x0.2.2.2.2.2) ⟨rfl, rfl⟩ rfl rfl rfl (JO.reg ttOk 1 [] [] [(17, .v (.int .i64 0))] _ rfl ⟨⟨rfl, trivial⟩, rfl⟩ (JO.done rfl ?_))))))))))
    obtain ⟨j46, hj58, h⟩ := joinO_some h
    refine JS.blockJ (ι := List Int × Option Addr × Nat) ⟨fun z => j46 z.1 = some r, fun z => [(0, .ep ⟨a2, 1, 1⟩ 0), (2, .v (.slice z.2.1 z.1.length z.2.2))], fun z => .nil, fun z => [⟨(.int .i64), ⟨a3, x0.2.2.1.length, c4⟩, x0.2.2.1⟩], fun z => [⟨(.int .i64), ⟨z.2.1, z.1.length, z.2.2⟩, z.1⟩, ⟨(.pair (.int .i64) (.pair (.int .i64) (.pair .val (.pair (.int .i64) (.pair (.int .i64) .bool))))), ⟨a2, 1, 1⟩, [(x0.1, x0.2.1, (Sl.v ⟨a3, x0.2.2.1.length, c4⟩), x0.2.2.2.1, x0.2.2.2.2.1, x0.2.2.2.2.2)]⟩], fun z => 0⟩ ?_ ?_
    · refine JS.loop (ι := Nat × List Int × Int × Option Addr × Nat) ⟨fun z => fixF (M_i_Grid_scroll_L1 x0 j46) z.1 (z.2.1, z.2.2.1) = some r, fun z => [(0, .ep ⟨a2, 1, 1⟩ 0), (2, .v (.slice z.2.2.2.1 z.2.1.length z.2.2.2.2)), (16, .v (.int .i64 x0.1)), (17, .v (.int .i64 z.2.2.1))], fun z => .nil, fun z => [⟨(.int .i64), ⟨a3, x0.2.2.1.length, c4⟩, x0.2.2.1⟩], fun z => [⟨(.int .i64), ⟨z.2.2.2.1, z.2.1.length, z.2.2.2.2⟩, z.2.1⟩, ⟨(.pair (.int .i64) (.pair (.int .i64) (.pair .val (.pair (.int .i64) (.pair (.int .i64) .bool))))), ⟨a2, 1, 1⟩, [(x0.1, x0.2.1, (Sl.v ⟨a3, x0.2.2.1.length, c4⟩), x0.2.2.2.1, x0.2.2.2.2.1, x0.2.2.2.2.2)]⟩], fun z => z.1⟩ (FUEL, y13, 0, a15, c16) h (Es rfl) trivial [1] rfl [0, 0] rfl ?_
      rintro ⟨n41, x22, x25, a23, c24⟩ h
      obtain ⟨n41, rfl, h⟩ := fixF_some h
      rw [M_i_Grid_scroll_L1] at h
      refine JS.rg0 ttOk 1 [(18, .v (.bool (decide (x25 < x0.1))))] ⟨⟨rfl, trivial⟩, rfl⟩ rfl rfl (JS.seq ?_)
      refine JS.cond rfl (fun ht56 => ?_) (fun ht56 => ?_)
      · have h := condT h ht56
        refine JS.skip (JS.seq (JS.block (JS.region (JO.reg ttOk 1 [] [] [(19, .v (.slice a23 x22.length c24))] _ rfl ⟨⟨rfl, trivial⟩, rfl⟩ ?_))))
        refine JO.ofK rfl (JK.buildSlice ttOk rfl rfl rfl rfl rfl rfl rfl rfl rfl rfl rfl [] rfl (.int .i64) [32] ⟨rfl, rfl⟩ rfl rfl fun a34 => JO.toK ?_)
        obtain ⟨g35, h⟩ := guardO_some h
        refine JO.appendR' ttOk rfl rfl rfl rfl ⟨rfl, rfl, rfl, rfl, trivial, rfl, rfl, rfl, rfl⟩ rfl rfl rfl [1] rfl 1 rfl g35 rfl fun a36 c37 => JO.reg ttOk 1 [] [] [(2, .v (.slice a36 (x22 ++ ([32] : List Int)).length c37))] _ rfl ⟨⟨rfl, trivial⟩, rfl⟩ (JO.done rfl (JS.endB (JS.re ttOk 2 [(W (x25 + 1))] [] [(17, .v (.int .i64 (W (x25 + 1))))] _ ⟨⟨trivial, rfl⟩, ⟨rfl, trivial⟩, rfl⟩ rfl rfl (JS.endL (n41, (x22 ++ ([32] : List Int)), (W (x25 + 1)), a36, c37) h (Nat.lt_succ_self _) (Es rfl) trivial [0] rfl [0, 1] rfl))))
      have h := condF h ht56
      refine JS.exit rfl (JS.endJ (x22, a23, c24) h (Es rfl) trivial [0] rfl [0, 0] rfl)
    rintro ⟨x43, a44, c45⟩ h
    subst hj58
    refine JS.region (JO.know 2 rfl fun hs57 => JO.reg ttOk 4 [] [] [(24, .v (.slice a44 x43.length c45)), (26, .ep ⟨a2, 1, 1⟩ 2)] _ rfl ⟨(hs57.fa ptr0).1, hs57.fa ptr0, (Es rfl), rfl⟩ (JO.storeE ttOk rfl rfl rfl rfl rfl rfl rfl rfl rfl [1] (fs := []) rfl 0 2 (x0.1, x0.2.1, (Sl.v ⟨a3, x0.2.2.1.length, c4⟩), x0.2.2.2.1, x0.2.2.2.2.1, x0.2.2.2.2.2) (x0.1, x0.2.1, (Sl.v ⟨a44, x43.length, c45⟩), x0.2.2.2.1, x0.2.2.2.2.1, x0.2.2.2.2.2) ⟨rfl, rfl⟩ ⟨⟨⟨⟨rfl, rfl, rfl, rfl⟩, rfl⟩, rfl⟩, rfl⟩ (JO.done rfl ?_)))
    cases h
    exact JS.fallX ttOk (a44, c45) trivial rfl rfl [0, 0] rfl

def M_i_Grid_put (x0 : Int × Int × List Int × Int × Int × Bool) (x1 : Int) : Option (Int × Int × List Int × Int × Int × Bool) :=
  (bindO (M_i_Width x1) fun (y8 : Int) =>
  (bif (decide (y8 = 0)) then
  some x0
  else
  (joinO (fun ((x46, x47, x48, x51, x52, x53) : Int × Int × List Int × Int × Int × Bool) =>
  (bindO (M_i_Grid_erase (x46, x47, x48, x51, x52, x53) (W ((W (x52 * x46)) + x51)) (W ((W ((W (x52 * x46)) + x51)) + y8))) fun (y89 : Int × Int × List Int × Int × Int × Bool) =>
  (guardO (0 ≤ (W ((W (x52 * x46)) + x51)) ∧ (W ((W (x52 * x46)) + x51)) < (y89.2.2.1.length : Int)) <|
  (joinO (fun (x97 : List Int) =>
  (bif (decide (y89.1 ≤ (W (y89.2.2.2.1 + y8)))) then
  some (y89.1, y89.2.1, x97, (W (y89.1 - 1)), y89.2.2.2.2.1, true)
  else
  some (y89.1, y89.2.1, x97, (W (y89.2.2.2.1 + y8)), y89.2.2.2.2.1, y89.2.2.2.2.2))) fun j100 =>
  (bif (decide (y8 = 2)) then
  (guardO (0 ≤ (W ((W ((W (x52 * x46)) + x51)) + 1)) ∧ (W ((W ((W (x52 * x46)) + x51)) + 1)) < (y89.2.2.1.length : Int)) <|
  j100 (List.set (List.set y89.2.2.1 (Int.toNat (W ((W (x52 * x46)) + x51))) x1) (Int.toNat (W ((W ((W (x52 * x46)) + x51)) + 1))) (-1)))
  else
  j100 (List.set y89.2.2.1 (Int.toNat (W ((W (x52 * x46)) + x51))) x1)))))) fun j54 =>
  (bif (bif x0.2.2.2.2.2 then true else (bif (decide (y8 = 2)) then (decide (x0.2.2.2.1 = (W (x0.1 - 1)))) else false)) then
  (bif (decide (x0.2.2.2.2.1 = (W (x0.2.1 - 1)))) then
  (bindO (M_i_Grid_scroll (x0.1, x0.2.1, x0.2.2.1, 0, x0.2.2.2.2.1, false)) fun (y40 : Int × Int × List Int × Int × Int × Bool) =>
  j54 (y40.1, y40.2.1, y40.2.2.1, y40.2.2.2.1, y40.2.2.2.2.1, y40.2.2.2.2.2))
  else
  j54 (x0.1, x0.2.1, x0.2.2.1, 0, (W (x0.2.2.2.2.1 + 1)), false))
  else
  j54 (x0.1, x0.2.1, x0.2.2.1, x0.2.2.2.1, x0.2.2.2.2.1, x0.2.2.2.2.2)))))

theorem ok_i_Grid_put (x0 : Int × Int × List Int × Int × Int × Bool) (x1 : Int) (a3 : Option Addr) (a4 : Option Addr) (c5 : Nat) (l6 : Nat) (hl7 : x0.2.2.1.length = l6) (r : Int × Int × List Int × Int × Int × Bool) (h : M_i_Grid_put x0 x1 = some r) :
    FX Tryd.prog 46 [.pointer a3, .int .i64 x1] [] [⟨(.pair (.int .i64) (.pair (.int .i64) (.pair .val (.pair (.int .i64) (.pair (.int .i64) .bool))))), ⟨a3, 1, 1⟩, [(x0.1, x0.2.1, (Sl.v ⟨a4, l6, c5⟩), x0.2.2.2.1, x0.2.2.2.2.1, x0.2.2.2.2.2)]⟩, ⟨(.int .i64), ⟨a4, l6, c5⟩, x0.2.2.1⟩] (fun _ : Option Addr × Nat => True) (fun q => .tuple #[]) (fun q => [⟨(.pair (.int .i64) (.pair (.int .i64) (.pair .val (.pair (.int .i64) (.pair (.int .i64) .bool))))), ⟨a3, 1, 1⟩, [(r.1, r.2.1, (Sl.v ⟨q.1, r.2.2.1.length, q.2⟩), r.2.2.2.1, r.2.2.2.2.1, r.2.2.2.2.2)]⟩, ⟨(.int .i64), ⟨q.1, r.2.2.1.length, q.2⟩, r.2.2.1⟩]) :=
  by
    subst hl7
    refine FX.of (T := TTx) Tryd.call46 Tryd.func46 rfl rfl fun w0 L0 => ?_
    unfold M_i_Grid_put at h
    refine JS.ptr 0 a3 rfl ?_
    refine JS.seq (JS.region (JO.reg ttOk 1 [] [] [(6, .v (.int .i64 x1))] _ rfl ⟨⟨rfl, trivial⟩, rfl⟩ ?_))
    obtain ⟨y8, hy9, h⟩ := bindO_some h
    refine JO.call rfl rfl rfl rfl (ok_i_Width x1 _ hy9) rfl [] rfl rfl fun _ _ => JO.reg ttOk 1 [] [] [(4, .v (.int .i64 y8))] _ rfl ⟨⟨rfl, trivial⟩, rfl⟩ (JO.done rfl (JS.seq (JS.rg0 ttOk 2 [(9, .v (.bool (decide (y8 = 0))))] ⟨⟨rfl, trivial⟩, rfl⟩ rfl rfl ?_)))
    refine JS.cond rfl (fun ht147 => ?_) (fun ht147 => ?_)
    · have h := condT h ht147
      cases h
      exact JS.retX ttOk (a4, c5) trivial rfl rfl [0, 0] rfl
    have h := condF h ht147
    refine JS.skip ?_
    obtain ⟨j54, hj146, h⟩ := joinO_some h
    refine JS.seqJ (ι := Int × Int × List Int × Int × Int × Bool × Option Addr × Nat) ⟨fun z => j54 (z.1, z.2.1, z.2.2.1, z.2.2.2.1, z.2.2.2.2.1, z.2.2.2.2.2.1) = some r, fun z => [(0, .ep ⟨a3, 1, 1⟩ 0), (1, .v (.int .i64 x1)), (4, .v (.int .i64 y8))], fun z => .nil, fun z => [], fun z => [⟨(.int .i64), ⟨z.2.2.2.2.2.2.1, z.2.2.1.length, z.2.2.2.2.2.2.2⟩, z.2.2.1⟩, ⟨(.pair (.int .i64) (.pair (.int .i64) (.pair .val (.pair (.int .i64) (.pair (.int .i64) .bool))))), ⟨a3, 1, 1⟩, [(z.1, z.2.1, (Sl.v ⟨z.2.2.2.2.2.2.1, z.2.2.1.length, z.2.2.2.2.2.2.2⟩), z.2.2.2.1, z.2.2.2.2.1, z.2.2.2.2.2.1)]⟩], fun z => 0⟩ ?_ ?_
    · refine JS.seq (JS.know 0 rfl fun hs122 => JS.regionQ rfl (by kernel_rfl) (JQ.reg ttOk 3 [] [(12, .ep ⟨a3, 1, 1⟩ 5)] rfl ⟨(hs122.fa ptr0).1, hs122.fa ptr0, ⟨rfl, trivial⟩⟩ (JQ.loadV ttOk rfl rfl rfl rfl rfl rfl 0 rfl rfl 0 5 (x0.1, x0.2.1, (Sl.v ⟨a4, x0.2.2.1.length, c5⟩), x0.2.2.2.1, x0.2.2.2.2.1, x0.2.2.2.2.2) ⟨rfl, rfl⟩ rfl rfl rfl (JQ.reg ttOk 7 [] [(14, .v (.bool x0.2.2.2.2.2)), (17, .cd [(14, false)] (.v (.bool (decide (y8 = 2))))), (20, .cd [(17, true), (14, false)] (.ep ⟨a3, 1, 1⟩ 3))] rfl ⟨(fun q123 q124 => (hs122.fa ptr0).1), (fun q125 q126 => hs122.fa ptr0), (Es rfl)⟩ (JQ.loadV ttOk rfl rfl rfl rfl rfl rfl 0 rfl rfl 0 3 (x0.1, x0.2.1, (Sl.v ⟨a4, x0.2.2.1.length, c5⟩), x0.2.2.2.1, x0.2.2.2.2.1, x0.2.2.2.2.2) (fun q127 q128 => ⟨rfl, rfl⟩) rfl rfl rfl (JQ.reg ttOk 3 [] [(24, .cd [(17, true), (14, false)] (.ep ⟨a3, 1, 1⟩ 0))] rfl ⟨(fun q129 q130 => (hs122.fa ptr0).1), (fun q131 q132 => hs122.fa ptr0), ⟨rfl, trivial⟩⟩ (JQ.loadV ttOk rfl rfl rfl rfl rfl rfl 0 rfl rfl 0 0 (x0.1, x0.2.1, (Sl.v ⟨a4, x0.2.2.1.length, c5⟩), x0.2.2.2.1, x0.2.2.2.2.1, x0.2.2.2.2.2) (fun q133 q134 => ⟨rfl, rfl⟩) rfl rfl rfl (JQ.reg ttOk 4 [(W (x0.1 - 1))] [(29, .v (.bool (bif x0.2.2.2.2.2 then true else (bif (decide (y8 = 2)) then (decide (x0.2.2.2.1 = (W (x0.1 - 1)))) else false))))] rfl ⟨(fun q135 q136 => ⟨trivial, rfl⟩), ⟨rfl, trivial⟩⟩ (JQ.done rfl ?_)))))))))
      refine JS.cond rfl (fun ht138 => ?_) (fun ht138 => ?_)
      · have h := condT h ht138
        refine JS.seq (JS.region (JO.reg ttOk 4 [] [] [(31, .ep ⟨a3, 1, 1⟩ 0), (33, .ep ⟨a3, 1, 1⟩ 3)] _ rfl ⟨(hs122.fa ptr0).1, hs122.fa ptr0, (Es rfl), rfl⟩ (JO.storeE ttOk rfl rfl rfl rfl rfl rfl rfl rfl rfl [0] (fs := []) rfl 0 3 (x0.1, x0.2.1, (Sl.v ⟨a4, x0.2.2.1.length, c5⟩), x0.2.2.2.1, x0.2.2.2.2.1, x0.2.2.2.2.2) (x0.1, x0.2.1, (Sl.v ⟨a4, x0.2.2.1.length, c5⟩), 0, x0.2.2.2.2.1, x0.2.2.2.2.2) ⟨rfl, rfl⟩ ⟨⟨⟨⟨⟨rfl, rfl, rfl⟩, rfl⟩, rfl⟩, rfl⟩, rfl⟩ (JO.reg ttOk 2 [] [] [(35, .ep ⟨a3, 1, 1⟩ 5)] _ rfl ⟨(hs122.fa ptr0).1, hs122.fa ptr0, ⟨rfl, trivial⟩, rfl⟩ (JO.storeE ttOk rfl rfl rfl rfl rfl rfl rfl rfl rfl [0] (fs := []) rfl 0 5 (x0.1, x0.2.1, (Sl.v ⟨a4, x0.2.2.1.length, c5⟩), 0, x0.2.2.2.2.1, x0.2.2.2.2.2) (x0.1, x0.2.1, (Sl.v ⟨a4, x0.2.2.1.length, c5⟩), 0, x0.2.2.2.2.1, false) ⟨rfl, rfl⟩ ⟨⟨⟨⟨⟨⟨rfl, rfl, rfl⟩, rfl⟩, rfl⟩, rfl⟩, rfl⟩, rfl⟩ (JO.done rfl (JS.seq (JS.regionQ rfl (by kernel_rfl) (JQ.reg ttOk 3 [] [(38, .ep ⟨a3, 1, 1⟩ 4)] rfl ⟨(hs122.fa ptr0).1, hs122.fa ptr0, ⟨rfl, trivial⟩⟩ (JQ.loadV ttOk rfl rfl rfl rfl rfl rfl 0 rfl rfl 0 4 (x0.1, x0.2.1, (Sl.v ⟨a4, x0.2.2.1.length, c5⟩), 0, x0.2.2.2.2.1, false) ⟨rfl, rfl⟩ rfl rfl rfl (JQ.reg ttOk 3 [] [(42, .ep ⟨a3, 1, 1⟩ 1)] rfl ⟨(hs122.fa ptr0).1, hs122.fa ptr0, ⟨rfl, trivial⟩⟩ (JQ.loadV ttOk rfl rfl rfl rfl rfl rfl 0 rfl rfl 0 1 (x0.1, x0.2.1, (Sl.v ⟨a4, x0.2.2.1.length, c5⟩), 0, x0.2.2.2.2.1, false) ⟨rfl, rfl⟩ rfl rfl rfl (JQ.reg ttOk 2 [(W (x0.2.1 - 1))] [(45, .v (.bool (decide (x0.2.2.2.2.1 = (W (x0.2.1 - 1))))))] rfl ⟨⟨trivial, rfl⟩, ⟨rfl, trivial⟩⟩ (JQ.done rfl ?_))))))))))))))
        refine JS.cond rfl (fun ht137 => ?_) (fun ht137 => ?_)
        · have h := condT h ht137
          refine JS.region (JO.reg ttOk 1 [] [] [(46, .ep ⟨a3, 1, 1⟩ 0)] _ rfl ⟨⟨rfl, trivial⟩, rfl⟩ ?_)
          obtain ⟨y40, hy41, h⟩ := bindO_some h
          refine JO.callX rfl rfl rfl rfl (ok_i_Grid_scroll (x0.1, x0.2.1, x0.2.2.1, 0, x0.2.2.2.2.1, false) a3 a4 c5 x0.2.2.1.length rfl _ hy41) rfl [0, 0] rfl [] rfl rfl ?_
          rintro ⟨a42, c43⟩ -
          refine JO.done rfl (JS.endJ (y40.1, y40.2.1, y40.2.2.1, y40.2.2.2.1, y40.2.2.2.2.1, y40.2.2.2.2.2, a42, c43) h (Es rfl) trivial [] rfl [1, 0] rfl)
        have h := condF h ht137
        refine JS.region (JO.reg ttOk 3 [] [] [(48, .ep ⟨a3, 1, 1⟩ 0), (50, .ep ⟨a3, 1, 1⟩ 4)] _ rfl ⟨(hs122.fa ptr0).1, hs122.fa ptr0, (Es rfl), rfl⟩ (JO.loadV ttOk rfl rfl rfl rfl rfl rfl 0 rfl rfl 0 4 (x0.1, x0.2.1, (Sl.v ⟨a4, x0.2.2.1.length, c5⟩), 0, x0.2.2.2.2.1, false) ⟨rfl, rfl⟩ rfl rfl rfl (JO.reg ttOk 3 [(W (x0.2.2.2.2.1 + 1))] [] [(52, .v (.int .i64 (W (x0.2.2.2.2.1 + 1)))), (54, .ep ⟨a3, 1, 1⟩ 4)] _ rfl ⟨⟨trivial, rfl⟩, (hs122.fa ptr0).1, hs122.fa ptr0, (Es rfl), rfl⟩ (JO.storeE ttOk rfl rfl rfl rfl rfl rfl rfl rfl rfl [0] (fs := []) rfl 0 4 (x0.1, x0.2.1, (Sl.v ⟨a4, x0.2.2.1.length, c5⟩), 0, x0.2.2.2.2.1, false) (x0.1, x0.2.1, (Sl.v ⟨a4, x0.2.2.1.length, c5⟩), 0, (W (x0.2.2.2.2.1 + 1)), false) ⟨rfl, rfl⟩ ⟨⟨⟨⟨⟨⟨rfl, rfl, rfl⟩, rfl⟩, rfl⟩, rfl⟩, rfl⟩, rfl⟩ (JO.done rfl (JS.endJ (x0.1, x0.2.1, x0.2.2.1, 0, (W (x0.2.2.2.2.1 + 1)), false, a4, c5) h (Es rfl) trivial [] rfl [1, 0] rfl))))))
      have h := condF h ht138
      refine JS.skip (JS.endJ (x0.1, x0.2.1, x0.2.2.1, x0.2.2.2.1, x0.2.2.2.2.1, x0.2.2.2.2.2, a4, c5) h (Es rfl) trivial [] rfl [1, 0] rfl)
    rintro ⟨x46, x47, x48, x51, x52, x53, a49, c50⟩ h
    subst hj146
    refine JS.seq (JS.know 1 rfl fun hs140 => JS.regionQ rfl (by kernel_rfl) (JQ.reg ttOk 3 [] [(57, .ep ⟨a3, 1, 1⟩ 4)] rfl ⟨(hs140.fa ptr0).1, hs140.fa ptr0, ⟨rfl, trivial⟩⟩ (JQ.loadV ttOk rfl rfl rfl rfl rfl rfl 1 rfl rfl 0 4 (x46, x47, (Sl.v ⟨a49, x48.length, c50⟩), x51, x52, x53) ⟨rfl, rfl⟩ rfl rfl rfl (JQ.reg ttOk 3 [] [(61, .ep ⟨a3, 1, 1⟩ 0)] rfl ⟨(hs140.fa ptr0).1, hs140.fa ptr0, ⟨rfl, trivial⟩⟩ (JQ.loadV ttOk rfl rfl rfl rfl rfl rfl 1 rfl rfl 0 0 (x46, x47, (Sl.v ⟨a49, x48.length, c50⟩), x51, x52, x53) ⟨rfl, rfl⟩ rfl rfl rfl (JQ.reg ttOk 4 [(W (x52 * x46))] [(63, .v (.int .i64 (W (x52 * x46)))), (66, .ep ⟨a3, 1, 1⟩ 3)] rfl ⟨⟨trivial, rfl⟩, (hs140.fa ptr0).1, hs140.fa ptr0, (Es rfl)⟩ (JQ.loadV ttOk rfl rfl rfl rfl rfl rfl 1 rfl rfl 0 3 (x46, x47, (Sl.v ⟨a49, x48.length, c50⟩), x51, x52, x53) ⟨rfl, rfl⟩ rfl rfl rfl (JQ.reg ttOk 2 [(W ((W (x52 * x46)) + x51))] [(5, .v (.int .i64 (W ((W (x52 * x46)) + x51))))] rfl ⟨⟨trivial, rfl⟩, ⟨rfl, trivial⟩⟩ (JQ.done rfl (JS.seq (JS.region (JO.reg ttOk 5 [(W ((W ((W (x52 * x46)) + x51)) + y8))] [] [(69, .ep ⟨a3, 1, 1⟩ 0), (70, .v (.int .i64 (W ((W (x52 * x46)) + x51)))), (73, .v (.int .i64 (W ((W ((W (x52 * x46)) + x51)) + y8))))] _ rfl ⟨⟨trivial, rfl⟩, (Es rfl), rfl⟩ ?_))))))))))))
    obtain ⟨y89, hy90, h⟩ := bindO_some h
    refine JO.callX rfl rfl rfl rfl (ok_i_Grid_erase (x46, x47, x48, x51, x52, x53) (W ((W (x52 * x46)) + x51)) (W ((W ((W (x52 * x46)) + x51)) + y8)) a3 a49 c50 x48.length rfl _ hy90) rfl [1, 0] rfl [] rfl rfl ?_
    rintro ⟨a91, c92⟩ -
    refine JO.done rfl (JS.seq (JS.region (JO.reg ttOk 3 [] [] [(77, .ep ⟨a3, 1, 1⟩ 2)] _ rfl ⟨(hs140.fa ptr0).1, hs140.fa ptr0, ⟨rfl, trivial⟩, rfl⟩ (JO.loadV ttOk rfl rfl rfl rfl rfl rfl 0 rfl rfl 0 2 (y89.1, y89.2.1, (Sl.v ⟨a91, y89.2.2.1.length, c92⟩), y89.2.2.2.1, y89.2.2.2.2.1, y89.2.2.2.2.2) ⟨rfl, rfl⟩ rfl rfl rfl (JO.know 1 rfl fun hs141 => ?_)))))
    obtain ⟨g94, h⟩ := guardO_some h
    refine JO.reg ttOk 3 [] [] [(80, .v (.int .i64 x1)), (81, .ep ⟨a91, y89.2.2.1.length, c92⟩ (Int.toNat (W ((W (x52 * x46)) + x51)) * 1))] _ rfl ⟨hs141.ix g94, (Es rfl), rfl⟩ (JO.storeE ttOk rfl rfl rfl rfl rfl rfl rfl rfl rfl [1] (fs := []) rfl (Int.toNat (W ((W (x52 * x46)) + x51))) 0 (at' y89.2.2.1 (W ((W (x52 * x46)) + x51))) x1 ⟨at_some g94, rfl⟩ ⟨rfl, rfl, rfl⟩ (JO.done rfl ?_))
    obtain ⟨j100, hj145, h⟩ := joinO_some h
    refine JS.seqJ (ι := List Int × Option Addr × Nat) ⟨fun z => j100 z.1 = some r, fun z => [(0, .ep ⟨a3, 1, 1⟩ 0), (4, .v (.int .i64 y8))], fun z => .nil, fun z => [], fun z => [⟨(.int .i64), ⟨z.2.1, z.1.length, z.2.2⟩, z.1⟩, ⟨(.pair (.int .i64) (.pair (.int .i64) (.pair .val (.pair (.int .i64) (.pair (.int .i64) .bool))))), ⟨a3, 1, 1⟩, [(y89.1, y89.2.1, (Sl.v ⟨z.2.1, z.1.length, z.2.2⟩), y89.2.2.2.1, y89.2.2.2.2.1, y89.2.2.2.2.2)]⟩], fun z => 0⟩ ?_ ?_
    · refine JS.rg0 ttOk 2 [(83, .v (.bool (decide (y8 = 2))))] ⟨⟨rfl, trivial⟩, rfl⟩ rfl rfl ?_
      refine JS.cond rfl (fun ht142 => ?_) (fun ht142 => ?_)
      · have h := condT h ht142
        refine JS.region (JO.reg ttOk 3 [] [] [(86, .ep ⟨a3, 1, 1⟩ 2)] _ rfl ⟨(hs140.fa ptr0).1, hs140.fa ptr0, ⟨rfl, trivial⟩, rfl⟩ (JO.loadV ttOk rfl rfl rfl rfl rfl rfl 1 rfl rfl 0 2 (y89.1, y89.2.1, (Sl.v ⟨a91, y89.2.2.1.length, c92⟩), y89.2.2.2.1, y89.2.2.2.2.1, y89.2.2.2.2.2) ⟨rfl, rfl⟩ rfl rfl rfl ?_))
        obtain ⟨g95, h⟩ := guardO_some h
        refine JO.reg ttOk 3 [(W ((W ((W (x52 * x46)) + x51)) + 1))] [] [(90, .ep ⟨a91, y89.2.2.1.length, c92⟩ (Int.toNat (W ((W ((W (x52 * x46)) + x51)) + 1)) * 1))] _ rfl ⟨⟨trivial, rfl⟩, hs141.ix g95, ⟨rfl, trivial⟩, rfl⟩ (JO.storeE ttOk rfl rfl rfl rfl rfl rfl rfl rfl rfl [0] (fs := []) rfl (Int.toNat (W ((W ((W (x52 * x46)) + x51)) + 1))) 0 (at' (List.set y89.2.2.1 (Int.toNat (W ((W (x52 * x46)) + x51))) x1) (W ((W ((W (x52 * x46)) + x51)) + 1))) (-1) ⟨at_someL (List.length_set.trans rfl) g95, rfl⟩ ⟨rfl, rfl, rfl⟩ (JO.done rfl (JS.endJ ((List.set (List.set y89.2.2.1 (Int.toNat (W ((W (x52 * x46)) + x51))) x1) (Int.toNat (W ((W ((W (x52 * x46)) + x51)) + 1))) (-1)), a91, c92) h (Es rfl) trivial [] rfl [0, 0] (by simp only [List.length_set, List.length_replicate, pickO, getF, cl25, cl31]; rfl))))
      have h := condF h ht142
      refine JS.skip (JS.endJ ((List.set y89.2.2.1 (Int.toNat (W ((W (x52 * x46)) + x51))) x1), a91, c92) h (Es rfl) trivial [] rfl [0, 0] (by simp only [List.length_set, List.length_replicate, pickO, getF, cl25, cl31]; rfl))
    rintro ⟨x97, a98, c99⟩ h
    subst hj145
    refine JS.seq (JS.region (JO.know 1 rfl fun hs143 => JO.reg ttOk 3 [] [] [(91, .ep ⟨a3, 1, 1⟩ 0), (93, .ep ⟨a3, 1, 1⟩ 3)] _ rfl ⟨(hs143.fa ptr0).1, hs143.fa ptr0, (Es rfl), rfl⟩ (JO.loadV ttOk rfl rfl rfl rfl rfl rfl 1 rfl rfl 0 3 (y89.1, y89.2.1, (Sl.v ⟨a98, x97.length, c99⟩), y89.2.2.2.1, y89.2.2.2.2.1, y89.2.2.2.2.2) ⟨rfl, rfl⟩ rfl rfl rfl (JO.reg ttOk 4 [(W (y89.2.2.2.1 + y8))] [] [(96, .v (.int .i64 (W (y89.2.2.2.1 + y8)))), (98, .ep ⟨a3, 1, 1⟩ 3)] _ rfl ⟨⟨trivial, rfl⟩, (hs143.fa ptr0).1, hs143.fa ptr0, (Es rfl), rfl⟩ (JO.storeE ttOk rfl rfl rfl rfl rfl rfl rfl rfl rfl [1] (fs := []) rfl 0 3 (y89.1, y89.2.1, (Sl.v ⟨a98, x97.length, c99⟩), y89.2.2.2.1, y89.2.2.2.2.1, y89.2.2.2.2.2) (y89.1, y89.2.1, (Sl.v ⟨a98, x97.length, c99⟩), (W (y89.2.2.2.1 + y8)), y89.2.2.2.2.1, y89.2.2.2.2.2) ⟨rfl, rfl⟩ ⟨⟨⟨⟨⟨rfl, rfl, rfl⟩, rfl⟩, rfl⟩, rfl⟩, rfl⟩ (JO.done rfl (JS.seq (JS.regionQ rfl (by kernel_rfl) (JQ.reg ttOk 3 [] [(101, .ep ⟨a3, 1, 1⟩ 3)] rfl ⟨(hs143.fa ptr0).1, hs143.fa ptr0, ⟨rfl, trivial⟩⟩ (JQ.loadV ttOk rfl rfl rfl rfl rfl rfl 0 rfl rfl 0 3 (y89.1, y89.2.1, (Sl.v ⟨a98, x97.length, c99⟩), (W (y89.2.2.2.1 + y8)), y89.2.2.2.2.1, y89.2.2.2.2.2) ⟨rfl, rfl⟩ rfl rfl rfl (JQ.reg ttOk 3 [] [(105, .ep ⟨a3, 1, 1⟩ 0)] rfl ⟨(hs143.fa ptr0).1, hs143.fa ptr0, ⟨rfl, trivial⟩⟩ (JQ.loadV ttOk rfl rfl rfl rfl rfl rfl 0 rfl rfl 0 0 (y89.1, y89.2.1, (Sl.v ⟨a98, x97.length, c99⟩), (W (y89.2.2.2.1 + y8)), y89.2.2.2.2.1, y89.2.2.2.2.2) ⟨rfl, rfl⟩ rfl rfl rfl (JQ.reg ttOk 1 [] [(107, .v (.bool (decide (y89.1 ≤ (W (y89.2.2.2.1 + y8))))))] rfl ⟨rfl, trivial⟩ (JQ.done rfl ?_))))))))))))))
    refine JS.cond rfl (fun ht144 => ?_) (fun ht144 => ?_)
    · have h := condT h ht144
      refine JS.region (JO.reg ttOk 5 [] [] [(108, .ep ⟨a3, 1, 1⟩ 0), (109, .ep ⟨a3, 1, 1⟩ 0), (112, .ep ⟨a3, 1, 1⟩ 0)] _ rfl ⟨(hs143.fa ptr0).1, hs143.fa ptr0, (Es rfl), rfl⟩ (JO.loadV ttOk rfl rfl rfl rfl rfl rfl 0 rfl rfl 0 0 (y89.1, y89.2.1, (Sl.v ⟨a98, x97.length, c99⟩), (W (y89.2.2.2.1 + y8)), y89.2.2.2.2.1, y89.2.2.2.2.2) ⟨rfl, rfl⟩ rfl rfl rfl (JO.reg ttOk 3 [(W (y89.1 - 1))] [] [(114, .v (.int .i64 (W (y89.1 - 1)))), (116, .ep ⟨a3, 1, 1⟩ 3)] _ rfl ⟨⟨trivial, rfl⟩, (hs143.fa ptr0).1, hs143.fa ptr0, (Es rfl), rfl⟩ (JO.storeE ttOk rfl rfl rfl rfl rfl rfl rfl rfl rfl [0] (fs := []) rfl 0 3 (y89.1, y89.2.1, (Sl.v ⟨a98, x97.length, c99⟩), (W (y89.2.2.2.1 + y8)), y89.2.2.2.2.1, y89.2.2.2.2.2) (y89.1, y89.2.1, (Sl.v ⟨a98, x97.length, c99⟩), (W (y89.1 - 1)), y89.2.2.2.2.1, y89.2.2.2.2.2) ⟨rfl, rfl⟩ ⟨⟨⟨⟨⟨rfl, rfl, rfl⟩, rfl⟩, rfl⟩, rfl⟩, rfl⟩ (JO.reg ttOk 2 [] [] [(118, .ep ⟨a3, 1, 1⟩ 5)] _ rfl ⟨(hs143.fa ptr0).1, hs143.fa ptr0, ⟨rfl, trivial⟩, rfl⟩ (JO.storeE ttOk rfl rfl rfl rfl rfl rfl rfl rfl rfl [0] (fs := []) rfl 0 5 (y89.1, y89.2.1, (Sl.v ⟨a98, x97.length, c99⟩), (W (y89.1 - 1)), y89.2.2.2.2.1, y89.2.2.2.2.2) (y89.1, y89.2.1, (Sl.v ⟨a98, x97.length, c99⟩), (W (y89.1 - 1)), y89.2.2.2.2.1, true) ⟨rfl, rfl⟩ ⟨⟨⟨⟨⟨⟨rfl, rfl, rfl⟩, rfl⟩, rfl⟩, rfl⟩, rfl⟩, rfl⟩ (JO.done rfl ?_)))))))
      cases h
      exact JS.fallX ttOk (a98, c99) trivial rfl rfl [0, 0] rfl
    have h := condF h ht144
    refine JS.skip ?_
    cases h
    exact JS.fallX ttOk (a98, c99) trivial rfl rfl [0, 0] rfl

def M_i_RuneBytes (x0 : Int) : Option (List UInt8) :=
  (bindO (M_i_RuneOk x0) fun (y2 : Bool) =>
  (bif (!y2) then
  some ([])
  else
  (bif (decide (x0 < 128)) then
  some ([(u8 (x0))] : List UInt8)
  else
  (bif (decide (x0 < 2048)) then
  some ([(u8 ((W (192 + (W (Int.tdiv x0 64)))))), (u8 ((W (128 + (Int.tmod x0 64)))))] : List UInt8)
  else
  (bif (decide (x0 < 65536)) then
  some ([(u8 ((W (224 + (W (Int.tdiv x0 4096)))))), (u8 ((W (128 + (Int.tmod (W (Int.tdiv x0 64)) 64))))), (u8 ((W (128 + (Int.tmod x0 64)))))] : List UInt8)
  else
  some ([(u8 ((W (240 + (W (Int.tdiv x0 262144)))))), (u8 ((W (128 + (Int.tmod (W (Int.tdiv x0 4096)) 64))))), (u8 ((W (128 + (Int.tmod (W (Int.tdiv x0 64)) 64))))), (u8 ((W (128 + (Int.tmod x0 64)))))] : List UInt8))))))

theorem ok_i_RuneBytes (x0 : Int) (r : List UInt8) (h : M_i_RuneBytes x0 = some r) :
    FC Tryd.prog 55 [.int .i64 x0] [] (fun _ : Option Addr × Nat => True) (fun q => .slice q.1 r.length q.2) (fun q => [⟨.byte, ⟨q.1, r.length, q.2⟩, r⟩]) :=
  by
    refine FC.of (T := TTx) Tryd.call55 Tryd.func55 rfl rfl fun w0 => ?_
    unfold M_i_RuneBytes at h
    refine JS.rg0 ttOk 1 [] ⟨trivial, rfl⟩ rfl rfl (JS.seq (JS.block (JS.seq (JS.region (JO.reg ttOk 1 [] [] [(4, .v (.int .i64 x0))] _ rfl ⟨⟨rfl, trivial⟩, rfl⟩ ?_)))))
    obtain ⟨y2, hy3, h⟩ := bindO_some h
    refine JO.call rfl rfl rfl rfl (ok_i_RuneOk x0 _ hy3) rfl [] rfl rfl fun _ _ => JO.reg ttOk 2 [] [] [(3, .v (.bool (!y2)))] _ rfl ⟨⟨rfl, trivial⟩, rfl⟩ (JO.done rfl ?_)
    refine JS.cond rfl (fun ht27 => ?_) (fun ht27 => ?_)
    · have h := condT h ht27
      refine JS.rg0 ttOk 1 [(2, .v (.slice none 0 0))] ⟨⟨rfl, trivial⟩, rfl⟩ rfl rfl ?_
      cases h
      refine JS.nilO .byte Sl.nil rfl rfl (JS.ret ttOk (none, 0) trivial rfl rfl [0] rfl)
    have h := condF h ht27
    refine JS.rg0 ttOk 3 [(7, .v (.bool (decide (x0 < 128))))] ⟨⟨rfl, trivial⟩, rfl⟩ rfl rfl ?_
    refine JS.cond rfl (fun ht26 => ?_) (fun ht26 => ?_)
    · have h := condT h ht26
      refine JS.seq (JS.region (JO.reg ttOk 2 [((u8 (x0)).toNat : Int)] [] [(11, .v (.int .u8 ((u8 (x0)).toNat : Int)))] _ rfl ⟨⟨trivial, u8_wrap _⟩, ⟨rfl, trivial⟩, rfl⟩ ?_))
      refine JO.ofK rfl (JK.buildSlice ttOk rfl rfl rfl rfl rfl rfl rfl rfl rfl rfl rfl [] rfl .byte [(u8 (x0))] ⟨rfl, rfl⟩ rfl rfl fun a4 => JO.toK ?_)
      refine JO.reg ttOk 1 [] [] [(2, .v (.slice a4 ([(u8 (x0))] : List UInt8).length ([(u8 (x0))] : List UInt8).length))] _ rfl ⟨⟨rfl, trivial⟩, rfl⟩ (JO.done rfl ?_)
      cases h
      exact JS.ret ttOk (a4, ([(u8 (x0))] : List UInt8).length) trivial rfl rfl [0] rfl
    have h := condF h ht26
    refine JS.rg0 ttOk 3 [(13, .v (.bool (decide (x0 < 2048))))] ⟨⟨rfl, trivial⟩, rfl⟩ rfl rfl ?_
    refine JS.cond rfl (fun ht25 => ?_) (fun ht25 => ?_)
    · have h := condT h ht25
      refine JS.seq (JS.region ?_)
      have g5 : (64 : Int) ≠ 0 := by decide
      have g6 : (64 : Int) ≠ 0 := by decide
      refine JO.reg ttOk 8 [(W (Int.tdiv x0 64)), (W (192 + (W (Int.tdiv x0 64)))), ((u8 ((W (192 + (W (Int.tdiv x0 64)))))).toNat : Int), (W (128 + (Int.tmod x0 64))), ((u8 ((W (128 + (Int.tmod x0 64))))).toNat : Int)] [] [(19, .v (.int .u8 ((u8 ((W (192 + (W (Int.tdiv x0 64)))))).toNat : Int))), (23, .v (.int .u8 ((u8 ((W (128 + (Int.tmod x0 64))))).toNat : Int)))] _ rfl ⟨⟨g5, rfl⟩, ⟨trivial, rfl⟩, ⟨trivial, u8_wrap _⟩, g6, ⟨trivial, rfl⟩, ⟨trivial, u8_wrap _⟩, (Es rfl), rfl⟩ ?_
      refine JO.ofK rfl (JK.buildSlice ttOk rfl rfl rfl rfl rfl rfl rfl rfl rfl rfl rfl [] rfl .byte [(u8 ((W (192 + (W (Int.tdiv x0 64)))))), (u8 ((W (128 + (Int.tmod x0 64)))))] ⟨rfl, rfl⟩ rfl rfl fun a7 => JO.toK ?_)
      refine JO.reg ttOk 1 [] [] [(2, .v (.slice a7 ([(u8 ((W (192 + (W (Int.tdiv x0 64)))))), (u8 ((W (128 + (Int.tmod x0 64)))))] : List UInt8).length ([(u8 ((W (192 + (W (Int.tdiv x0 64)))))), (u8 ((W (128 + (Int.tmod x0 64)))))] : List UInt8).length))] _ rfl ⟨⟨rfl, trivial⟩, rfl⟩ (JO.done rfl ?_)
      cases h
      exact JS.ret ttOk (a7, ([(u8 ((W (192 + (W (Int.tdiv x0 64)))))), (u8 ((W (128 + (Int.tmod x0 64)))))] : List UInt8).length) trivial rfl rfl [0] rfl
    have h := condF h ht25
    refine JS.rg0 ttOk 3 [(25, .v (.bool (decide (x0 < 65536))))] ⟨⟨rfl, trivial⟩, rfl⟩ rfl rfl ?_
    refine JS.cond rfl (fun ht24 => ?_) (fun ht24 => ?_)
    · have h := condT h ht24
      refine JS.seq (JS.region ?_)
      have g8 : (4096 : Int) ≠ 0 := by decide
      have g9 : (64 : Int) ≠ 0 := by decide
      have g10 : (64 : Int) ≠ 0 := by decide
      have g11 : (64 : Int) ≠ 0 := by decide
      refine JO.reg ttOk 13 [(W (Int.tdiv x0 4096)), (W (224 + (W (Int.tdiv x0 4096)))), ((u8 ((W (224 + (W (Int.tdiv x0 4096)))))).toNat : Int), (W (Int.tdiv x0 64)), (W (128 + (Int.tmod (W (Int.tdiv x0 64)) 64))), ((u8 ((W (128 + (Int.tmod (W (Int.tdiv x0 64)) 64))))).toNat : Int), (W (128 + (Int.tmod x0 64))), ((u8 ((W (128 + (Int.tmod x0 64))))).toNat : Int)] [] [(31, .v (.int .u8 ((u8 ((W (224 + (W (Int.tdiv x0 4096)))))).toNat : Int))), (36, .v (.int .u8 ((u8 ((W (128 + (Int.tmod (W (Int.tdiv x0 64)) 64))))).toNat : Int))), (40, .v (.int .u8 ((u8 ((W (128 + (Int.tmod x0 64))))).toNat : Int)))] _ rfl ⟨⟨g8, rfl⟩, ⟨trivial, rfl⟩, ⟨trivial, u8_wrap _⟩, ⟨g9, rfl⟩, g10, ⟨trivial, rfl⟩, ⟨trivial, u8_wrap _⟩, g11, ⟨trivial, rfl⟩, ⟨trivial, u8_wrap _⟩, (Es rfl), rfl⟩ ?_
      refine JO.ofK rfl (JK.buildSlice ttOk rfl rfl rfl rfl rfl rfl rfl rfl rfl rfl rfl [] rfl .byte [(u8 ((W (224 + (W (Int.tdiv x0 4096)))))), (u8 ((W (128 + (Int.tmod (W (Int.tdiv x0 64)) 64))))), (u8 ((W (128 + (Int.tmod x0 64)))))] ⟨rfl, rfl⟩ rfl rfl fun a12 => JO.toK ?_)
      refine JO.reg ttOk 1 [] [] [(2, .v (.slice a12 ([(u8 ((W (224 + (W (Int.tdiv x0 4096)))))), (u8 ((W (128 + (Int.tmod (W (Int.tdiv x0 64)) 64))))), (u8 ((W (128 + (Int.tmod x0 64)))))] : List UInt8).length ([(u8 ((W (224 + (W (Int.tdiv x0 4096)))))), (u8 ((W (128 + (Int.tmod (W (Int.tdiv x0 64)) 64))))), (u8 ((W (128 + (Int.tmod x0 64)))))] : List UInt8).length))] _ rfl ⟨⟨rfl, trivial⟩, rfl⟩ (JO.done rfl ?_)
      cases h
      exact JS.ret ttOk (a12, ([(u8 ((W (224 + (W (Int.tdiv x0 4096)))))), (u8 ((W (128 + (Int.tmod (W (Int.tdiv x0 64)) 64))))), (u8 ((W (128 + (Int.tmod x0 64)))))] : List UInt8).length) trivial rfl rfl [0] rfl
    have h := condF h ht24
    refine JS.skip (JS.endB (JS.seq (JS.region ?_)))
    have g13 : (262144 : Int) ≠ 0 := by decide
    have g14 : (4096 : Int) ≠ 0 := by decide
    have g15 : (64 : Int) ≠ 0 := by decide
    have g16 : (64 : Int) ≠ 0 := by decide
    have g17 : (64 : Int) ≠ 0 := by decide
    have g18 : (64 : Int) ≠ 0 := by decide
    refine JO.reg ttOk 18 [(W (Int.tdiv x0 262144)), (W (240 + (W (Int.tdiv x0 262144)))), ((u8 ((W (240 + (W (Int.tdiv x0 262144)))))).toNat : Int), (W (Int.tdiv x0 4096)), (W (128 + (Int.tmod (W (Int.tdiv x0 4096)) 64))), ((u8 ((W (128 + (Int.tmod (W (Int.tdiv x0 4096)) 64))))).toNat : Int), (W (Int.tdiv x0 64)), (W (128 + (Int.tmod (W (Int.tdiv x0 64)) 64))), ((u8 ((W (128 + (Int.tmod (W (Int.tdiv x0 64)) 64))))).toNat : Int), (W (128 + (Int.tmod x0 64))), ((u8 ((W (128 + (Int.tmod x0 64))))).toNat : Int)] [] [(45, .v (.int .u8 ((u8 ((W (240 + (W (Int.tdiv x0 262144)))))).toNat : Int))), (50, .v (.int .u8 ((u8 ((W (128 + (Int.tmod (W (Int.tdiv x0 4096)) 64))))).toNat : Int))), (55, .v (.int .u8 ((u8 ((W (128 + (Int.tmod (W (Int.tdiv x0 64)) 64))))).toNat : Int))), (59, .v (.int .u8 ((u8 ((W (128 + (Int.tmod x0 64))))).toNat : Int)))] _ rfl ⟨⟨g13, rfl⟩, ⟨trivial, rfl⟩, ⟨trivial, u8_wrap _⟩, ⟨g14, rfl⟩, g15, ⟨trivial, rfl⟩, ⟨trivial, u8_wrap _⟩, ⟨g16, rfl⟩, g17, ⟨trivial, rfl⟩, ⟨trivial, u8_wrap _⟩, g18, ⟨trivial, rfl⟩, ⟨trivial, u8_wrap _⟩, (Es rfl), rfl⟩ ?_
    refine JO.ofK rfl (JK.buildSlice ttOk rfl rfl rfl rfl rfl rfl rfl rfl rfl rfl rfl [] rfl .byte [(u8 ((W (240 + (W (Int.tdiv x0 262144)))))), (u8 ((W (128 + (Int.tmod (W (Int.tdiv x0 4096)) 64))))), (u8 ((W (128 + (Int.tmod (W (Int.tdiv x0 64)) 64))))), (u8 ((W (128 + (Int.tmod x0 64)))))] ⟨rfl, rfl⟩ rfl rfl fun a19 => JO.toK ?_)
    refine JO.reg ttOk 1 [] [] [(2, .v (.slice a19 ([(u8 ((W (240 + (W (Int.tdiv x0 262144)))))), (u8 ((W (128 + (Int.tmod (W (Int.tdiv x0 4096)) 64))))), (u8 ((W (128 + (Int.tmod (W (Int.tdiv x0 64)) 64))))), (u8 ((W (128 + (Int.tmod x0 64)))))] : List UInt8).length ([(u8 ((W (240 + (W (Int.tdiv x0 262144)))))), (u8 ((W (128 + (Int.tmod (W (Int.tdiv x0 4096)) 64))))), (u8 ((W (128 + (Int.tmod (W (Int.tdiv x0 64)) 64))))), (u8 ((W (128 + (Int.tmod x0 64)))))] : List UInt8).length))] _ rfl ⟨⟨rfl, trivial⟩, rfl⟩ (JO.done rfl ?_)
    cases h
    exact JS.ret ttOk (a19, ([(u8 ((W (240 + (W (Int.tdiv x0 262144)))))), (u8 ((W (128 + (Int.tmod (W (Int.tdiv x0 4096)) 64))))), (u8 ((W (128 + (Int.tmod (W (Int.tdiv x0 64)) 64))))), (u8 ((W (128 + (Int.tmod x0 64)))))] : List UInt8).length) trivial rfl rfl [0] rfl

def M_i_RuneRead_L1 (x0 : List UInt8) (x1 : Int) (x19 : Int) (j39 : Int → Option (Int × Int)) (k34 : (Int × Int) → Option (Int × Int)) : (Int × Int) → Option (Int × Int) := fun (x29, x30) =>
  (bif (decide (x30 < ((sub' x0 (W (x1 + 1)) (W (x1 + x19))).length : Int))) then
  (guardO (0 ≤ x30 ∧ x30 < ((sub' x0 (W (x1 + 1)) (W (x1 + x19))).length : Int)) <|
  k34 ((W ((W ((W (x29 * 64)) + ((at' (sub' x0 (W (x1 + 1)) (W (x1 + x19))) x30).toNat : Int))) - 128)), (W (x30 + 1))))
  else
  j39 x29)

def M_i_RuneRead (x0 : List UInt8) (x1 : Int) : Option (Int × Int) :=
  (bif (bif (decide (x1 < 0)) then true else (decide ((x0.length : Int) ≤ x1))) then
  some (0, 0)
  else
  (guardO (0 ≤ x1 ∧ x1 < (x0.length : Int)) <|
  (joinO (fun ((x19, x20) : Int × Int) =>
  (bif (decide ((W ((x0.length : Int) - x19)) < x1)) then
  some (0, 0)
  else
  (guardO (0 ≤ (W (x1 + 1)) ∧ (W (x1 + 1)) ≤ (W (x1 + x19)) ∧ (W (x1 + x19)) ≤ (x0.length : Int)) <|
  (joinO (fun (x38 : Int) =>
  (bindO (M_i_RuneBytes x38) fun (y42 : List UInt8) =>
  (guardO (0 ≤ x1 ∧ x1 ≤ (W (x1 + x19)) ∧ (W (x1 + x19)) ≤ (x0.length : Int)) <|
  (bif (!(decide (y42 = (sub' x0 x1 (W (x1 + x19)))))) then
  some (0, 0)
  else
  some (x38, x19))))) fun j39 =>
  (fixF (M_i_RuneRead_L1 x0 x1 x19 j39) FUEL (x20, 0)))))) fun j21 =>
  (bif (decide (((at' x0 x1).toNat : Int) < 128)) then
  some (((at' x0 x1).toNat : Int), 1)
  else
  (bindO (M_i_in ((at' x0 x1).toNat : Int) 192 223) fun (y9 : Bool) =>
  (bif y9 then
  j21 (2, (W (((at' x0 x1).toNat : Int) - 192)))
  else
  (bindO (M_i_in ((at' x0 x1).toNat : Int) 224 239) fun (y11 : Bool) =>
  (bif y11 then
  j21 (3, (W (((at' x0 x1).toNat : Int) - 224)))
  else
  (bindO (M_i_in ((at' x0 x1).toNat : Int) 240 247) fun (y13 : Bool) =>
  (bif y13 then
  j21 (4, (W (((at' x0 x1).toNat : Int) - 240)))
  else
  some (0, 0)))))))))))

theorem ok_i_RuneRead (x0 : List UInt8) (x1 : Int) (a3 : Option Addr) (c4 : Nat) (l5 : Nat) (hl6 : x0.length = l5) (r : Int × Int) (h : M_i_RuneRead x0 x1 = some r) :
    FC Tryd.prog 45 [.slice a3 l5 c4, .int .i64 x1] [⟨.byte, ⟨a3, l5, c4⟩, x0⟩] (fun _ : Unit => True) (fun _ => .tuple #[.int .i64 r.1, .int .i64 r.2]) (fun _ => []) :=
  by
    subst hl6
    refine FC.of (T := TTx) Tryd.call45 Tryd.func45 rfl rfl fun w0 => ?_
    unfold M_i_RuneRead at h
    refine JS.rg0 ttOk 2 [] ⟨trivial, rfl⟩ rfl rfl (JS.seq (JS.rg0 ttOk 8 [(18, .v (.bool (bif (decide (x1 < 0)) then true else (decide ((x0.length : Int) ≤ x1)))))] ⟨⟨rfl, trivial⟩, rfl⟩ rfl rfl ?_))
    refine JS.cond rfl (fun ht73 => ?_) (fun ht73 => ?_)
    · have h := condT h ht73
      refine JS.rg0 ttOk 2 [(4, .v (.int .i64 0)), (5, .v (.int .i64 0))] ⟨(Es rfl), rfl⟩ rfl rfl ?_
      cases h
      exact JS.ret ttOk () trivial rfl rfl [] rfl
    have h := condF h ht73
    refine JS.skip (JS.seq (JS.region (JO.know 0 rfl fun hs59 => ?_)))
    obtain ⟨g8, h⟩ := guardO_some h
    refine JO.reg ttOk 3 [] [] [(21, .ep ⟨a3, x0.length, c4⟩ (Int.toNat x1 * 1))] _ rfl ⟨hs59.ix g8, ⟨rfl, trivial⟩, rfl⟩ (JO.load ttOk rfl rfl rfl rfl rfl rfl rfl 0 rfl rfl (Int.toNat x1) 0 (at' x0 x1) ⟨at_some g8, rfl⟩ rfl rfl (JO.reg ttOk 2 [((at' x0 x1).toNat : Int)] [] [(6, .v (.int .i64 ((at' x0 x1).toNat : Int)))] _ rfl ⟨⟨trivial, W_byte _⟩, ⟨rfl, trivial⟩, rfl⟩ (JO.done rfl (JS.rg0 ttOk 2 [] ⟨trivial, rfl⟩ rfl rfl (JS.seq ?_)))))
    obtain ⟨j21, hj72, h⟩ := joinO_some h
    refine JS.blockJ (ι := Int × Int) ⟨fun z => j21 (z.1, z.2) = some r, fun z => [(0, .v (.slice a3 x0.length c4)), (1, .v (.int .i64 x1)), (7, .v (.int .i64 z.1)), (8, .v (.int .i64 z.2))], fun z => .nil, fun z => [⟨.byte, ⟨a3, x0.length, c4⟩, x0⟩], fun z => [], fun z => 0⟩ ?_ ?_
    · refine JS.rg0 ttOk 3 [(24, .v (.bool (decide (((at' x0 x1).toNat : Int) < 128))))] ⟨⟨rfl, trivial⟩, rfl⟩ rfl rfl ?_
      refine JS.cond rfl (fun ht63 => ?_) (fun ht63 => ?_)
      · have h := condT h ht63
        refine JS.rg0 ttOk 3 [(4, .v (.int .i64 ((at' x0 x1).toNat : Int))), (5, .v (.int .i64 1))] ⟨(Es rfl), rfl⟩ rfl rfl ?_
        cases h
        exact JS.ret ttOk () trivial rfl rfl [] rfl
      have h := condF h ht63
      refine JS.seq (JS.region (JO.reg ttOk 1 [] [] [(29, .v (.int .i64 ((at' x0 x1).toNat : Int)))] _ rfl ⟨⟨rfl, trivial⟩, rfl⟩ ?_))
      obtain ⟨y9, hy10, h⟩ := bindO_some h
      refine JO.call rfl rfl rfl rfl (ok_i_in ((at' x0 x1).toNat : Int) 192 223 _ hy10) rfl [] rfl rfl fun _ _ => JO.reg ttOk 1 [] [] [(28, .v (.bool y9))] _ rfl ⟨⟨rfl, trivial⟩, rfl⟩ (JO.done rfl ?_)
      refine JS.cond rfl (fun ht62 => ?_) (fun ht62 => ?_)
      · have h := condT h ht62
        refine JS.re ttOk 4 [(W (((at' x0 x1).toNat : Int) - 192))] [] [(7, .v (.int .i64 2)), (8, .v (.int .i64 (W (((at' x0 x1).toNat : Int) - 192))))] _ ⟨⟨trivial, rfl⟩, (Es rfl), rfl⟩ rfl rfl (JS.endB (JS.endJ (2, (W (((at' x0 x1).toNat : Int) - 192))) h (Es rfl) trivial [0] rfl [] rfl))
      have h := condF h ht62
      refine JS.seq (JS.region (JO.reg ttOk 1 [] [] [(34, .v (.int .i64 ((at' x0 x1).toNat : Int)))] _ rfl ⟨⟨rfl, trivial⟩, rfl⟩ ?_))
      obtain ⟨y11, hy12, h⟩ := bindO_some h
      refine JO.call rfl rfl rfl rfl (ok_i_in ((at' x0 x1).toNat : Int) 224 239 _ hy12) rfl [] rfl rfl fun _ _ => JO.reg ttOk 1 [] [] [(33, .v (.bool y11))] _ rfl ⟨⟨rfl, trivial⟩, rfl⟩ (JO.done rfl ?_)
      refine JS.cond rfl (fun ht61 => ?_) (fun ht61 => ?_)
      · have h := condT h ht61
        refine JS.re ttOk 4 [(W (((at' x0 x1).toNat : Int) - 224))] [] [(7, .v (.int .i64 3)), (8, .v (.int .i64 (W (((at' x0 x1).toNat : Int) - 224))))] _ ⟨⟨trivial, rfl⟩, (Es rfl), rfl⟩ rfl rfl (JS.endB (JS.endJ (3, (W (((at' x0 x1).toNat : Int) - 224))) h (Es rfl) trivial [0] rfl [] rfl))
      have h := condF h ht61
      refine JS.seq (JS.region (JO.reg ttOk 1 [] [] [(39, .v (.int .i64 ((at' x0 x1).toNat : Int)))] _ rfl ⟨⟨rfl, trivial⟩, rfl⟩ ?_))
      obtain ⟨y13, hy14, h⟩ := bindO_some h
      refine JO.call rfl rfl rfl rfl (ok_i_in ((at' x0 x1).toNat : Int) 240 247 _ hy14) rfl [] rfl rfl fun _ _ => JO.reg ttOk 1 [] [] [(38, .v (.bool y13))] _ rfl ⟨⟨rfl, trivial⟩, rfl⟩ (JO.done rfl ?_)
      refine JS.cond rfl (fun ht60 => ?_) (fun ht60 => ?_)
      · have h := condT h ht60
        refine JS.re ttOk 4 [(W (((at' x0 x1).toNat : Int) - 240))] [] [(7, .v (.int .i64 4)), (8, .v (.int .i64 (W (((at' x0 x1).toNat : Int) - 240))))] _ ⟨⟨trivial, rfl⟩, (Es rfl), rfl⟩ rfl rfl (JS.endB (JS.endJ (4, (W (((at' x0 x1).toNat : Int) - 240))) h (Es rfl) trivial [0] rfl [] rfl))
      have h := condF h ht60
      refine JS.rg0 ttOk 2 [(4, .v (.int .i64 0)), (5, .v (.int .i64 0))] ⟨(Es rfl), rfl⟩ rfl rfl ?_
      cases h
      exact JS.ret ttOk () trivial rfl rfl [] rfl
    rintro ⟨x19, x20⟩ h
    subst hj72
    refine JS.seq (JS.rg ttOk 6 [(W ((x0.length : Int) - x19))] [] [(48, .v (.bool (decide ((W ((x0.length : Int) - x19)) < x1))))] _ ⟨⟨trivial, rfl⟩, ⟨rfl, trivial⟩, rfl⟩ rfl rfl ?_)
    refine JS.cond rfl (fun ht71 => ?_) (fun ht71 => ?_)
    · have h := condT h ht71
      refine JS.rg0 ttOk 2 [(4, .v (.int .i64 0)), (5, .v (.int .i64 0))] ⟨(Es rfl), rfl⟩ rfl rfl ?_
      cases h
      exact JS.ret ttOk () trivial rfl rfl [] rfl
    have h := condF h ht71
    refine JS.skip (JS.seq (JS.seq (JS.region (JO.reg ttOk 6 [(W (x1 + 1)), (W (x1 + x19))] [] [(49, .v (.slice a3 x0.length c4)), (51, .v (.int .i64 (W (x1 + 1)))), (54, .v (.int .i64 (W (x1 + x19))))] _ rfl ⟨⟨trivial, rfl⟩, ⟨trivial, rfl⟩, (Es rfl), rfl⟩ ?_))))
    obtain ⟨g26, h⟩ := guardO_some h
    refine JO.sliceR' ttOk rfl rfl rfl rfl rfl rfl rfl rfl 0 rfl (W (x1 + 1)) (W (x1 + x19)) rfl rfl g26 rfl fun a27 c28 => JO.reg ttOk 2 [] [] [(56, .v (.int .i64 ((sub' x0 (W (x1 + 1)) (W (x1 + x19))).length : Int))), (57, .v (.int .i64 0))] _ rfl ⟨(Es rfl), rfl⟩ (JO.done rfl ?_)
    obtain ⟨j39, hj70, h⟩ := joinO_some h
    refine JS.blockJ (ι := Int) ⟨fun z => j39 z = some r, fun z => [(0, .v (.slice a3 x0.length c4)), (1, .v (.int .i64 x1)), (7, .v (.int .i64 x19)), (8, .v (.int .i64 z))], fun z => .nil, fun z => [⟨.byte, ⟨a3, x0.length, c4⟩, x0⟩], fun z => [], fun z => 0⟩ ?_ ?_
    · refine JS.loop (ι := Nat × Int × Int) ⟨fun z => fixF (M_i_RuneRead_L1 x0 x1 x19 j39) z.1 (z.2.1, z.2.2) = some r, fun z => [(0, .v (.slice a3 x0.length c4)), (1, .v (.int .i64 x1)), (7, .v (.int .i64 x19)), (8, .v (.int .i64 z.2.1)), (55, .v (.slice a27 (sub' x0 (W (x1 + 1)) (W (x1 + x19))).length c28)), (56, .v (.int .i64 ((sub' x0 (W (x1 + 1)) (W (x1 + x19))).length : Int))), (57, .v (.int .i64 z.2.2))], fun z => .nil, fun z => [⟨.byte, ⟨a3, x0.length, c4⟩, x0⟩, ⟨.byte, ⟨a27, (sub' x0 (W (x1 + 1)) (W (x1 + x19))).length, c28⟩, (sub' x0 (W (x1 + 1)) (W (x1 + x19)))⟩], fun z => [], fun z => z.1⟩ (FUEL, x20, 0) h (Es rfl) trivial [1, 0] rfl [] rfl ?_
      rintro ⟨n35, x29, x30⟩ h
      obtain ⟨n35, rfl, h⟩ := fixF_some h
      rw [M_i_RuneRead_L1] at h
      refine JS.rg0 ttOk 1 [(58, .v (.bool (decide (x30 < ((sub' x0 (W (x1 + 1)) (W (x1 + x19))).length : Int)))))] ⟨⟨rfl, trivial⟩, rfl⟩ rfl rfl (JS.seq ?_)
      refine JS.cond rfl (fun ht65 => ?_) (fun ht65 => ?_)
      · have h := condT h ht65
        refine JS.skip (JS.seq (JS.block (JS.seq (JS.region (JO.know 1 rfl fun hs64 => ?_)))))
        obtain ⟨g32, h⟩ := guardO_some h
        refine JO.reg ttOk 1 [] [] [(59, .ep ⟨a27, (sub' x0 (W (x1 + 1)) (W (x1 + x19))).length, c28⟩ (Int.toNat x30 * 1))] _ rfl ⟨hs64.ix g32, ⟨rfl, trivial⟩, rfl⟩ (JO.load ttOk rfl rfl rfl rfl rfl rfl rfl 1 rfl rfl (Int.toNat x30) 0 (at' (sub' x0 (W (x1 + 1)) (W (x1 + x19))) x30) ⟨at_some g32, rfl⟩ rfl rfl (JO.reg ttOk 1 [] [] [(10, .v (.int .u8 ((at' (sub' x0 (W (x1 + 1)) (W (x1 + x19))) x30).toNat : Int)))] _ rfl ⟨⟨rfl, trivial⟩, rfl⟩ (JO.done rfl (JS.re ttOk 7 [(W (x29 * 64)), ((at' (sub' x0 (W (x1 + 1)) (W (x1 + x19))) x30).toNat : Int), (W ((W (x29 * 64)) + ((at' (sub' x0 (W (x1 + 1)) (W (x1 + x19))) x30).toNat : Int))), (W ((W ((W (x29 * 64)) + ((at' (sub' x0 (W (x1 + 1)) (W (x1 + x19))) x30).toNat : Int))) - 128))] [] [(8, .v (.int .i64 (W ((W ((W (x29 * 64)) + ((at' (sub' x0 (W (x1 + 1)) (W (x1 + x19))) x30).toNat : Int))) - 128))))] _ ⟨⟨trivial, rfl⟩, ⟨trivial, W_byte _⟩, ⟨trivial, rfl⟩, ⟨trivial, rfl⟩, ⟨rfl, trivial⟩, rfl⟩ rfl rfl (JS.endB (JS.re ttOk 2 [(W (x30 + 1))] [] [(57, .v (.int .i64 (W (x30 + 1))))] _ ⟨⟨trivial, rfl⟩, ⟨rfl, trivial⟩, rfl⟩ rfl rfl (JS.endL (n35, (W ((W ((W (x29 * 64)) + ((at' (sub' x0 (W (x1 + 1)) (W (x1 + x19))) x30).toNat : Int))) - 128)), (W (x30 + 1))) h (Nat.lt_succ_self _) (Es rfl) trivial [0, 1] rfl [] rfl)))))))
      have h := condF h ht65
      refine JS.exit rfl (JS.endJ x29 h (Es rfl) trivial [0] rfl [] rfl)
    rintro x38 h
    subst hj70
    refine JS.seq (JS.seq ?_)
    obtain ⟨y42, hy43, h⟩ := bindO_some h
    obtain ⟨g46, h⟩ := guardO_some h
    refine JS.subR 0 rfl x1 (W (x1 + x19)) fun a47 c48 hu49 => JS.know 1 rfl fun hs68 => ?_
    refine JS.regionA rfl .nil [0] [10] trivial rfl (fun be53 => ?_)
    refine JA.reg ttOk panic_cx true 5 [0, 3, 4, 5, 6, 7] rfl (by kernel_rfl) [(W (x1 + x19))] [(68, .v (.int .i64 x38)), (71, .v (.slice a3 x0.length c4)), (72, .v (.int .i64 x1)), (75, .v (.int .i64 (W (x1 + x19))))] trivial [0] rfl rfl ⟨⟨trivial, rfl⟩, (Es rfl)⟩ (JA.sliceP ttOk panic_cx 8 rfl (by kernel_rfl) rfl rfl rfl rfl rfl rfl x1 (W (x1 + x19)) rfl rfl ⟨g46.1, g46.2.1, g46.2.2, hs68.cap, hu49 g46⟩ rfl (JA.strOf ttOk panic_cx 9 rfl (by kernel_rfl) rfl rfl rfl rfl rfl rfl rfl 0 rfl rfl trivial [0] rfl (JA.one 1 (by kernel_rfl) (JK.call rfl rfl rfl rfl (ok_i_RuneBytes x38 _ hy43) rfl [] rfl rfl ?_))))
    rintro ⟨a44, c45⟩ -
    refine JA.next trivial [0] rfl (JA.one 2 (by kernel_rfl) (JK.strOf ttOk rfl rfl rfl rfl rfl rfl rfl rfl 2 rfl rfl (JA.next trivial [0] rfl (JA.regL ttOk panic_cx 0 [10] rfl (by kernel_rfl) [] [(78, .v (.bool (!(decide (y42 = (sub' x0 x1 (W (x1 + x19))))))))] rfl ⟨rfl, trivial⟩ (JA.done (by kernel_rfl) (JS.boxes (B' := .nil) trivial ?_))))))
    refine JS.cond rfl (fun ht69 => ?_) (fun ht69 => ?_)
    · have h := condT h ht69
      refine JS.rg0 ttOk 2 [(4, .v (.int .i64 0)), (5, .v (.int .i64 0))] ⟨(Es rfl), rfl⟩ rfl rfl ?_
      cases h
      exact JS.ret ttOk () trivial rfl rfl [] rfl
    have h := condF h ht69
    refine JS.skip (JS.rg0 ttOk 4 [(4, .v (.int .i64 x38)), (5, .v (.int .i64 x19))] ⟨(Es rfl), rfl⟩ rfl rfl ?_)
    cases h
    exact JS.ret ttOk () trivial rfl rfl [] rfl

def M_i_Grid_scroll_in31_L1 (x0 : (Int × Int × List Int × Int × Int × Bool) × Int × List Int × List UInt8 × Int) (j62 : (List Int) → Option ((Int × Int × List Int × Int × Int × Bool) × Int × List Int × List UInt8 × Int)) (k56 : (List Int × Int) → Option ((Int × Int × List Int × Int × Int × Bool) × Int × List Int × List UInt8 × Int)) : (List Int × Int) → Option ((Int × Int × List Int × Int × Int × Bool) × Int × List Int × List UInt8 × Int) := fun (x30, x33) =>
  (bif (decide (x33 < x0.1.1)) then
  (guardO (x30.length + ([32] : List Int).length ≤ 536870912) <|
  k56 ((x30 ++ ([32] : List Int)), (W (x33 + 1))))
  else
  j62 x30)

def M_i_Grid_scroll_in31 (x0 : (Int × Int × List Int × Int × Int × Bool) × Int × List Int × List UInt8 × Int) : Option ((Int × Int × List Int × Int × Int × Bool) × Int × List Int × List UInt8 × Int) :=
  (guardO (0 ≤ x0.1.1 ∧ x0.1.1 ≤ (x0.1.2.2.1.length : Int) ∧ (x0.1.2.2.1.length : Int) ≤ (x0.1.2.2.1.length : Int)) <|
  (bindO (M_i_copyInts (sub' x0.1.2.2.1 x0.1.1 (x0.1.2.2.1.length : Int))) fun (y21 : List Int) =>
  (joinO (fun (x59 : List Int) =>
  some ((x0.1.1, x0.1.2.1, x59, x0.1.2.2.2.1, x0.1.2.2.2.2.1, x0.1.2.2.2.2.2), x0.2.1, x0.2.2.1, x0.2.2.2.1, x0.2.2.2.2)) fun j62 =>
  (fixF (M_i_Grid_scroll_in31_L1 x0 j62) FUEL (y21, 0)))))

theorem ok_i_Grid_scroll_in31 (x0 : (Int × Int × List Int × Int × Int × Bool) × Int × List Int × List UInt8 × Int) (a2 : Option Addr) (a3 : Option Addr) (c4 : Nat) (l5 : Nat) (hl6 : x0.1.2.2.1.length = l5) (a7 : Option Addr) (c8 : Nat) (l9 : Nat) (hl10 : x0.2.2.1.length = l9) (a11 : Option Addr) (c12 : Nat) (l13 : Nat) (hl14 : x0.2.2.2.1.length = l13) (r : (Int × Int × List Int × Int × Int × Bool) × Int × List Int × List UInt8 × Int) (h : M_i_Grid_scroll_in31 x0 = some r) :
    FX Tryd.prog 48 [.pointer a2] [] [⟨(.pair (.pair (.int .i64) (.pair (.int .i64) (.pair .val (.pair (.int .i64) (.pair (.int .i64) .bool))))) (.pair (.int .i64) (.pair .val (.pair .val (.int .i64))))), ⟨a2, 1, 1⟩, [((x0.1.1, x0.1.2.1, (Sl.v ⟨a3, l5, c4⟩), x0.1.2.2.2.1, x0.1.2.2.2.2.1, x0.1.2.2.2.2.2), x0.2.1, (Sl.v ⟨a7, l9, c8⟩), (Sl.v ⟨a11, l13, c12⟩), x0.2.2.2.2)]⟩, ⟨(.int .i64), ⟨a3, l5, c4⟩, x0.1.2.2.1⟩, ⟨(.int .i64), ⟨a7, l9, c8⟩, x0.2.2.1⟩, ⟨.byte, ⟨a11, l13, c12⟩, x0.2.2.2.1⟩] (fun _ : Option Addr × Nat × Option Addr × Nat × Option Addr × Nat => True) (fun q => .tuple #[]) (fun q => [⟨(.pair (.pair (.int .i64) (.pair (.int .i64) (.pair .val (.pair (.int .i64) (.pair (.int .i64) .bool))))) (.pair (.int .i64) (.pair .val (.pair .val (.int .i64))))), ⟨a2, 1, 1⟩, [((r.1.1, r.1.2.1, (Sl.v ⟨q.1, r.1.2.2.1.length, q.2.1⟩), r.1.2.2.2.1, r.1.2.2.2.2.1, r.1.2.2.2.2.2), r.2.1, (Sl.v ⟨q.2.2.1, r.2.2.1.length, q.2.2.2.1⟩), (Sl.v ⟨q.2.2.2.2.1, r.2.2.2.1.length, q.2.2.2.2.2⟩), r.2.2.2.2)]⟩, ⟨(.int .i64), ⟨q.1, r.1.2.2.1.length, q.2.1⟩, r.1.2.2.1⟩, ⟨(.int .i64), ⟨q.2.2.1, r.2.2.1.length, q.2.2.2.1⟩, r.2.2.1⟩, ⟨.byte, ⟨q.2.2.2.2.1, r.2.2.2.1.length, q.2.2.2.2.2⟩, r.2.2.2.1⟩]) :=
  by
    subst hl6
    subst hl10
    subst hl14
    refine FX.of (T := TTx) Tryd.call48 Tryd.func48 rfl rfl fun w0 L0 => ?_
    unfold M_i_Grid_scroll_in31 at h
    refine JS.ptr 0 a2 rfl ?_
    refine JS.seq ?_
    obtain ⟨g16, h⟩ := guardO_some h
    obtain ⟨y21, hy22, h⟩ := bindO_some h
    refine JS.freeze [1] rfl (JS.subR 0 rfl x0.1.1 (x0.1.2.2.1.length : Int) fun a17 c18 hu19 => JS.know 2 rfl fun hs70 => JS.know 1 rfl fun hs71 => ?_)
    refine JS.regionA rfl .nil [2] [8, 9, 10] trivial rfl (fun be29 => ?_)
    refine JA.reg ttOk panic_cxX true 5 [0, 1, 2, 4, 5, 6] rfl (by kernel_rfl) [] [(5, .ep ⟨a2, 1, 1⟩ 2), (9, .ep ⟨a2, 1, 1⟩ 0)] trivial [2] rfl rfl ⟨(hs70.fa ptr0).1, hs70.fa ptr0, (hs70.fa ptr0).1, hs70.fa ptr0, (Es rfl)⟩ (JA.loadV ttOk panic_cxX 3 rfl (by kernel_rfl) rfl rfl rfl rfl rfl 0 rfl rfl 0 2 ((x0.1.1, x0.1.2.1, (Sl.v ⟨a3, x0.1.2.2.1.length, c4⟩), x0.1.2.2.2.1, x0.1.2.2.2.2.1, x0.1.2.2.2.2.2), x0.2.1, (Sl.v ⟨a7, x0.2.2.1.length, c8⟩), (Sl.v ⟨a11, x0.2.2.2.1.length, c12⟩), x0.2.2.2.2) ⟨rfl, rfl⟩ rfl rfl rfl trivial [2] rfl (JA.loadV ttOk panic_cxX 7 rfl (by kernel_rfl) rfl rfl rfl rfl rfl 0 rfl rfl 0 0 ((x0.1.1, x0.1.2.1, (Sl.v ⟨a3, x0.1.2.2.1.length, c4⟩), x0.1.2.2.2.1, x0.1.2.2.2.2.1, x0.1.2.2.2.2.2), x0.2.1, (Sl.v ⟨a7, x0.2.2.1.length, c8⟩), (Sl.v ⟨a11, x0.2.2.2.1.length, c12⟩), x0.2.2.2.2) ⟨rfl, rfl⟩ rfl rfl rfl trivial [2] rfl (JA.sliceP ttOk panic_cxX 8 rfl (by kernel_rfl) rfl rfl rfl rfl rfl rfl x0.1.1 (x0.1.2.2.1.length : Int) rfl rfl ⟨g16.1, g16.2.1, g16.2.2, hs71.cap, hu19 g16⟩ rfl (JA.one 9 (by kernel_rfl) (JK.call rfl rfl rfl rfl (ok_i_copyInts (sub' x0.1.2.2.1 x0.1.1 (x0.1.2.2.1.length : Int)) a17 c18 ((sub' x0.1.2.2.1 x0.1.1 (x0.1.2.2.1.length : Int)).length) rfl _ hy22) rfl [0] rfl rfl ?_)))))
    rintro ⟨a23, c24⟩ -
    refine JA.nextL rfl (JA.regL ttOk panic_cxX 0 [10] rfl (by kernel_rfl) [] [(2, .v (.slice a23 y21.length c24))] rfl ⟨rfl, trivial⟩ (JA.done (by kernel_rfl) (JS.boxes (B' := .nil) trivial (JS.seq (JS.seq (JS.region (JO.reg ttOk 3 [] [] [(15, .ep ⟨a2, 1, 1⟩ 0)] _ rfl ⟨(hs70.fa ptr0).1, hs70.fa ptr0, ⟨rfl, trivial⟩, rfl⟩ (JO.loadV ttOk rfl rfl rfl rfl rfl rfl 3 rfl rfl 0 0 ((x0.1.1, x0.1.2.1, (Sl.v ⟨a3, x0.1.2.2.1.length, c4⟩), x0.1.2.2.2.1, x0.1.2.2.2.2.1, x0.1.2.2.2.2.2), x0.2.1, (Sl.v ⟨a7, x0.2.2.1.length, c8⟩), (Sl.v ⟨a11, x0.2.2.2.1.length, c12⟩), x0.2.2.2.2) ⟨rfl, rfl⟩ rfl rfl rfl (JO.reg ttOk 1 [] [] [(17, .v (.int .i64 0))] _ rfl ⟨⟨rfl, trivial⟩, rfl⟩ (JO.done rfl ?_))))))))))
    obtain ⟨j62, hj74, h⟩ := joinO_some h
    refine JS.blockJ (ι := List Int × Option Addr × Nat) ⟨fun z => j62 z.1 = some r, fun z => [(0, .ep ⟨a2, 1, 1⟩ 0), (2, .v (.slice z.2.1 z.1.length z.2.2))], fun z => .nil, fun z => [⟨(.int .i64), ⟨a3, x0.1.2.2.1.length, c4⟩, x0.1.2.2.1⟩], fun z => [⟨(.int .i64), ⟨z.2.1, z.1.length, z.2.2⟩, z.1⟩, ⟨(.pair (.pair (.int .i64) (.pair (.int .i64) (.pair .val (.pair (.int .i64) (.pair (.int .i64) .bool))))) (.pair (.int .i64) (.pair .val (.pair .val (.int .i64))))), ⟨a2, 1, 1⟩, [((x0.1.1, x0.1.2.1, (Sl.v ⟨a3, x0.1.2.2.1.length, c4⟩), x0.1.2.2.2.1, x0.1.2.2.2.2.1, x0.1.2.2.2.2.2), x0.2.1, (Sl.v ⟨a7, x0.2.2.1.length, c8⟩), (Sl.v ⟨a11, x0.2.2.2.1.length, c12⟩), x0.2.2.2.2)]⟩, ⟨(.int .i64), ⟨a7, x0.2.2.1.length, c8⟩, x0.2.2.1⟩, ⟨.byte, ⟨a11, x0.2.2.2.1.length, c12⟩, x0.2.2.2.1⟩], fun z => 0⟩ ?_ ?_
    · refine JS.loop (ι := Nat × List Int × Int × Option Addr × Nat) ⟨fun z => fixF (M_i_Grid_scroll_in31_L1 x0 j62) z.1 (z.2.1, z.2.2.1) = some r, fun z => [(0, .ep ⟨a2, 1, 1⟩ 0), (2, .v (.slice z.2.2.2.1 z.2.1.length z.2.2.2.2)), (16, .v (.int .i64 x0.1.1)), (17, .v (.int .i64 z.2.2.1))], fun z => .nil, fun z => [⟨(.int .i64), ⟨a3, x0.1.2.2.1.length, c4⟩, x0.1.2.2.1⟩], fun z => [⟨(.int .i64), ⟨z.2.2.2.1, z.2.1.length, z.2.2.2.2⟩, z.2.1⟩, ⟨(.pair (.pair (.int .i64) (.pair (.int .i64) (.pair .val (.pair (.int .i64) (.pair (.int .i64) .bool))))) (.pair (.int .i64) (.pair .val (.pair .val (.int .i64))))), ⟨a2, 1, 1⟩, [((x0.1.1, x0.1.2.1, (Sl.v ⟨a3, x0.1.2.2.1.length, c4⟩), x0.1.2.2.2.1, x0.1.2.2.2.2.1, x0.1.2.2.2.2.2), x0.2.1, (Sl.v ⟨a7, x0.2.2.1.length, c8⟩), (Sl.v ⟨a11, x0.2.2.2.1.length, c12⟩), x0.2.2.2.2)]⟩, ⟨(.int .i64), ⟨a7, x0.2.2.1.length, c8⟩, x0.2.2.1⟩, ⟨.byte, ⟨a11, x0.2.2.2.1.length, c12⟩, x0.2.2.2.1⟩], fun z => z.1⟩ (FUEL, y21, 0, a23, c24) h (Es rfl) trivial [1] rfl [0, 0, 0, 0] rfl ?_
      rintro ⟨n57, x30, x33, a31, c32⟩ h
      obtain ⟨n57, rfl, h⟩ := fixF_some h
      rw [M_i_Grid_scroll_in31_L1] at h
      refine JS.rg0 ttOk 1 [(18, .v (.bool (decide (x33 < x0.1.1))))] ⟨⟨rfl, trivial⟩, rfl⟩ rfl rfl (JS.seq ?_)
      refine JS.cond rfl (fun ht72 => ?_) (fun ht72 => ?_)
      · have h := condT h ht72
        refine JS.skip (JS.seq (JS.block (JS.region (JO.reg ttOk 1 [] [] [(19, .v (.slice a31 x30.length c32))] _ rfl ⟨⟨rfl, trivial⟩, rfl⟩ ?_))))
        refine JO.ofK rfl (JK.buildSlice ttOk rfl rfl rfl rfl rfl rfl rfl rfl rfl rfl rfl [] rfl (.int .i64) [32] ⟨rfl, rfl⟩ rfl rfl fun a50 => JO.toK ?_)
        obtain ⟨g51, h⟩ := guardO_some h
        refine JO.appendR' ttOk rfl rfl rfl rfl ⟨rfl, rfl, rfl, rfl, trivial, rfl, rfl, rfl, rfl⟩ rfl rfl rfl [1] rfl 1 rfl g51 rfl fun a52 c53 => JO.reg ttOk 1 [] [] [(2, .v (.slice a52 (x30 ++ ([32] : List Int)).length c53))] _ rfl ⟨⟨rfl, trivial⟩, rfl⟩ (JO.done rfl (JS.endB (JS.re ttOk 2 [(W (x33 + 1))] [] [(17, .v (.int .i64 (W (x33 + 1))))] _ ⟨⟨trivial, rfl⟩, ⟨rfl, trivial⟩, rfl⟩ rfl rfl (JS.endLA (n57, (x30 ++ ([32] : List Int)), (W (x33 + 1)), a52, c53) h (Nat.lt_succ_self _) (Es rfl) trivial [0] rfl [0, 2, 3, 4] rfl rfl))))
      have h := condF h ht72
      refine JS.exit rfl (JS.endJA (x30, a31, c32) h (Es rfl) trivial [0] rfl [0, 1, 2, 3] rfl rfl)
    rintro ⟨x59, a60, c61⟩ h
    subst hj74
    refine JS.region (JO.know 2 rfl fun hs73 => JO.reg ttOk 4 [] [] [(24, .v (.slice a60 x59.length c61)), (26, .ep ⟨a2, 1, 1⟩ 2)] _ rfl ⟨(hs73.fa ptr0).1, hs73.fa ptr0, (Es rfl), rfl⟩ (JO.storeE ttOk rfl rfl rfl rfl rfl rfl rfl rfl rfl [1] (fs := []) rfl 0 2 ((x0.1.1, x0.1.2.1, (Sl.v ⟨a3, x0.1.2.2.1.length, c4⟩), x0.1.2.2.2.1, x0.1.2.2.2.2.1, x0.1.2.2.2.2.2), x0.2.1, (Sl.v ⟨a7, x0.2.2.1.length, c8⟩), (Sl.v ⟨a11, x0.2.2.2.1.length, c12⟩), x0.2.2.2.2) ((x0.1.1, x0.1.2.1, (Sl.v ⟨a60, x59.length, c61⟩), x0.1.2.2.2.1, x0.1.2.2.2.2.1, x0.1.2.2.2.2.2), x0.2.1, (Sl.v ⟨a7, x0.2.2.1.length, c8⟩), (Sl.v ⟨a11, x0.2.2.2.1.length, c12⟩), x0.2.2.2.2) ⟨rfl, rfl⟩ ⟨⟨⟨⟨⟨rfl, rfl, rfl, rfl⟩, rfl⟩, rfl⟩, rfl⟩, rfl⟩ (JO.done rfl ?_)))
    cases h
    exact JS.fallX ttOk (a60, c61, a7, c8, a11, c12) trivial rfl rfl [0, 0, 0, 0] rfl

def M_i_Grid_put_in31 (x0 : (Int × Int × List Int × Int × Int × Bool) × Int × List Int × List UInt8 × Int) (x1 : Int) : Option ((Int × Int × List Int × Int × Int × Bool) × Int × List Int × List UInt8 × Int) :=
  (bindO (M_i_Width x1) fun (y16 : Int) =>
  (bif (decide (y16 = 0)) then
  some x0
  else
  (joinO (fun ((x58, x59, x60, x63, x64, x65, x66, x67, x70, x73) : Int × Int × List Int × Int × Int × Bool × Int × List Int × List UInt8 × Int) =>
  (bindO (M_i_Grid_erase_in31 ((x58, x59, x60, x63, x64, x65), x66, x67, x70, x73) (W ((W (x64 * x58)) + x63)) (W ((W ((W (x64 * x58)) + x63)) + y16))) fun (y109 : (Int × Int × List Int × Int × Int × Bool) × Int × List Int × List UInt8 × Int) =>
  (guardO (0 ≤ (W ((W (x64 * x58)) + x63)) ∧ (W ((W (x64 * x58)) + x63)) < (y109.1.2.2.1.length : Int)) <|
  (joinO (fun (x121 : List Int) =>
  (bif (decide (y109.1.1 ≤ (W (y109.1.2.2.2.1 + y16)))) then
  some ((y109.1.1, y109.1.2.1, x121, (W (y109.1.1 - 1)), y109.1.2.2.2.2.1, true), y109.2.1, y109.2.2.1, y109.2.2.2.1, y109.2.2.2.2)
  else
  some ((y109.1.1, y109.1.2.1, x121, (W (y109.1.2.2.2.1 + y16)), y109.1.2.2.2.2.1, y109.1.2.2.2.2.2), y109.2.1, y109.2.2.1, y109.2.2.2.1, y109.2.2.2.2))) fun j124 =>
  (bif (decide (y16 = 2)) then
  (guardO (0 ≤ (W ((W ((W (x64 * x58)) + x63)) + 1)) ∧ (W ((W ((W (x64 * x58)) + x63)) + 1)) < (y109.1.2.2.1.length : Int)) <|
  j124 (List.set (List.set y109.1.2.2.1 (Int.toNat (W ((W (x64 * x58)) + x63))) x1) (Int.toNat (W ((W ((W (x64 * x58)) + x63)) + 1))) (-1)))
  else
  j124 (List.set y109.1.2.2.1 (Int.toNat (W ((W (x64 * x58)) + x63))) x1)))))) fun j74 =>
  (bif (bif x0.1.2.2.2.2.2 then true else (bif (decide (y16 = 2)) then (decide (x0.1.2.2.2.1 = (W (x0.1.1 - 1)))) else false)) then
  (bif (decide (x0.1.2.2.2.2.1 = (W (x0.1.2.1 - 1)))) then
  (bindO (M_i_Grid_scroll_in31 ((x0.1.1, x0.1.2.1, x0.1.2.2.1, 0, x0.1.2.2.2.2.1, false), x0.2.1, x0.2.2.1, x0.2.2.2.1, x0.2.2.2.2)) fun (y48 : (Int × Int × List Int × Int × Int × Bool) × Int × List Int × List UInt8 × Int) =>
  j74 (y48.1.1, y48.1.2.1, y48.1.2.2.1, y48.1.2.2.2.1, y48.1.2.2.2.2.1, y48.1.2.2.2.2.2, y48.2.1, y48.2.2.1, y48.2.2.2.1, y48.2.2.2.2))
  else
  j74 (x0.1.1, x0.1.2.1, x0.1.2.2.1, 0, (W (x0.1.2.2.2.2.1 + 1)), false, x0.2.1, x0.2.2.1, x0.2.2.2.1, x0.2.2.2.2))
  else
  j74 (x0.1.1, x0.1.2.1, x0.1.2.2.1, x0.1.2.2.2.1, x0.1.2.2.2.2.1, x0.1.2.2.2.2.2, x0.2.1, x0.2.2.1, x0.2.2.2.1, x0.2.2.2.2)))))

theorem ok_i_Grid_put_in31 (x0 : (Int × Int × List Int × Int × Int × Bool) × Int × List Int × List UInt8 × Int) (x1 : Int) (a3 : Option Addr) (a4 : Option Addr) (c5 : Nat) (l6 : Nat) (hl7 : x0.1.2.2.1.length = l6) (a8 : Option Addr) (c9 : Nat) (l10 : Nat) (hl11 : x0.2.2.1.length = l10) (a12 : Option Addr) (c13 : Nat) (l14 : Nat) (hl15 : x0.2.2.2.1.length = l14) (r : (Int × Int × List Int × Int × Int × Bool) × Int × List Int × List UInt8 × Int) (h : M_i_Grid_put_in31 x0 x1 = some r) :
    FX Tryd.prog 46 [.pointer a3, .int .i64 x1] [] [⟨(.pair (.pair (.int .i64) (.pair (.int .i64) (.pair .val (.pair (.int .i64) (.pair (.int .i64) .bool))))) (.pair (.int .i64) (.pair .val (.pair .val (.int .i64))))), ⟨a3, 1, 1⟩, [((x0.1.1, x0.1.2.1, (Sl.v ⟨a4, l6, c5⟩), x0.1.2.2.2.1, x0.1.2.2.2.2.1, x0.1.2.2.2.2.2), x0.2.1, (Sl.v ⟨a8, l10, c9⟩), (Sl.v ⟨a12, l14, c13⟩), x0.2.2.2.2)]⟩, ⟨(.int .i64), ⟨a4, l6, c5⟩, x0.1.2.2.1⟩, ⟨(.int .i64), ⟨a8, l10, c9⟩, x0.2.2.1⟩, ⟨.byte, ⟨a12, l14, c13⟩, x0.2.2.2.1⟩] (fun _ : Option Addr × Nat × Option Addr × Nat × Option Addr × Nat => True) (fun q => .tuple #[]) (fun q => [⟨(.pair (.pair (.int .i64) (.pair (.int .i64) (.pair .val (.pair (.int .i64) (.pair (.int .i64) .bool))))) (.pair (.int .i64) (.pair .val (.pair .val (.int .i64))))), ⟨a3, 1, 1⟩, [((r.1.1, r.1.2.1, (Sl.v ⟨q.1, r.1.2.2.1.length, q.2.1⟩), r.1.2.2.2.1, r.1.2.2.2.2.1, r.1.2.2.2.2.2), r.2.1, (Sl.v ⟨q.2.2.1, r.2.2.1.length, q.2.2.2.1⟩), (Sl.v ⟨q.2.2.2.2.1, r.2.2.2.1.length, q.2.2.2.2.2⟩), r.2.2.2.2)]⟩, ⟨(.int .i64), ⟨q.1, r.1.2.2.1.length, q.2.1⟩, r.1.2.2.1⟩, ⟨(.int .i64), ⟨q.2.2.1, r.2.2.1.length, q.2.2.2.1⟩, r.2.2.1⟩, ⟨.byte, ⟨q.2.2.2.2.1, r.2.2.2.1.length, q.2.2.2.2.2⟩, r.2.2.2.1⟩]) :=
  by
    subst hl7
    subst hl11
    subst hl15
    refine FX.of (T := TTx) Tryd.call46 Tryd.func46 rfl rfl fun w0 L0 => ?_
    unfold M_i_Grid_put_in31 at h
    refine JS.ptr 0 a3 rfl ?_
    refine JS.seq (JS.region (JO.reg ttOk 1 [] [] [(6, .v (.int .i64 x1))] _ rfl ⟨⟨rfl, trivial⟩, rfl⟩ ?_))
    obtain ⟨y16, hy17, h⟩ := bindO_some h
    refine JO.call rfl rfl rfl rfl (ok_i_Width x1 _ hy17) rfl [] rfl rfl fun _ _ => JO.reg ttOk 1 [] [] [(4, .v (.int .i64 y16))] _ rfl ⟨⟨rfl, trivial⟩, rfl⟩ (JO.done rfl (JS.seq (JS.rg0 ttOk 2 [(9, .v (.bool (decide (y16 = 0))))] ⟨⟨rfl, trivial⟩, rfl⟩ rfl rfl ?_)))
    refine JS.cond rfl (fun ht171 => ?_) (fun ht171 => ?_)
    · have h := condT h ht171
      cases h
      exact JS.retX ttOk (a4, c5, a8, c9, a12, c13) trivial rfl rfl [0, 0, 0, 0] rfl
    have h := condF h ht171
    refine JS.skip ?_
    obtain ⟨j74, hj170, h⟩ := joinO_some h
    refine JS.seqJ (ι := Int × Int × List Int × Int × Int × Bool × Int × List Int × List UInt8 × Int × Option Addr × Nat × Option Addr × Nat × Option Addr × Nat) ⟨fun z => j74 (z.1, z.2.1, z.2.2.1, z.2.2.2.1, z.2.2.2.2.1, z.2.2.2.2.2.1, z.2.2.2.2.2.2.1, z.2.2.2.2.2.2.2.1, z.2.2.2.2.2.2.2.2.1, z.2.2.2.2.2.2.2.2.2.1) = some r, fun z => [(0, .ep ⟨a3, 1, 1⟩ 0), (1, .v (.int .i64 x1)), (4, .v (.int .i64 y16))], fun z => .nil, fun z => [], fun z => [⟨(.int .i64), ⟨z.2.2.2.2.2.2.2.2.2.2.1, z.2.2.1.length, z.2.2.2.2.2.2.2.2.2.2.2.1⟩, z.2.2.1⟩, ⟨(.int .i64), ⟨z.2.2.2.2.2.2.2.2.2.2.2.2.1, z.2.2.2.2.2.2.2.1.length, z.2.2.2.2.2.2.2.2.2.2.2.2.2.1⟩, z.2.2.2.2.2.2.2.1⟩, ⟨.byte, ⟨z.2.2.2.2.2.2.2.2.2.2.2.2.2.2.1, z.2.2.2.2.2.2.2.2.1.length, z.2.2.2.2.2.2.2.2.2.2.2.2.2.2.2⟩, z.2.2.2.2.2.2.2.2.1⟩, ⟨(.pair (.pair (.int .i64) (.pair (.int .i64) (.pair .val (.pair (.int .i64) (.pair (.int .i64) .bool))))) (.pair (.int .i64) (.pair .val (.pair .val (.int .i64))))), ⟨a3, 1, 1⟩, [((z.1, z.2.1, (Sl.v ⟨z.2.2.2.2.2.2.2.2.2.2.1, z.2.2.1.length, z.2.2.2.2.2.2.2.2.2.2.2.1⟩), z.2.2.2.1, z.2.2.2.2.1, z.2.2.2.2.2.1), z.2.2.2.2.2.2.1, (Sl.v ⟨z.2.2.2.2.2.2.2.2.2.2.2.2.1, z.2.2.2.2.2.2.2.1.length, z.2.2.2.2.2.2.2.2.2.2.2.2.2.1⟩), (Sl.v ⟨z.2.2.2.2.2.2.2.2.2.2.2.2.2.2.1, z.2.2.2.2.2.2.2.2.1.length, z.2.2.2.2.2.2.2.2.2.2.2.2.2.2.2⟩), z.2.2.2.2.2.2.2.2.2.1)]⟩], fun z => 0⟩ ?_ ?_
    · refine JS.seq (JS.know 0 rfl fun hs146 => JS.regionQ rfl (by kernel_rfl) (JQ.reg ttOk 3 [] [(12, .ep ⟨a3, 1, 1⟩ 5)] rfl ⟨(hs146.fa ptr0).1, hs146.fa ptr0, ⟨rfl, trivial⟩⟩ (JQ.loadV ttOk rfl rfl rfl rfl rfl rfl 0 rfl rfl 0 5 ((x0.1.1, x0.1.2.1, (Sl.v ⟨a4, x0.1.2.2.1.length, c5⟩), x0.1.2.2.2.1, x0.1.2.2.2.2.1, x0.1.2.2.2.2.2), x0.2.1, (Sl.v ⟨a8, x0.2.2.1.length, c9⟩), (Sl.v ⟨a12, x0.2.2.2.1.length, c13⟩), x0.2.2.2.2) ⟨rfl, rfl⟩ rfl rfl rfl (JQ.reg ttOk 7 [] [(14, .v (.bool x0.1.2.2.2.2.2)), (17, .cd [(14, false)] (.v (.bool (decide (y16 = 2))))), (20, .cd [(17, true), (14, false)] (.ep ⟨a3, 1, 1⟩ 3))] rfl ⟨(fun q147 q148 => (hs146.fa ptr0).1), (fun q149 q150 => hs146.fa ptr0), (Es rfl)⟩ (JQ.loadV ttOk rfl rfl rfl rfl rfl rfl 0 rfl rfl 0 3 ((x0.1.1, x0.1.2.1, (Sl.v ⟨a4, x0.1.2.2.1.length, c5⟩), x0.1.2.2.2.1, x0.1.2.2.2.2.1, x0.1.2.2.2.2.2), x0.2.1, (Sl.v ⟨a8, x0.2.2.1.length, c9⟩), (Sl.v ⟨a12, x0.2.2.2.1.length, c13⟩), x0.2.2.2.2) (fun q151 q152 => ⟨rfl, rfl⟩) rfl rfl rfl (JQ.reg ttOk 3 [] [(24, .cd [(17, true), (14, false)] (.ep ⟨a3, 1, 1⟩ 0))] rfl ⟨(fun q153 q154 => (hs146.fa ptr0).1), (fun q155 q156 => hs146.fa ptr0), ⟨rfl, trivial⟩⟩ (JQ.loadV ttOk rfl rfl rfl rfl rfl rfl 0 rfl rfl 0 0 ((x0.1.1, x0.1.2.1, (Sl.v ⟨a4, x0.1.2.2.1.length, c5⟩), x0.1.2.2.2.1, x0.1.2.2.2.2.1, x0.1.2.2.2.2.2), x0.2.1, (Sl.v ⟨a8, x0.2.2.1.length, c9⟩), (Sl.v ⟨a12, x0.2.2.2.1.length, c13⟩), x0.2.2.2.2) (fun q157 q158 => ⟨rfl, rfl⟩) rfl rfl rfl (JQ.reg ttOk 4 [(W (x0.1.1 - 1))] [(29, .v (.bool (bif x0.1.2.2.2.2.2 then true else (bif (decide (y16 = 2)) then (decide (x0.1.2.2.2.1 = (W (x0.1.1 - 1)))) else false))))] rfl ⟨(fun q159 q160 => ⟨trivial, rfl⟩), ⟨rfl, trivial⟩⟩ (JQ.done rfl ?_)))))))))
      refine JS.cond rfl (fun ht162 => ?_) (fun ht162 => ?_)
      · have h := condT h ht162
        refine JS.seq (JS.region (JO.reg ttOk 4 [] [] [(31, .ep ⟨a3, 1, 1⟩ 0), (33, .ep ⟨a3, 1, 1⟩ 3)] _ rfl ⟨(hs146.fa ptr0).1, hs146.fa ptr0, (Es rfl), rfl⟩ (JO.storeE ttOk rfl rfl rfl rfl rfl rfl rfl rfl rfl [0] (fs := []) rfl 0 3 ((x0.1.1, x0.1.2.1, (Sl.v ⟨a4, x0.1.2.2.1.length, c5⟩), x0.1.2.2.2.1, x0.1.2.2.2.2.1, x0.1.2.2.2.2.2), x0.2.1, (Sl.v ⟨a8, x0.2.2.1.length, c9⟩), (Sl.v ⟨a12, x0.2.2.2.1.length, c13⟩), x0.2.2.2.2) ((x0.1.1, x0.1.2.1, (Sl.v ⟨a4, x0.1.2.2.1.length, c5⟩), 0, x0.1.2.2.2.2.1, x0.1.2.2.2.2.2), x0.2.1, (Sl.v ⟨a8, x0.2.2.1.length, c9⟩), (Sl.v ⟨a12, x0.2.2.2.1.length, c13⟩), x0.2.2.2.2) ⟨rfl, rfl⟩ ⟨⟨⟨⟨⟨⟨rfl, rfl, rfl⟩, rfl⟩, rfl⟩, rfl⟩, rfl⟩, rfl⟩ (JO.reg ttOk 2 [] [] [(35, .ep ⟨a3, 1, 1⟩ 5)] _ rfl ⟨(hs146.fa ptr0).1, hs146.fa ptr0, ⟨rfl, trivial⟩, rfl⟩ (JO.storeE ttOk rfl rfl rfl rfl rfl rfl rfl rfl rfl [0] (fs := []) rfl 0 5 ((x0.1.1, x0.1.2.1, (Sl.v ⟨a4, x0.1.2.2.1.length, c5⟩), 0, x0.1.2.2.2.2.1, x0.1.2.2.2.2.2), x0.2.1, (Sl.v ⟨a8, x0.2.2.1.length, c9⟩), (Sl.v ⟨a12, x0.2.2.2.1.length, c13⟩), x0.2.2.2.2) ((x0.1.1, x0.1.2.1, (Sl.v ⟨a4, x0.1.2.2.1.length, c5⟩), 0, x0.1.2.2.2.2.1, false), x0.2.1, (Sl.v ⟨a8, x0.2.2.1.length, c9⟩), (Sl.v ⟨a12, x0.2.2.2.1.length, c13⟩), x0.2.2.2.2) ⟨rfl, rfl⟩ ⟨⟨⟨⟨⟨⟨⟨rfl, rfl, rfl⟩, rfl⟩, rfl⟩, rfl⟩, rfl⟩, rfl⟩, rfl⟩ (JO.done rfl (JS.seq (JS.regionQ rfl (by kernel_rfl) (JQ.reg ttOk 3 [] [(38, .ep ⟨a3, 1, 1⟩ 4)] rfl ⟨(hs146.fa ptr0).1, hs146.fa ptr0, ⟨rfl, trivial⟩⟩ (JQ.loadV ttOk rfl rfl rfl rfl rfl rfl 0 rfl rfl 0 4 ((x0.1.1, x0.1.2.1, (Sl.v ⟨a4, x0.1.2.2.1.length, c5⟩), 0, x0.1.2.2.2.2.1, false), x0.2.1, (Sl.v ⟨a8, x0.2.2.1.length, c9⟩), (Sl.v ⟨a12, x0.2.2.2.1.length, c13⟩), x0.2.2.2.2) ⟨rfl, rfl⟩ rfl rfl rfl (JQ.reg ttOk 3 [] [(42, .ep ⟨a3, 1, 1⟩ 1)] rfl ⟨(hs146.fa ptr0).1, hs146.fa ptr0, ⟨rfl, trivial⟩⟩ (JQ.loadV ttOk rfl rfl rfl rfl rfl rfl 0 rfl rfl 0 1 ((x0.1.1, x0.1.2.1, (Sl.v ⟨a4, x0.1.2.2.1.length, c5⟩), 0, x0.1.2.2.2.2.1, false), x0.2.1, (Sl.v ⟨a8, x0.2.2.1.length, c9⟩), (Sl.v ⟨a12, x0.2.2.2.1.length, c13⟩), x0.2.2.2.2) ⟨rfl, rfl⟩ rfl rfl rfl (JQ.reg ttOk 2 [(W (x0.1.2.1 - 1))] [(45, .v (.bool (decide (x0.1.2.2.2.2.1 = (W (x0.1.2.1 - 1))))))] rfl ⟨⟨trivial, rfl⟩, ⟨rfl, trivial⟩⟩ (JQ.done rfl ?_))))))))))))))
        refine JS.cond rfl (fun ht161 => ?_) (fun ht161 => ?_)
        · have h := condT h ht161
          refine JS.region (JO.reg ttOk 1 [] [] [(46, .ep ⟨a3, 1, 1⟩ 0)] _ rfl ⟨⟨rfl, trivial⟩, rfl⟩ ?_)
          obtain ⟨y48, hy49, h⟩ := bindO_some h
          refine JO.callX rfl rfl rfl rfl (ok_i_Grid_scroll_in31 ((x0.1.1, x0.1.2.1, x0.1.2.2.1, 0, x0.1.2.2.2.2.1, false), x0.2.1, x0.2.2.1, x0.2.2.2.1, x0.2.2.2.2) a3 a4 c5 x0.1.2.2.1.length rfl a8 c9 x0.2.2.1.length rfl a12 c13 x0.2.2.2.1.length rfl _ hy49) rfl [0, 0, 0, 0] rfl [] rfl rfl ?_
          rintro ⟨a50, c51, a52, c53, a54, c55⟩ -
          refine JO.done rfl (JS.endJA (y48.1.1, y48.1.2.1, y48.1.2.2.1, y48.1.2.2.2.1, y48.1.2.2.2.2.1, y48.1.2.2.2.2.2, y48.2.1, y48.2.2.1, y48.2.2.2.1, y48.2.2.2.2, a50, c51, a52, c53, a54, c55) h (Es rfl) trivial [] rfl [1, 2, 3, 0] rfl rfl)
        have h := condF h ht161
        refine JS.region (JO.reg ttOk 3 [] [] [(48, .ep ⟨a3, 1, 1⟩ 0), (50, .ep ⟨a3, 1, 1⟩ 4)] _ rfl ⟨(hs146.fa ptr0).1, hs146.fa ptr0, (Es rfl), rfl⟩ (JO.loadV ttOk rfl rfl rfl rfl rfl rfl 0 rfl rfl 0 4 ((x0.1.1, x0.1.2.1, (Sl.v ⟨a4, x0.1.2.2.1.length, c5⟩), 0, x0.1.2.2.2.2.1, false), x0.2.1, (Sl.v ⟨a8, x0.2.2.1.length, c9⟩), (Sl.v ⟨a12, x0.2.2.2.1.length, c13⟩), x0.2.2.2.2) ⟨rfl, rfl⟩ rfl rfl rfl (JO.reg ttOk 3 [(W (x0.1.2.2.2.2.1 + 1))] [] [(52, .v (.int .i64 (W (x0.1.2.2.2.2.1 + 1)))), (54, .ep ⟨a3, 1, 1⟩ 4)] _ rfl ⟨⟨trivial, rfl⟩, (hs146.fa ptr0).1, hs146.fa ptr0, (Es rfl), rfl⟩ (JO.storeE ttOk rfl rfl rfl rfl rfl rfl rfl rfl rfl [0] (fs := []) rfl 0 4 ((x0.1.1, x0.1.2.1, (Sl.v ⟨a4, x0.1.2.2.1.length, c5⟩), 0, x0.1.2.2.2.2.1, false), x0.2.1, (Sl.v ⟨a8, x0.2.2.1.length, c9⟩), (Sl.v ⟨a12, x0.2.2.2.1.length, c13⟩), x0.2.2.2.2) ((x0.1.1, x0.1.2.1, (Sl.v ⟨a4, x0.1.2.2.1.length, c5⟩), 0, (W (x0.1.2.2.2.2.1 + 1)), false), x0.2.1, (Sl.v ⟨a8, x0.2.2.1.length, c9⟩), (Sl.v ⟨a12, x0.2.2.2.1.length, c13⟩), x0.2.2.2.2) ⟨rfl, rfl⟩ ⟨⟨⟨⟨⟨⟨⟨rfl, rfl, rfl⟩, rfl⟩, rfl⟩, rfl⟩, rfl⟩, rfl⟩, rfl⟩ (JO.done rfl (JS.endJA (x0.1.1, x0.1.2.1, x0.1.2.2.1, 0, (W (x0.1.2.2.2.2.1 + 1)), false, x0.2.1, x0.2.2.1, x0.2.2.2.1, x0.2.2.2.2, a4, c5, a8, c9, a12, c13) h (Es rfl) trivial [] rfl [1, 2, 3, 0] rfl rfl))))))
      have h := condF h ht162
      refine JS.skip (JS.endJA (x0.1.1, x0.1.2.1, x0.1.2.2.1, x0.1.2.2.2.1, x0.1.2.2.2.2.1, x0.1.2.2.2.2.2, x0.2.1, x0.2.2.1, x0.2.2.2.1, x0.2.2.2.2, a4, c5, a8, c9, a12, c13) h (Es rfl) trivial [] rfl [1, 2, 3, 0] rfl rfl)
    rintro ⟨x58, x59, x60, x63, x64, x65, x66, x67, x70, x73, a61, c62, a68, c69, a71, c72⟩ h
    subst hj170
    refine JS.seq (JS.know 3 rfl fun hs164 => JS.regionQ rfl (by kernel_rfl) (JQ.reg ttOk 3 [] [(57, .ep ⟨a3, 1, 1⟩ 4)] rfl ⟨(hs164.fa ptr0).1, hs164.fa ptr0, ⟨rfl, trivial⟩⟩ (JQ.loadV ttOk rfl rfl rfl rfl rfl rfl 3 rfl rfl 0 4 ((x58, x59, (Sl.v ⟨a61, x60.length, c62⟩), x63, x64, x65), x66, (Sl.v ⟨a68, x67.length, c69⟩), (Sl.v ⟨a71, x70.length, c72⟩), x73) ⟨rfl, rfl⟩ rfl rfl rfl (JQ.reg ttOk 3 [] [(61, .ep ⟨a3, 1, 1⟩ 0)] rfl ⟨(hs164.fa ptr0).1, hs164.fa ptr0, ⟨rfl, trivial⟩⟩ (JQ.loadV ttOk rfl rfl rfl rfl rfl rfl 3 rfl rfl 0 0 ((x58, x59, (Sl.v ⟨a61, x60.length, c62⟩), x63, x64, x65), x66, (Sl.v ⟨a68, x67.length, c69⟩), (Sl.v ⟨a71, x70.length, c72⟩), x73) ⟨rfl, rfl⟩ rfl rfl rfl (JQ.reg ttOk 4 [(W (x64 * x58))] [(63, .v (.int .i64 (W (x64 * x58)))), (66, .ep ⟨a3, 1, 1⟩ 3)] rfl ⟨⟨trivial, rfl⟩, (hs164.fa ptr0).1, hs164.fa ptr0, (Es rfl)⟩ (JQ.loadV ttOk rfl rfl rfl rfl rfl rfl 3 rfl rfl 0 3 ((x58, x59, (Sl.v ⟨a61, x60.length, c62⟩), x63, x64, x65), x66, (Sl.v ⟨a68, x67.length, c69⟩), (Sl.v ⟨a71, x70.length, c72⟩), x73) ⟨rfl, rfl⟩ rfl rfl rfl (JQ.reg ttOk 2 [(W ((W (x64 * x58)) + x63))] [(5, .v (.int .i64 (W ((W (x64 * x58)) + x63))))] rfl ⟨⟨trivial, rfl⟩, ⟨rfl, trivial⟩⟩ (JQ.done rfl (JS.seq (JS.region (JO.reg ttOk 5 [(W ((W ((W (x64 * x58)) + x63)) + y16))] [] [(69, .ep ⟨a3, 1, 1⟩ 0), (70, .v (.int .i64 (W ((W (x64 * x58)) + x63)))), (73, .v (.int .i64 (W ((W ((W (x64 * x58)) + x63)) + y16))))] _ rfl ⟨⟨trivial, rfl⟩, (Es rfl), rfl⟩ ?_))))))))))))
    obtain ⟨y109, hy110, h⟩ := bindO_some h
    refine JO.callX rfl rfl rfl rfl (ok_i_Grid_erase_in31 ((x58, x59, x60, x63, x64, x65), x66, x67, x70, x73) (W ((W (x64 * x58)) + x63)) (W ((W ((W (x64 * x58)) + x63)) + y16)) a3 a61 c62 x60.length rfl a68 c69 x67.length rfl a71 c72 x70.length rfl _ hy110) rfl [3, 0, 0, 0] rfl [] rfl rfl ?_
    rintro ⟨a111, c112, a113, c114, a115, c116⟩ -
    refine JO.done rfl (JS.seq (JS.region (JO.reg ttOk 3 [] [] [(77, .ep ⟨a3, 1, 1⟩ 2)] _ rfl ⟨(hs164.fa ptr0).1, hs164.fa ptr0, ⟨rfl, trivial⟩, rfl⟩ (JO.loadV ttOk rfl rfl rfl rfl rfl rfl 0 rfl rfl 0 2 ((y109.1.1, y109.1.2.1, (Sl.v ⟨a111, y109.1.2.2.1.length, c112⟩), y109.1.2.2.2.1, y109.1.2.2.2.2.1, y109.1.2.2.2.2.2), y109.2.1, (Sl.v ⟨a113, y109.2.2.1.length, c114⟩), (Sl.v ⟨a115, y109.2.2.2.1.length, c116⟩), y109.2.2.2.2) ⟨rfl, rfl⟩ rfl rfl rfl (JO.know 1 rfl fun hs165 => ?_)))))
    obtain ⟨g118, h⟩ := guardO_some h
    refine JO.reg ttOk 3 [] [] [(80, .v (.int .i64 x1)), (81, .ep ⟨a111, y109.1.2.2.1.length, c112⟩ (Int.toNat (W ((W (x64 * x58)) + x63)) * 1))] _ rfl ⟨hs165.ix g118, (Es rfl), rfl⟩ (JO.storeE ttOk rfl rfl rfl rfl rfl rfl rfl rfl rfl [1] (fs := []) rfl (Int.toNat (W ((W (x64 * x58)) + x63))) 0 (at' y109.1.2.2.1 (W ((W (x64 * x58)) + x63))) x1 ⟨at_some g118, rfl⟩ ⟨rfl, rfl, rfl⟩ (JO.done rfl ?_))
    obtain ⟨j124, hj169, h⟩ := joinO_some h
    refine JS.seqJ (ι := List Int × Option Addr × Nat) ⟨fun z => j124 z.1 = some r, fun z => [(0, .ep ⟨a3, 1, 1⟩ 0), (4, .v (.int .i64 y16))], fun z => .nil, fun z => [], fun z => [⟨(.int .i64), ⟨z.2.1, z.1.length, z.2.2⟩, z.1⟩, ⟨(.pair (.pair (.int .i64) (.pair (.int .i64) (.pair .val (.pair (.int .i64) (.pair (.int .i64) .bool))))) (.pair (.int .i64) (.pair .val (.pair .val (.int .i64))))), ⟨a3, 1, 1⟩, [((y109.1.1, y109.1.2.1, (Sl.v ⟨z.2.1, z.1.length, z.2.2⟩), y109.1.2.2.2.1, y109.1.2.2.2.2.1, y109.1.2.2.2.2.2), y109.2.1, (Sl.v ⟨a113, y109.2.2.1.length, c114⟩), (Sl.v ⟨a115, y109.2.2.2.1.length, c116⟩), y109.2.2.2.2)]⟩, ⟨(.int .i64), ⟨a113, y109.2.2.1.length, c114⟩, y109.2.2.1⟩, ⟨.byte, ⟨a115, y109.2.2.2.1.length, c116⟩, y109.2.2.2.1⟩], fun z => 0⟩ ?_ ?_
    · refine JS.rg0 ttOk 2 [(83, .v (.bool (decide (y16 = 2))))] ⟨⟨rfl, trivial⟩, rfl⟩ rfl rfl ?_
      refine JS.cond rfl (fun ht166 => ?_) (fun ht166 => ?_)
      · have h := condT h ht166
        refine JS.region (JO.reg ttOk 3 [] [] [(86, .ep ⟨a3, 1, 1⟩ 2)] _ rfl ⟨(hs164.fa ptr0).1, hs164.fa ptr0, ⟨rfl, trivial⟩, rfl⟩ (JO.loadV ttOk rfl rfl rfl rfl rfl rfl 1 rfl rfl 0 2 ((y109.1.1, y109.1.2.1, (Sl.v ⟨a111, y109.1.2.2.1.length, c112⟩), y109.1.2.2.2.1, y109.1.2.2.2.2.1, y109.1.2.2.2.2.2), y109.2.1, (Sl.v ⟨a113, y109.2.2.1.length, c114⟩), (Sl.v ⟨a115, y109.2.2.2.1.length, c116⟩), y109.2.2.2.2) ⟨rfl, rfl⟩ rfl rfl rfl ?_))
        obtain ⟨g119, h⟩ := guardO_some h
        refine JO.reg ttOk 3 [(W ((W ((W (x64 * x58)) + x63)) + 1))] [] [(90, .ep ⟨a111, y109.1.2.2.1.length, c112⟩ (Int.toNat (W ((W ((W (x64 * x58)) + x63)) + 1)) * 1))] _ rfl ⟨⟨trivial, rfl⟩, hs165.ix g119, ⟨rfl, trivial⟩, rfl⟩ (JO.storeE ttOk rfl rfl rfl rfl rfl rfl rfl rfl rfl [0] (fs := []) rfl (Int.toNat (W ((W ((W (x64 * x58)) + x63)) + 1))) 0 (at' (List.set y109.1.2.2.1 (Int.toNat (W ((W (x64 * x58)) + x63))) x1) (W ((W ((W (x64 * x58)) + x63)) + 1))) (-1) ⟨at_someL (List.length_set.trans rfl) g119, rfl⟩ ⟨rfl, rfl, rfl⟩ (JO.done rfl (JS.endJA ((List.set (List.set y109.1.2.2.1 (Int.toNat (W ((W (x64 * x58)) + x63))) x1) (Int.toNat (W ((W ((W (x64 * x58)) + x63)) + 1))) (-1)), a111, c112) h (Es rfl) trivial [] rfl [0, 1, 2, 3] (by simp only [List.length_set, List.length_replicate, pickO, getF, cl25, cl31]; rfl) rfl)))
      have h := condF h ht166
      refine JS.skip (JS.endJA ((List.set y109.1.2.2.1 (Int.toNat (W ((W (x64 * x58)) + x63))) x1), a111, c112) h (Es rfl) trivial [] rfl [0, 1, 2, 3] (by simp only [List.length_set, List.length_replicate, pickO, getF, cl25, cl31]; rfl) rfl)
    rintro ⟨x121, a122, c123⟩ h
    subst hj169
    refine JS.seq (JS.region (JO.know 1 rfl fun hs167 => JO.reg ttOk 3 [] [] [(91, .ep ⟨a3, 1, 1⟩ 0), (93, .ep ⟨a3, 1, 1⟩ 3)] _ rfl ⟨(hs167.fa ptr0).1, hs167.fa ptr0, (Es rfl), rfl⟩ (JO.loadV ttOk rfl rfl rfl rfl rfl rfl 1 rfl rfl 0 3 ((y109.1.1, y109.1.2.1, (Sl.v ⟨a122, x121.length, c123⟩), y109.1.2.2.2.1, y109.1.2.2.2.2.1, y109.1.2.2.2.2.2), y109.2.1, (Sl.v ⟨a113, y109.2.2.1.length, c114⟩), (Sl.v ⟨a115, y109.2.2.2.1.length, c116⟩), y109.2.2.2.2) ⟨rfl, rfl⟩ rfl rfl rfl (JO.reg ttOk 4 [(W (y109.1.2.2.2.1 + y16))] [] [(96, .v (.int .i64 (W (y109.1.2.2.2.1 + y16)))), (98, .ep ⟨a3, 1, 1⟩ 3)] _ rfl ⟨⟨trivial, rfl⟩, (hs167.fa ptr0).1, hs167.fa ptr0, (Es rfl), rfl⟩ (JO.storeE ttOk rfl rfl rfl rfl rfl rfl rfl rfl rfl [1] (fs := []) rfl 0 3 ((y109.1.1, y109.1.2.1, (Sl.v ⟨a122, x121.length, c123⟩), y109.1.2.2.2.1, y109.1.2.2.2.2.1, y109.1.2.2.2.2.2), y109.2.1, (Sl.v ⟨a113, y109.2.2.1.length, c114⟩), (Sl.v ⟨a115, y109.2.2.2.1.length, c116⟩), y109.2.2.2.2) ((y109.1.1, y109.1.2.1, (Sl.v ⟨a122, x121.length, c123⟩), (W (y109.1.2.2.2.1 + y16)), y109.1.2.2.2.2.1, y109.1.2.2.2.2.2), y109.2.1, (Sl.v ⟨a113, y109.2.2.1.length, c114⟩), (Sl.v ⟨a115, y109.2.2.2.1.length, c116⟩), y109.2.2.2.2) ⟨rfl, rfl⟩ ⟨⟨⟨⟨⟨⟨rfl, rfl, rfl⟩, rfl⟩, rfl⟩, rfl⟩, rfl⟩, rfl⟩ (JO.done rfl (JS.seq (JS.regionQ rfl (by kernel_rfl) (JQ.reg ttOk 3 [] [(101, .ep ⟨a3, 1, 1⟩ 3)] rfl ⟨(hs167.fa ptr0).1, hs167.fa ptr0, ⟨rfl, trivial⟩⟩ (JQ.loadV ttOk rfl rfl rfl rfl rfl rfl 0 rfl rfl 0 3 ((y109.1.1, y109.1.2.1, (Sl.v ⟨a122, x121.length, c123⟩), (W (y109.1.2.2.2.1 + y16)), y109.1.2.2.2.2.1, y109.1.2.2.2.2.2), y109.2.1, (Sl.v ⟨a113, y109.2.2.1.length, c114⟩), (Sl.v ⟨a115, y109.2.2.2.1.length, c116⟩), y109.2.2.2.2) ⟨rfl, rfl⟩ rfl rfl rfl (JQ.reg ttOk 3 [] [(105, .ep ⟨a3, 1, 1⟩ 0)] rfl ⟨(hs167.fa ptr0).1, hs167.fa ptr0, ⟨rfl, trivial⟩⟩ (JQ.loadV ttOk rfl rfl rfl rfl rfl rfl 0 rfl rfl 0 0 ((y109.1.1, y109.1.2.1, (Sl.v ⟨a122, x121.length, c123⟩), (W (y109.1.2.2.2.1 + y16)), y109.1.2.2.2.2.1, y109.1.2.2.2.2.2), y109.2.1, (Sl.v ⟨a113, y109.2.2.1.length, c114⟩), (Sl.v ⟨a115, y109.2.2.2.1.length, c116⟩), y109.2.2.2.2) ⟨rfl, rfl⟩ rfl rfl rfl (JQ.reg ttOk 1 [] [(107, .v (.bool (decide (y109.1.1 ≤ (W (y109.1.2.2.2.1 + y16))))))] rfl ⟨rfl, trivial⟩ (JQ.done rfl ?_))))))))))))))
    refine JS.cond rfl (fun ht168 => ?_) (fun ht168 => ?_)
    · have h := condT h ht168
      refine JS.region (JO.reg ttOk 5 [] [] [(108, .ep ⟨a3, 1, 1⟩ 0), (109, .ep ⟨a3, 1, 1⟩ 0), (112, .ep ⟨a3, 1, 1⟩ 0)] _ rfl ⟨(hs167.fa ptr0).1, hs167.fa ptr0, (Es rfl), rfl⟩ (JO.loadV ttOk rfl rfl rfl rfl rfl rfl 0 rfl rfl 0 0 ((y109.1.1, y109.1.2.1, (Sl.v ⟨a122, x121.length, c123⟩), (W (y109.1.2.2.2.1 + y16)), y109.1.2.2.2.2.1, y109.1.2.2.2.2.2), y109.2.1, (Sl.v ⟨a113, y109.2.2.1.length, c114⟩), (Sl.v ⟨a115, y109.2.2.2.1.length, c116⟩), y109.2.2.2.2) ⟨rfl, rfl⟩ rfl rfl rfl (JO.reg ttOk 3 [(W (y109.1.1 - 1))] [] [(114, .v (.int .i64 (W (y109.1.1 - 1)))), (116, .ep ⟨a3, 1, 1⟩ 3)] _ rfl ⟨⟨trivial, rfl⟩, (hs167.fa ptr0).1, hs167.fa ptr0, (Es rfl), rfl⟩ (JO.storeE ttOk rfl rfl rfl rfl rfl rfl rfl rfl rfl [0] (fs := []) rfl 0 3 ((y109.1.1, y109.1.2.1, (Sl.v ⟨a122, x121.length, c123⟩), (W (y109.1.2.2.2.1 + y16)), y109.1.2.2.2.2.1, y109.1.2.2.2.2.2), y109.2.1, (Sl.v ⟨a113, y109.2.2.1.length, c114⟩), (Sl.v ⟨a115, y109.2.2.2.1.length, c116⟩), y109.2.2.2.2) ((y109.1.1, y109.1.2.1, (Sl.v ⟨a122, x121.length, c123⟩), (W (y109.1.1 - 1)), y109.1.2.2.2.2.1, y109.1.2.2.2.2.2), y109.2.1, (Sl.v ⟨a113, y109.2.2.1.length, c114⟩), (Sl.v ⟨a115, y109.2.2.2.1.length, c116⟩), y109.2.2.2.2) ⟨rfl, rfl⟩ ⟨⟨⟨⟨⟨⟨rfl, rfl, rfl⟩, rfl⟩, rfl⟩, rfl⟩, rfl⟩, rfl⟩ (JO.reg ttOk 2 [] [] [(118, .ep ⟨a3, 1, 1⟩ 5)] _ rfl ⟨(hs167.fa ptr0).1, hs167.fa ptr0, ⟨rfl, trivial⟩, rfl⟩ (JO.storeE ttOk rfl rfl rfl rfl rfl rfl rfl rfl rfl [0] (fs := []) rfl 0 5 ((y109.1.1, y109.1.2.1, (Sl.v ⟨a122, x121.length, c123⟩), (W (y109.1.1 - 1)), y109.1.2.2.2.2.1, y109.1.2.2.2.2.2), y109.2.1, (Sl.v ⟨a113, y109.2.2.1.length, c114⟩), (Sl.v ⟨a115, y109.2.2.2.1.length, c116⟩), y109.2.2.2.2) ((y109.1.1, y109.1.2.1, (Sl.v ⟨a122, x121.length, c123⟩), (W (y109.1.1 - 1)), y109.1.2.2.2.2.1, true), y109.2.1, (Sl.v ⟨a113, y109.2.2.1.length, c114⟩), (Sl.v ⟨a115, y109.2.2.2.1.length, c116⟩), y109.2.2.2.2) ⟨rfl, rfl⟩ ⟨⟨⟨⟨⟨⟨⟨rfl, rfl, rfl⟩, rfl⟩, rfl⟩, rfl⟩, rfl⟩, rfl⟩, rfl⟩ (JO.done rfl ?_)))))))
      cases h
      exact JS.fallX ttOk (a122, c123, a113, c114, a115, c116) trivial rfl rfl [0, 0, 0, 0] rfl
    have h := condF h ht168
    refine JS.skip ?_
    cases h
    exact JS.fallX ttOk (a122, c123, a113, c114, a115, c116) trivial rfl rfl [0, 0, 0, 0] rfl

def M_i_Vt_plain (x0 : (Int × Int × List Int × Int × Int × Bool) × Int × List Int × List UInt8 × Int) (x1 : Int) : Option ((Int × Int × List Int × Int × Int × Bool) × Int × List Int × List UInt8 × Int) :=
  (bindO (M_i_copyBytes x0.2.2.2.1) fun (y17 : List UInt8) =>
  (guardO (y17.length + ([(u8 (x1))] : List UInt8).length ≤ 536870912) <|
  (joinO (fun ((x113, x114, x115, x118, x119, x120, x121, x122, x125, x128) : Int × Int × List Int × Int × Int × Bool × Int × List Int × List UInt8 × Int) =>
  some ((x113, x114, x115, x118, x119, x120), x121, x122, x125, x128)) fun j129 =>
  (bif (decide (128 ≤ x1)) then
  (bindO (M_i_RuneRead (y17 ++ ([(u8 (x1))] : List UInt8)) 0) fun (y25, y26) =>
  (bif (decide (y26 = ((y17 ++ ([(u8 (x1))] : List UInt8)).length : Int))) then
  (bindO (M_i_Grid_put_in31 (x0.1, x0.2.1, x0.2.2.1, ([] : List UInt8), x0.2.2.2.2) y25) fun (y28 : (Int × Int × List Int × Int × Int × Bool) × Int × List Int × List UInt8 × Int) =>
  j129 (y28.1.1, y28.1.2.1, y28.1.2.2.1, y28.1.2.2.2.1, y28.1.2.2.2.2.1, y28.1.2.2.2.2.2, y28.2.1, y28.2.2.1, y28.2.2.2.1, y28.2.2.2.2))
  else
  (bindO (M_i_RuneBegin (y17 ++ ([(u8 (x1))] : List UInt8))) fun (y36 : Bool) =>
  (bif y36 then
  j129 (x0.1.1, x0.1.2.1, x0.1.2.2.1, x0.1.2.2.2.1, x0.1.2.2.2.2.1, x0.1.2.2.2.2.2, x0.2.1, x0.2.2.1, (y17 ++ ([(u8 (x1))] : List UInt8)), x0.2.2.2.2)
  else
  j129 (x0.1.1, x0.1.2.1, x0.1.2.2.1, x0.1.2.2.2.1, x0.1.2.2.2.2.1, x0.1.2.2.2.2.2, x0.2.1, x0.2.2.1, ([] : List UInt8), x0.2.2.2.2)))))
  else
  (bif (decide (x1 = 7)) then
  j129 (x0.1.1, x0.1.2.1, x0.1.2.2.1, x0.1.2.2.2.1, x0.1.2.2.2.2.1, x0.1.2.2.2.2.2, x0.2.1, x0.2.2.1, ([] : List UInt8), (min (W (x0.2.2.2.2 + 1)) 1000000))
  else
  (bif (decide (x1 = 8)) then
  (bindO (M_i_Grid_moveTo_in31 (x0.1, x0.2.1, x0.2.2.1, ([] : List UInt8), x0.2.2.2.2) (W (x0.1.2.2.2.1 - 1)) x0.1.2.2.2.2.1) fun (y40 : (Int × Int × List Int × Int × Int × Bool) × Int × List Int × List UInt8 × Int) =>
  j129 (y40.1.1, y40.1.2.1, y40.1.2.2.1, y40.1.2.2.2.1, y40.1.2.2.2.2.1, y40.1.2.2.2.2.2, y40.2.1, y40.2.2.1, y40.2.2.2.1, y40.2.2.2.2))
  else
  (bif (decide (x1 = 13)) then
  (bindO (M_i_Grid_moveTo_in31 (x0.1, x0.2.1, x0.2.2.1, ([] : List UInt8), x0.2.2.2.2) 0 x0.1.2.2.2.2.1) fun (y49 : (Int × Int × List Int × Int × Int × Bool) × Int × List Int × List UInt8 × Int) =>
  j129 (y49.1.1, y49.1.2.1, y49.1.2.2.1, y49.1.2.2.2.1, y49.1.2.2.2.2.1, y49.1.2.2.2.2.2, y49.2.1, y49.2.2.1, y49.2.2.2.1, y49.2.2.2.2))
  else
  (bif (decide (x1 = 10)) then
  (joinO (fun ((x66, x67, x68, x71, x72, x73, x74, x75, x78, x81) : Int × Int × List Int × Int × Int × Bool × Int × List Int × List UInt8 × Int) =>
  (bindO (M_i_Grid_moveTo_in31 ((x66, x67, x68, x71, x72, x73), x74, x75, x78, x81) x71 (W (x72 + 1))) fun (y85 : (Int × Int × List Int × Int × Int × Bool) × Int × List Int × List UInt8 × Int) =>
  j129 (y85.1.1, y85.1.2.1, y85.1.2.2.1, y85.1.2.2.2.1, y85.1.2.2.2.2.1, y85.1.2.2.2.2.2, y85.2.1, y85.2.2.1, y85.2.2.2.1, y85.2.2.2.2))) fun j82 =>
  (bif (decide (x0.1.2.2.2.2.1 = (W (x0.1.2.1 - 1)))) then
  (bindO (M_i_Grid_scroll_in31 (x0.1, x0.2.1, x0.2.2.1, ([] : List UInt8), x0.2.2.2.2)) fun (y57 : (Int × Int × List Int × Int × Int × Bool) × Int × List Int × List UInt8 × Int) =>
  j82 (y57.1.1, y57.1.2.1, y57.1.2.2.1, y57.1.2.2.2.1, y57.1.2.2.2.2.1, y57.1.2.2.2.2.2, y57.2.1, y57.2.2.1, y57.2.2.2.1, y57.2.2.2.2))
  else
  j82 (x0.1.1, x0.1.2.1, x0.1.2.2.1, x0.1.2.2.2.1, x0.1.2.2.2.2.1, x0.1.2.2.2.2.2, x0.2.1, x0.2.2.1, ([] : List UInt8), x0.2.2.2.2)))
  else
  (bif (decide (x1 = 27)) then
  j129 (x0.1.1, x0.1.2.1, x0.1.2.2.1, x0.1.2.2.2.1, x0.1.2.2.2.2.1, x0.1.2.2.2.2.2, 1, x0.2.2.1, ([] : List UInt8), x0.2.2.2.2)
  else
  (bindO (M_i_in x1 32 126) fun (y96 : Bool) =>
  (bif y96 then
  (bindO (M_i_Grid_put_in31 (x0.1, x0.2.1, x0.2.2.1, ([] : List UInt8), x0.2.2.2.2) x1) fun (y98 : (Int × Int × List Int × Int × Int × Bool) × Int × List Int × List UInt8 × Int) =>
  j129 (y98.1.1, y98.1.2.1, y98.1.2.2.1, y98.1.2.2.2.1, y98.1.2.2.2.2.1, y98.1.2.2.2.2.2, y98.2.1, y98.2.2.1, y98.2.2.2.1, y98.2.2.2.2))
  else
  j129 (x0.1.1, x0.1.2.1, x0.1.2.2.1, x0.1.2.2.2.1, x0.1.2.2.2.2.1, x0.1.2.2.2.2.2, x0.2.1, x0.2.2.1, ([] : List UInt8), x0.2.2.2.2))))))))))))

theorem ok_i_Vt_plain (x0 : (Int × Int × List Int × Int × Int × Bool) × Int × List Int × List UInt8 × Int) (x1 : Int) (a3 : Option Addr) (a4 : Option Addr) (c5 : Nat) (l6 : Nat) (hl7 : x0.1.2.2.1.length = l6) (a8 : Option Addr) (c9 : Nat) (l10 : Nat) (hl11 : x0.2.2.1.length = l10) (a12 : Option Addr) (c13 : Nat) (l14 : Nat) (hl15 : x0.2.2.2.1.length = l14) (r : (Int × Int × List Int × Int × Int × Bool) × Int × List Int × List UInt8 × Int) (h : M_i_Vt_plain x0 x1 = some r) :
    FX Tryd.prog 37 [.pointer a3, .int .i64 x1] [] [⟨(.pair (.pair (.int .i64) (.pair (.int .i64) (.pair .val (.pair (.int .i64) (.pair (.int .i64) .bool))))) (.pair (.int .i64) (.pair .val (.pair .val (.int .i64))))), ⟨a3, 1, 1⟩, [((x0.1.1, x0.1.2.1, (Sl.v ⟨a4, l6, c5⟩), x0.1.2.2.2.1, x0.1.2.2.2.2.1, x0.1.2.2.2.2.2), x0.2.1, (Sl.v ⟨a8, l10, c9⟩), (Sl.v ⟨a12, l14, c13⟩), x0.2.2.2.2)]⟩, ⟨(.int .i64), ⟨a4, l6, c5⟩, x0.1.2.2.1⟩, ⟨(.int .i64), ⟨a8, l10, c9⟩, x0.2.2.1⟩, ⟨.byte, ⟨a12, l14, c13⟩, x0.2.2.2.1⟩] (fun _ : Option Addr × Nat × Option Addr × Nat × Option Addr × Nat => True) (fun q => .tuple #[]) (fun q => [⟨(.pair (.pair (.int .i64) (.pair (.int .i64) (.pair .val (.pair (.int .i64) (.pair (.int .i64) .bool))))) (.pair (.int .i64) (.pair .val (.pair .val (.int .i64))))), ⟨a3, 1, 1⟩, [((r.1.1, r.1.2.1, (Sl.v ⟨q.1, r.1.2.2.1.length, q.2.1⟩), r.1.2.2.2.1, r.1.2.2.2.2.1, r.1.2.2.2.2.2), r.2.1, (Sl.v ⟨q.2.2.1, r.2.2.1.length, q.2.2.2.1⟩), (Sl.v ⟨q.2.2.2.2.1, r.2.2.2.1.length, q.2.2.2.2.2⟩), r.2.2.2.2)]⟩, ⟨(.int .i64), ⟨q.1, r.1.2.2.1.length, q.2.1⟩, r.1.2.2.1⟩, ⟨(.int .i64), ⟨q.2.2.1, r.2.2.1.length, q.2.2.2.1⟩, r.2.2.1⟩, ⟨.byte, ⟨q.2.2.2.2.1, r.2.2.2.1.length, q.2.2.2.2.2⟩, r.2.2.2.1⟩]) :=
  by
    subst hl7
    subst hl11
    subst hl15
    refine FX.of (T := TTx) Tryd.call37 Tryd.func37 rfl rfl fun w0 L0 => ?_
    unfold M_i_Vt_plain at h
    refine JS.ptr 0 a3 rfl ?_
    refine JS.seq (JS.region (JO.know 0 rfl fun hs144 => JO.reg ttOk 3 [] [] [(10, .ep ⟨a3, 1, 1⟩ 8)] _ rfl ⟨(hs144.fa ptr0).1, hs144.fa ptr0, ⟨rfl, trivial⟩, rfl⟩ (JO.loadV ttOk rfl rfl rfl rfl rfl rfl 0 rfl rfl 0 8 ((x0.1.1, x0.1.2.1, (Sl.v ⟨a4, x0.1.2.2.1.length, c5⟩), x0.1.2.2.2.1, x0.1.2.2.2.2.1, x0.1.2.2.2.2.2), x0.2.1, (Sl.v ⟨a8, x0.2.2.1.length, c9⟩), (Sl.v ⟨a12, x0.2.2.2.1.length, c13⟩), x0.2.2.2.2) ⟨rfl, rfl⟩ rfl rfl rfl ?_)))
    obtain ⟨y17, hy18, h⟩ := bindO_some h
    refine JO.call rfl rfl rfl rfl (ok_i_copyBytes x0.2.2.2.1 a12 c13 x0.2.2.2.1.length rfl _ hy18) rfl [3] rfl rfl ?_
    rintro ⟨a19, c20⟩ -
    refine JO.reg ttOk 2 [((u8 (x1)).toNat : Int)] [] [(14, .v (.int .u8 ((u8 (x1)).toNat : Int)))] _ rfl ⟨⟨trivial, u8_wrap _⟩, ⟨rfl, trivial⟩, rfl⟩ ?_
    refine JO.ofK rfl (JK.buildSlice ttOk rfl rfl rfl rfl rfl rfl rfl rfl rfl rfl rfl [] rfl .byte [(u8 (x1))] ⟨rfl, rfl⟩ rfl rfl fun a21 => JO.toK ?_)
    obtain ⟨g22, h⟩ := guardO_some h
    refine JO.appendR' ttOk rfl rfl rfl rfl ⟨rfl, rfl, rfl, rfl, trivial, rfl, rfl, rfl, rfl⟩ rfl rfl rfl [1] rfl 0 rfl g22 rfl fun a23 c24 => JO.reg ttOk 1 [] [] [(4, .v (.slice a23 (y17 ++ ([(u8 (x1))] : List UInt8)).length c24))] _ rfl ⟨⟨rfl, trivial⟩, rfl⟩ (JO.done rfl (JS.seq (JS.region (JO.reg ttOk 3 [] [] [(19, .ep ⟨a3, 1, 1⟩ 8)] _ rfl ⟨(hs144.fa ptr0).1, hs144.fa ptr0, ⟨rfl, trivial⟩, rfl⟩ (JO.storeE ttOk rfl rfl rfl rfl rfl rfl rfl rfl rfl [2] (fs := []) rfl 0 8 ((x0.1.1, x0.1.2.1, (Sl.v ⟨a4, x0.1.2.2.1.length, c5⟩), x0.1.2.2.2.1, x0.1.2.2.2.2.1, x0.1.2.2.2.2.2), x0.2.1, (Sl.v ⟨a8, x0.2.2.1.length, c9⟩), (Sl.v ⟨a12, x0.2.2.2.1.length, c13⟩), x0.2.2.2.2) ((x0.1.1, x0.1.2.1, (Sl.v ⟨a4, x0.1.2.2.1.length, c5⟩), x0.1.2.2.2.1, x0.1.2.2.2.2.1, x0.1.2.2.2.2.2), x0.2.1, (Sl.v ⟨a8, x0.2.2.1.length, c9⟩), (Sl.v ⟨none, 0, 0⟩), x0.2.2.2.2) ⟨rfl, rfl⟩ ⟨⟨⟨⟨⟨rfl, rfl, rfl, rfl⟩, rfl⟩, rfl⟩, rfl⟩, rfl⟩ (JO.done rfl (JS.rg0 ttOk 4 [(5, .ep ⟨a3, 1, 1⟩ 0)] ⟨(hs144.fa ptr0).1, hs144.fa ptr0, ⟨rfl, trivial⟩, rfl⟩ rfl rfl ?_)))))))
    obtain ⟨j129, hj158, h⟩ := joinO_some h
    refine JS.blockJ (ι := Int × Int × List Int × Int × Int × Bool × Int × List Int × List UInt8 × Int × Option Addr × Nat × Option Addr × Nat × Option Addr × Nat) ⟨fun z => j129 (z.1, z.2.1, z.2.2.1, z.2.2.2.1, z.2.2.2.2.1, z.2.2.2.2.2.1, z.2.2.2.2.2.2.1, z.2.2.2.2.2.2.2.1, z.2.2.2.2.2.2.2.2.1, z.2.2.2.2.2.2.2.2.2.1) = some r, fun z => [], fun z => .nil, fun z => [], fun z => [⟨(.int .i64), ⟨z.2.2.2.2.2.2.2.2.2.2.1, z.2.2.1.length, z.2.2.2.2.2.2.2.2.2.2.2.1⟩, z.2.2.1⟩, ⟨(.int .i64), ⟨z.2.2.2.2.2.2.2.2.2.2.2.2.1, z.2.2.2.2.2.2.2.1.length, z.2.2.2.2.2.2.2.2.2.2.2.2.2.1⟩, z.2.2.2.2.2.2.2.1⟩, ⟨.byte, ⟨z.2.2.2.2.2.2.2.2.2.2.2.2.2.2.1, z.2.2.2.2.2.2.2.2.1.length, z.2.2.2.2.2.2.2.2.2.2.2.2.2.2.2⟩, z.2.2.2.2.2.2.2.2.1⟩, ⟨(.pair (.pair (.int .i64) (.pair (.int .i64) (.pair .val (.pair (.int .i64) (.pair (.int .i64) .bool))))) (.pair (.int .i64) (.pair .val (.pair .val (.int .i64))))), ⟨a3, 1, 1⟩, [((z.1, z.2.1, (Sl.v ⟨z.2.2.2.2.2.2.2.2.2.2.1, z.2.2.1.length, z.2.2.2.2.2.2.2.2.2.2.2.1⟩), z.2.2.2.1, z.2.2.2.2.1, z.2.2.2.2.2.1), z.2.2.2.2.2.2.1, (Sl.v ⟨z.2.2.2.2.2.2.2.2.2.2.2.2.1, z.2.2.2.2.2.2.2.1.length, z.2.2.2.2.2.2.2.2.2.2.2.2.2.1⟩), (Sl.v ⟨z.2.2.2.2.2.2.2.2.2.2.2.2.2.2.1, z.2.2.2.2.2.2.2.2.1.length, z.2.2.2.2.2.2.2.2.2.2.2.2.2.2.2⟩), z.2.2.2.2.2.2.2.2.2.1)]⟩], fun z => 0⟩ ?_ ?_
    · refine JS.rg0 ttOk 3 [(23, .v (.bool (decide (128 ≤ x1))))] ⟨⟨rfl, trivial⟩, rfl⟩ rfl rfl ?_
      refine JS.cond rfl (fun ht157 => ?_) (fun ht157 => ?_)
      · have h := condT h ht157
        refine JS.seq (JS.region (JO.reg ttOk 1 [] [] [(27, .v (.slice a23 (y17 ++ ([(u8 (x1))] : List UInt8)).length c24))] _ rfl ⟨⟨rfl, trivial⟩, rfl⟩ ?_))
        obtain ⟨⟨y25, y26⟩, hy27, h⟩ := bindO_some h
        refine JO.call rfl rfl rfl rfl (ok_i_RuneRead (y17 ++ ([(u8 (x1))] : List UInt8)) 0 a23 c24 ((y17 ++ ([(u8 (x1))] : List UInt8)).length) rfl _ hy27) rfl [1] rfl rfl fun _ _ => JO.reg ttOk 5 [] [] [(6, .v (.int .i64 y25)), (7, .v (.int .i64 y26))] _ rfl ⟨(Es rfl), rfl⟩ (JO.done rfl (JS.rg0 ttOk 4 [(34, .v (.bool (decide (y26 = ((y17 ++ ([(u8 (x1))] : List UInt8)).length : Int)))))] ⟨⟨rfl, trivial⟩, rfl⟩ rfl rfl ?_))
        refine JS.cond rfl (fun ht146 => ?_) (fun ht146 => ?_)
        · have h := condT h ht146
          refine JS.region (JO.reg ttOk 2 [] [] [(35, .ep ⟨a3, 1, 1⟩ 0), (36, .v (.int .i64 y25))] _ rfl ⟨(Es rfl), rfl⟩ ?_)
          obtain ⟨y28, hy29, h⟩ := bindO_some h
          refine JO.nilO .byte Sl.nil rfl rfl (JO.callX rfl rfl rfl rfl (ok_i_Grid_put_in31 (x0.1, x0.2.1, x0.2.2.1, ([] : List UInt8), x0.2.2.2.2) y25 a3 a4 c5 x0.1.2.2.1.length rfl a8 c9 x0.2.2.1.length rfl none 0 (([] : List UInt8).length) rfl _ hy29) rfl [1, 3, 3, 0] rfl [] rfl rfl ?_)
          rintro ⟨a30, c31, a32, c33, a34, c35⟩ -
          refine JO.done rfl (JS.endB (JS.endJA (y28.1.1, y28.1.2.1, y28.1.2.2.1, y28.1.2.2.2.1, y28.1.2.2.2.2.1, y28.1.2.2.2.2.2, y28.2.1, y28.2.2.1, y28.2.2.2.1, y28.2.2.2.2, a30, c31, a32, c33, a34, c35) h trivial trivial [] rfl [1, 2, 3, 0] rfl rfl))
        have h := condF h ht146
        refine JS.seq (JS.region (JO.reg ttOk 1 [] [] [(38, .v (.slice a23 (y17 ++ ([(u8 (x1))] : List UInt8)).length c24))] _ rfl ⟨⟨rfl, trivial⟩, rfl⟩ ?_))
        obtain ⟨y36, hy37, h⟩ := bindO_some h
        refine JO.call rfl rfl rfl rfl (ok_i_RuneBegin (y17 ++ ([(u8 (x1))] : List UInt8)) a23 c24 ((y17 ++ ([(u8 (x1))] : List UInt8)).length) rfl _ hy37) rfl [1] rfl rfl fun _ _ => JO.done rfl ?_
        refine JS.cond rfl (fun ht145 => ?_) (fun ht145 => ?_)
        · have h := condT h ht145
          refine JS.region (JO.reg ttOk 4 [] [] [(41, .v (.slice a23 (y17 ++ ([(u8 (x1))] : List UInt8)).length c24)), (43, .ep ⟨a3, 1, 1⟩ 8)] _ rfl ⟨(hs144.fa ptr0).1, hs144.fa ptr0, (Es rfl), rfl⟩ (JO.storeE ttOk rfl rfl rfl rfl rfl rfl rfl rfl rfl [0] (fs := []) rfl 0 8 ((x0.1.1, x0.1.2.1, (Sl.v ⟨a4, x0.1.2.2.1.length, c5⟩), x0.1.2.2.2.1, x0.1.2.2.2.2.1, x0.1.2.2.2.2.2), x0.2.1, (Sl.v ⟨a8, x0.2.2.1.length, c9⟩), (Sl.v ⟨none, 0, 0⟩), x0.2.2.2.2) ((x0.1.1, x0.1.2.1, (Sl.v ⟨a4, x0.1.2.2.1.length, c5⟩), x0.1.2.2.2.1, x0.1.2.2.2.2.1, x0.1.2.2.2.2.2), x0.2.1, (Sl.v ⟨a8, x0.2.2.1.length, c9⟩), (Sl.v ⟨a23, (y17 ++ ([(u8 (x1))] : List UInt8)).length, c24⟩), x0.2.2.2.2) ⟨rfl, rfl⟩ ⟨⟨⟨⟨⟨rfl, rfl, rfl, rfl⟩, rfl⟩, rfl⟩, rfl⟩, rfl⟩ (JO.done rfl (JS.endB (JS.endJA (x0.1.1, x0.1.2.1, x0.1.2.2.1, x0.1.2.2.2.1, x0.1.2.2.2.2.1, x0.1.2.2.2.2.2, x0.2.1, x0.2.2.1, (y17 ++ ([(u8 (x1))] : List UInt8)), x0.2.2.2.2, a4, c5, a8, c9, a23, c24) h trivial trivial [] rfl [3, 4, 1, 0] rfl rfl)))))
        have h := condF h ht145
        refine JS.skip (JS.endB (JS.nilO .byte Sl.nil rfl rfl (JS.endJA (x0.1.1, x0.1.2.1, x0.1.2.2.1, x0.1.2.2.2.1, x0.1.2.2.2.2.1, x0.1.2.2.2.2.2, x0.2.1, x0.2.2.1, ([] : List UInt8), x0.2.2.2.2, a4, c5, a8, c9, none, 0) h trivial trivial [] rfl [4, 5, 0, 1] rfl rfl)))
      have h := condF h ht157
      refine JS.rg0 ttOk 3 [(44, .v (.bool (decide (x1 = 7))))] ⟨⟨rfl, trivial⟩, rfl⟩ rfl rfl ?_
      refine JS.cond rfl (fun ht156 => ?_) (fun ht156 => ?_)
      · have h := condT h ht156
        refine JS.region (JO.reg ttOk 4 [] [] [(47, .ep ⟨a3, 1, 1⟩ 0), (50, .ep ⟨a3, 1, 1⟩ 9)] _ rfl ⟨(hs144.fa ptr0).1, hs144.fa ptr0, (Es rfl), rfl⟩ (JO.loadV ttOk rfl rfl rfl rfl rfl rfl 0 rfl rfl 0 9 ((x0.1.1, x0.1.2.1, (Sl.v ⟨a4, x0.1.2.2.1.length, c5⟩), x0.1.2.2.2.1, x0.1.2.2.2.2.1, x0.1.2.2.2.2.2), x0.2.1, (Sl.v ⟨a8, x0.2.2.1.length, c9⟩), (Sl.v ⟨none, 0, 0⟩), x0.2.2.2.2) ⟨rfl, rfl⟩ rfl rfl rfl (JO.reg ttOk 4 [(W (x0.2.2.2.2 + 1))] [] [(53, .v (.int .i64 (min (W (x0.2.2.2.2 + 1)) 1000000))), (55, .ep ⟨a3, 1, 1⟩ 9)] _ rfl ⟨⟨trivial, rfl⟩, (hs144.fa ptr0).1, hs144.fa ptr0, (Es rfl), rfl⟩ (JO.storeE ttOk rfl rfl rfl rfl rfl rfl rfl rfl rfl [0] (fs := []) rfl 0 9 ((x0.1.1, x0.1.2.1, (Sl.v ⟨a4, x0.1.2.2.1.length, c5⟩), x0.1.2.2.2.1, x0.1.2.2.2.2.1, x0.1.2.2.2.2.2), x0.2.1, (Sl.v ⟨a8, x0.2.2.1.length, c9⟩), (Sl.v ⟨none, 0, 0⟩), x0.2.2.2.2) ((x0.1.1, x0.1.2.1, (Sl.v ⟨a4, x0.1.2.2.1.length, c5⟩), x0.1.2.2.2.1, x0.1.2.2.2.2.1, x0.1.2.2.2.2.2), x0.2.1, (Sl.v ⟨a8, x0.2.2.1.length, c9⟩), (Sl.v ⟨none, 0, 0⟩), (min (W (x0.2.2.2.2 + 1)) 1000000)) ⟨rfl, rfl⟩ ⟨⟨⟨⟨⟨rfl, rfl, rfl⟩, rfl⟩, rfl⟩, rfl⟩, rfl⟩ (JO.done rfl (JS.endB (JS.nilO .byte Sl.nil rfl rfl (JS.endJA (x0.1.1, x0.1.2.1, x0.1.2.2.1, x0.1.2.2.2.1, x0.1.2.2.2.2.1, x0.1.2.2.2.2.2, x0.2.1, x0.2.2.1, ([] : List UInt8), (min (W (x0.2.2.2.2 + 1)) 1000000), a4, c5, a8, c9, none, 0) h trivial trivial [] rfl [4, 5, 0, 1] rfl rfl))))))))
      have h := condF h ht156
      refine JS.rg0 ttOk 3 [(56, .v (.bool (decide (x1 = 8))))] ⟨⟨rfl, trivial⟩, rfl⟩ rfl rfl ?_
      refine JS.cond rfl (fun ht155 => ?_) (fun ht155 => ?_)
      · have h := condT h ht155
        obtain ⟨y40, hy41, h⟩ := bindO_some h
        refine JS.regionA rfl .nil [0] [10] trivial rfl (fun be48 => ?_)
        refine JA.reg ttOk panic_cxX true 4 [0, 1, 2, 3, 6, 7, 8] rfl (by kernel_rfl) [] [(59, .ep ⟨a3, 1, 1⟩ 0), (62, .ep ⟨a3, 1, 1⟩ 3), (67, .ep ⟨a3, 1, 1⟩ 4)] trivial [0] rfl rfl ⟨(hs144.fa ptr0).1, hs144.fa ptr0, (hs144.fa ptr0).1, hs144.fa ptr0, (Es rfl)⟩ (JA.loadV ttOk panic_cxX 4 rfl (by kernel_rfl) rfl rfl rfl rfl rfl 0 rfl rfl 0 3 ((x0.1.1, x0.1.2.1, (Sl.v ⟨a4, x0.1.2.2.1.length, c5⟩), x0.1.2.2.2.1, x0.1.2.2.2.2.1, x0.1.2.2.2.2.2), x0.2.1, (Sl.v ⟨a8, x0.2.2.1.length, c9⟩), (Sl.v ⟨none, 0, 0⟩), x0.2.2.2.2) ⟨rfl, rfl⟩ rfl rfl rfl trivial [0] rfl (JA.reg ttOk panic_cxX true 2 [5] rfl (by kernel_rfl) [(W (x0.1.2.2.2.1 - 1))] [(64, .v (.int .i64 (W (x0.1.2.2.2.1 - 1))))] trivial [0] rfl rfl ⟨⟨trivial, rfl⟩, ⟨rfl, trivial⟩⟩ (JA.loadV ttOk panic_cxX 9 rfl (by kernel_rfl) rfl rfl rfl rfl rfl 0 rfl rfl 0 4 ((x0.1.1, x0.1.2.1, (Sl.v ⟨a4, x0.1.2.2.1.length, c5⟩), x0.1.2.2.2.1, x0.1.2.2.2.2.1, x0.1.2.2.2.2.2), x0.2.1, (Sl.v ⟨a8, x0.2.2.1.length, c9⟩), (Sl.v ⟨none, 0, 0⟩), x0.2.2.2.2) ⟨rfl, rfl⟩ rfl rfl rfl trivial [0] rfl (JA.one 10 (by kernel_rfl) (JK.nilO .byte Sl.nil rfl rfl (JK.callX rfl rfl rfl rfl (ok_i_Grid_moveTo_in31 (x0.1, x0.2.1, x0.2.2.1, ([] : List UInt8), x0.2.2.2.2) (W (x0.1.2.2.2.1 - 1)) x0.1.2.2.2.2.1 a3 a4 c5 x0.1.2.2.1.length rfl a8 c9 x0.2.2.1.length rfl none 0 (([] : List UInt8).length) rfl _ hy41) rfl [1, 3, 3, 0] rfl [] rfl rfl ?_))))))
        rintro ⟨a42, c43, a44, c45, a46, c47⟩ -
        refine JA.nextL rfl (JA.done (by kernel_rfl) (JS.boxes (B' := .nil) trivial (JS.endB (JS.endJA (y40.1.1, y40.1.2.1, y40.1.2.2.1, y40.1.2.2.2.1, y40.1.2.2.2.2.1, y40.1.2.2.2.2.2, y40.2.1, y40.2.2.1, y40.2.2.2.1, y40.2.2.2.2, a42, c43, a44, c45, a46, c47) h trivial trivial [] rfl [1, 2, 3, 0] rfl rfl))))
      have h := condF h ht155
      refine JS.rg0 ttOk 3 [(70, .v (.bool (decide (x1 = 13))))] ⟨⟨rfl, trivial⟩, rfl⟩ rfl rfl ?_
      refine JS.cond rfl (fun ht154 => ?_) (fun ht154 => ?_)
      · have h := condT h ht154
        refine JS.region (JO.reg ttOk 4 [] [] [(73, .ep ⟨a3, 1, 1⟩ 0), (76, .ep ⟨a3, 1, 1⟩ 4)] _ rfl ⟨(hs144.fa ptr0).1, hs144.fa ptr0, (Es rfl), rfl⟩ (JO.loadV ttOk rfl rfl rfl rfl rfl rfl 0 rfl rfl 0 4 ((x0.1.1, x0.1.2.1, (Sl.v ⟨a4, x0.1.2.2.1.length, c5⟩), x0.1.2.2.2.1, x0.1.2.2.2.2.1, x0.1.2.2.2.2.2), x0.2.1, (Sl.v ⟨a8, x0.2.2.1.length, c9⟩), (Sl.v ⟨none, 0, 0⟩), x0.2.2.2.2) ⟨rfl, rfl⟩ rfl rfl rfl ?_))
        obtain ⟨y49, hy50, h⟩ := bindO_some h
        refine JO.nilO .byte Sl.nil rfl rfl (JO.callX rfl rfl rfl rfl (ok_i_Grid_moveTo_in31 (x0.1, x0.2.1, x0.2.2.1, ([] : List UInt8), x0.2.2.2.2) 0 x0.1.2.2.2.2.1 a3 a4 c5 x0.1.2.2.1.length rfl a8 c9 x0.2.2.1.length rfl none 0 (([] : List UInt8).length) rfl _ hy50) rfl [1, 3, 3, 0] rfl [] rfl rfl ?_)
        rintro ⟨a51, c52, a53, c54, a55, c56⟩ -
        refine JO.done rfl (JS.endB (JS.endJA (y49.1.1, y49.1.2.1, y49.1.2.2.1, y49.1.2.2.2.1, y49.1.2.2.2.2.1, y49.1.2.2.2.2.2, y49.2.1, y49.2.2.1, y49.2.2.2.1, y49.2.2.2.2, a51, c52, a53, c54, a55, c56) h trivial trivial [] rfl [1, 2, 3, 0] rfl rfl))
      have h := condF h ht154
      refine JS.rg0 ttOk 3 [(79, .v (.bool (decide (x1 = 10))))] ⟨⟨rfl, trivial⟩, rfl⟩ rfl rfl ?_
      refine JS.cond rfl (fun ht153 => ?_) (fun ht153 => ?_)
      · have h := condT h ht153
        obtain ⟨j82, hj150, h⟩ := joinO_some h
        refine JS.seqJ (ι := Int × Int × List Int × Int × Int × Bool × Int × List Int × List UInt8 × Int × Option Addr × Nat × Option Addr × Nat × Option Addr × Nat) ⟨fun z => j82 (z.1, z.2.1, z.2.2.1, z.2.2.2.1, z.2.2.2.2.1, z.2.2.2.2.2.1, z.2.2.2.2.2.2.1, z.2.2.2.2.2.2.2.1, z.2.2.2.2.2.2.2.2.1, z.2.2.2.2.2.2.2.2.2.1) = some r, fun z => [(5, .ep ⟨a3, 1, 1⟩ 0)], fun z => .nil, fun z => [], fun z => [⟨(.int .i64), ⟨z.2.2.2.2.2.2.2.2.2.2.1, z.2.2.1.length, z.2.2.2.2.2.2.2.2.2.2.2.1⟩, z.2.2.1⟩, ⟨(.int .i64), ⟨z.2.2.2.2.2.2.2.2.2.2.2.2.1, z.2.2.2.2.2.2.2.1.length, z.2.2.2.2.2.2.2.2.2.2.2.2.2.1⟩, z.2.2.2.2.2.2.2.1⟩, ⟨.byte, ⟨z.2.2.2.2.2.2.2.2.2.2.2.2.2.2.1, z.2.2.2.2.2.2.2.2.1.length, z.2.2.2.2.2.2.2.2.2.2.2.2.2.2.2⟩, z.2.2.2.2.2.2.2.2.1⟩, ⟨(.pair (.pair (.int .i64) (.pair (.int .i64) (.pair .val (.pair (.int .i64) (.pair (.int .i64) .bool))))) (.pair (.int .i64) (.pair .val (.pair .val (.int .i64))))), ⟨a3, 1, 1⟩, [((z.1, z.2.1, (Sl.v ⟨z.2.2.2.2.2.2.2.2.2.2.1, z.2.2.1.length, z.2.2.2.2.2.2.2.2.2.2.2.1⟩), z.2.2.2.1, z.2.2.2.2.1, z.2.2.2.2.2.1), z.2.2.2.2.2.2.1, (Sl.v ⟨z.2.2.2.2.2.2.2.2.2.2.2.2.1, z.2.2.2.2.2.2.2.1.length, z.2.2.2.2.2.2.2.2.2.2.2.2.2.1⟩), (Sl.v ⟨z.2.2.2.2.2.2.2.2.2.2.2.2.2.2.1, z.2.2.2.2.2.2.2.2.1.length, z.2.2.2.2.2.2.2.2.2.2.2.2.2.2.2⟩), z.2.2.2.2.2.2.2.2.2.1)]⟩], fun z => 0⟩ ?_ ?_
        · refine JS.seq (JS.regionQ rfl (by kernel_rfl) (JQ.reg ttOk 3 [] [(84, .ep ⟨a3, 1, 1⟩ 4)] rfl ⟨(hs144.fa ptr0).1, hs144.fa ptr0, ⟨rfl, trivial⟩⟩ (JQ.loadV ttOk rfl rfl rfl rfl rfl rfl 0 rfl rfl 0 4 ((x0.1.1, x0.1.2.1, (Sl.v ⟨a4, x0.1.2.2.1.length, c5⟩), x0.1.2.2.2.1, x0.1.2.2.2.2.1, x0.1.2.2.2.2.2), x0.2.1, (Sl.v ⟨a8, x0.2.2.1.length, c9⟩), (Sl.v ⟨none, 0, 0⟩), x0.2.2.2.2) ⟨rfl, rfl⟩ rfl rfl rfl (JQ.reg ttOk 3 [] [(88, .ep ⟨a3, 1, 1⟩ 1)] rfl ⟨(hs144.fa ptr0).1, hs144.fa ptr0, ⟨rfl, trivial⟩⟩ (JQ.loadV ttOk rfl rfl rfl rfl rfl rfl 0 rfl rfl 0 1 ((x0.1.1, x0.1.2.1, (Sl.v ⟨a4, x0.1.2.2.1.length, c5⟩), x0.1.2.2.2.1, x0.1.2.2.2.2.1, x0.1.2.2.2.2.2), x0.2.1, (Sl.v ⟨a8, x0.2.2.1.length, c9⟩), (Sl.v ⟨none, 0, 0⟩), x0.2.2.2.2) ⟨rfl, rfl⟩ rfl rfl rfl (JQ.reg ttOk 2 [(W (x0.1.2.1 - 1))] [(91, .v (.bool (decide (x0.1.2.2.2.2.1 = (W (x0.1.2.1 - 1))))))] rfl ⟨⟨trivial, rfl⟩, ⟨rfl, trivial⟩⟩ (JQ.done rfl ?_)))))))
          refine JS.cond rfl (fun ht147 => ?_) (fun ht147 => ?_)
          · have h := condT h ht147
            refine JS.region (JO.reg ttOk 1 [] [] [(92, .ep ⟨a3, 1, 1⟩ 0)] _ rfl ⟨⟨rfl, trivial⟩, rfl⟩ ?_)
            obtain ⟨y57, hy58, h⟩ := bindO_some h
            refine JO.nilO .byte Sl.nil rfl rfl (JO.callX rfl rfl rfl rfl (ok_i_Grid_scroll_in31 (x0.1, x0.2.1, x0.2.2.1, ([] : List UInt8), x0.2.2.2.2) a3 a4 c5 x0.1.2.2.1.length rfl a8 c9 x0.2.2.1.length rfl none 0 (([] : List UInt8).length) rfl _ hy58) rfl [1, 3, 3, 0] rfl [] rfl rfl ?_)
            rintro ⟨a59, c60, a61, c62, a63, c64⟩ -
            refine JO.done rfl (JS.endJA (y57.1.1, y57.1.2.1, y57.1.2.2.1, y57.1.2.2.2.1, y57.1.2.2.2.2.1, y57.1.2.2.2.2.2, y57.2.1, y57.2.2.1, y57.2.2.2.1, y57.2.2.2.2, a59, c60, a61, c62, a63, c64) h ⟨rfl, trivial⟩ trivial [] rfl [1, 2, 3, 0] rfl rfl)
          have h := condF h ht147
          refine JS.skip (JS.nilO .byte Sl.nil rfl rfl (JS.endJA (x0.1.1, x0.1.2.1, x0.1.2.2.1, x0.1.2.2.2.1, x0.1.2.2.2.2.1, x0.1.2.2.2.2.2, x0.2.1, x0.2.2.1, ([] : List UInt8), x0.2.2.2.2, a4, c5, a8, c9, none, 0) h ⟨rfl, trivial⟩ trivial [] rfl [4, 5, 0, 1] rfl rfl))
        rintro ⟨x66, x67, x68, x71, x72, x73, x74, x75, x78, x81, a69, c70, a76, c77, a79, c80⟩ h
        subst hj150
        obtain ⟨y85, hy86, h⟩ := bindO_some h
        refine JS.know 3 rfl fun hs149 => ?_
        refine JS.regionA rfl .nil [3] [10] trivial rfl (fun be94 => ?_)
        refine JA.reg ttOk panic_cxX true 4 [0, 1, 2, 3, 5, 6, 7] rfl (by kernel_rfl) [] [(94, .ep ⟨a3, 1, 1⟩ 0), (97, .ep ⟨a3, 1, 1⟩ 3), (101, .ep ⟨a3, 1, 1⟩ 4)] trivial [3] rfl rfl ⟨(hs149.fa ptr0).1, hs149.fa ptr0, (hs149.fa ptr0).1, hs149.fa ptr0, (Es rfl)⟩ (JA.loadV ttOk panic_cxX 4 rfl (by kernel_rfl) rfl rfl rfl rfl rfl 0 rfl rfl 0 3 ((x66, x67, (Sl.v ⟨a69, x68.length, c70⟩), x71, x72, x73), x74, (Sl.v ⟨a76, x75.length, c77⟩), (Sl.v ⟨a79, x78.length, c80⟩), x81) ⟨rfl, rfl⟩ rfl rfl rfl trivial [3] rfl (JA.loadV ttOk panic_cxX 8 rfl (by kernel_rfl) rfl rfl rfl rfl rfl 0 rfl rfl 0 4 ((x66, x67, (Sl.v ⟨a69, x68.length, c70⟩), x71, x72, x73), x74, (Sl.v ⟨a76, x75.length, c77⟩), (Sl.v ⟨a79, x78.length, c80⟩), x81) ⟨rfl, rfl⟩ rfl rfl rfl trivial [3] rfl (JA.reg ttOk panic_cxX true 1 [9] rfl (by kernel_rfl) [(W (x72 + 1))] [(103, .v (.int .i64 (W (x72 + 1))))] trivial [3] rfl rfl ⟨⟨trivial, rfl⟩, ⟨rfl, trivial⟩⟩ (JA.one 10 (by kernel_rfl) (JK.callX rfl rfl rfl rfl (ok_i_Grid_moveTo_in31 ((x66, x67, x68, x71, x72, x73), x74, x75, x78, x81) x71 (W (x72 + 1)) a3 a69 c70 x68.length rfl a76 c77 x75.length rfl a79 c80 x78.length rfl _ hy86) rfl [3, 0, 0, 0] rfl [] rfl rfl ?_)))))
        rintro ⟨a87, c88, a89, c90, a91, c92⟩ -
        refine JA.nextL rfl (JA.done (by kernel_rfl) (JS.boxes (B' := .nil) trivial (JS.endB (JS.endJA (y85.1.1, y85.1.2.1, y85.1.2.2.1, y85.1.2.2.2.1, y85.1.2.2.2.2.1, y85.1.2.2.2.2.2, y85.2.1, y85.2.2.1, y85.2.2.2.1, y85.2.2.2.2, a87, c88, a89, c90, a91, c92) h trivial trivial [] rfl [1, 2, 3, 0] rfl rfl))))
      have h := condF h ht153
      refine JS.rg0 ttOk 3 [(105, .v (.bool (decide (x1 = 27))))] ⟨⟨rfl, trivial⟩, rfl⟩ rfl rfl ?_
      refine JS.cond rfl (fun ht152 => ?_) (fun ht152 => ?_)
      · have h := condT h ht152
        refine JS.region (JO.reg ttOk 3 [] [] [(110, .ep ⟨a3, 1, 1⟩ 6)] _ rfl ⟨(hs144.fa ptr0).1, hs144.fa ptr0, ⟨rfl, trivial⟩, rfl⟩ (JO.storeE ttOk rfl rfl rfl rfl rfl rfl rfl rfl rfl [0] (fs := []) rfl 0 6 ((x0.1.1, x0.1.2.1, (Sl.v ⟨a4, x0.1.2.2.1.length, c5⟩), x0.1.2.2.2.1, x0.1.2.2.2.2.1, x0.1.2.2.2.2.2), x0.2.1, (Sl.v ⟨a8, x0.2.2.1.length, c9⟩), (Sl.v ⟨none, 0, 0⟩), x0.2.2.2.2) ((x0.1.1, x0.1.2.1, (Sl.v ⟨a4, x0.1.2.2.1.length, c5⟩), x0.1.2.2.2.1, x0.1.2.2.2.2.1, x0.1.2.2.2.2.2), 1, (Sl.v ⟨a8, x0.2.2.1.length, c9⟩), (Sl.v ⟨none, 0, 0⟩), x0.2.2.2.2) ⟨rfl, rfl⟩ ⟨⟨⟨rfl, rfl, rfl⟩, rfl⟩, rfl⟩ (JO.done rfl (JS.endB (JS.nilO .byte Sl.nil rfl rfl (JS.endJA (x0.1.1, x0.1.2.1, x0.1.2.2.1, x0.1.2.2.2.1, x0.1.2.2.2.2.1, x0.1.2.2.2.2.2, 1, x0.2.2.1, ([] : List UInt8), x0.2.2.2.2, a4, c5, a8, c9, none, 0) h trivial trivial [] rfl [4, 5, 0, 1] rfl rfl))))))
      have h := condF h ht152
      refine JS.seq (JS.region (JO.reg ttOk 1 [] [] [(112, .v (.int .i64 x1))] _ rfl ⟨⟨rfl, trivial⟩, rfl⟩ ?_))
      obtain ⟨y96, hy97, h⟩ := bindO_some h
      refine JO.call rfl rfl rfl rfl (ok_i_in x1 32 126 _ hy97) rfl [] rfl rfl fun _ _ => JO.reg ttOk 1 [] [] [(111, .v (.bool y96))] _ rfl ⟨⟨rfl, trivial⟩, rfl⟩ (JO.done rfl ?_)
      refine JS.cond rfl (fun ht151 => ?_) (fun ht151 => ?_)
      · have h := condT h ht151
        refine JS.region (JO.reg ttOk 2 [] [] [(114, .ep ⟨a3, 1, 1⟩ 0), (115, .v (.int .i64 x1))] _ rfl ⟨(Es rfl), rfl⟩ ?_)
        obtain ⟨y98, hy99, h⟩ := bindO_some h
        refine JO.nilO .byte Sl.nil rfl rfl (JO.callX rfl rfl rfl rfl (ok_i_Grid_put_in31 (x0.1, x0.2.1, x0.2.2.1, ([] : List UInt8), x0.2.2.2.2) x1 a3 a4 c5 x0.1.2.2.1.length rfl a8 c9 x0.2.2.1.length rfl none 0 (([] : List UInt8).length) rfl _ hy99) rfl [1, 3, 3, 0] rfl [] rfl rfl ?_)
        rintro ⟨a100, c101, a102, c103, a104, c105⟩ -
        refine JO.done rfl (JS.endB (JS.endJA (y98.1.1, y98.1.2.1, y98.1.2.2.1, y98.1.2.2.2.1, y98.1.2.2.2.2.1, y98.1.2.2.2.2.2, y98.2.1, y98.2.2.1, y98.2.2.2.1, y98.2.2.2.2, a100, c101, a102, c103, a104, c105) h trivial trivial [] rfl [1, 2, 3, 0] rfl rfl))
      have h := condF h ht151
      refine JS.skip (JS.endB (JS.nilO .byte Sl.nil rfl rfl (JS.endJA (x0.1.1, x0.1.2.1, x0.1.2.2.1, x0.1.2.2.2.1, x0.1.2.2.2.2.1, x0.1.2.2.2.2.2, x0.2.1, x0.2.2.1, ([] : List UInt8), x0.2.2.2.2, a4, c5, a8, c9, none, 0) h trivial trivial [] rfl [4, 5, 0, 1] rfl rfl)))
    rintro ⟨x113, x114, x115, x118, x119, x120, x121, x122, x125, x128, a116, c117, a123, c124, a126, c127⟩ h
    subst hj158
    cases h
    exact JS.fallX ttOk (a116, c117, a123, c124, a126, c127) trivial rfl rfl [3, 0, 0, 0] rfl

def M_i_Vt_step (x0 : (Int × Int × List Int × Int × Int × Bool) × Int × List Int × List UInt8 × Int) (x1 : Int) : Option ((Int × Int × List Int × Int × Int × Bool) × Int × List Int × List UInt8 × Int) :=
  (joinO (fun ((x36, x37, x38, x41, x42, x43, x44, x45, x48, x51) : Int × Int × List Int × Int × Int × Bool × Int × List Int × List UInt8 × Int) =>
  some ((x36, x37, x38, x41, x42, x43), x44, x45, x48, x51)) fun j52 =>
  (bif (decide (x0.2.1 = 0)) then
  (bindO (M_i_Vt_plain x0 x1) fun (y17 : (Int × Int × List Int × Int × Int × Bool) × Int × List Int × List UInt8 × Int) =>
  j52 (y17.1.1, y17.1.2.1, y17.1.2.2.1, y17.1.2.2.2.1, y17.1.2.2.2.2.1, y17.1.2.2.2.2.2, y17.2.1, y17.2.2.1, y17.2.2.2.1, y17.2.2.2.2))
  else
  (bif (decide (x0.2.1 = 1)) then
  (bif (decide (x1 = 91)) then
  j52 (x0.1.1, x0.1.2.1, x0.1.2.2.1, x0.1.2.2.2.1, x0.1.2.2.2.2.1, x0.1.2.2.2.2.2, 2, x0.2.2.1, x0.2.2.2.1, x0.2.2.2.2)
  else
  j52 (x0.1.1, x0.1.2.1, x0.1.2.2.1, x0.1.2.2.2.1, x0.1.2.2.2.2.1, x0.1.2.2.2.2.2, 0, x0.2.2.1, x0.2.2.2.1, x0.2.2.2.2))
  else
  (bindO (M_i_Vt_sequence x0 x1) fun (y26 : (Int × Int × List Int × Int × Int × Bool) × Int × List Int × List UInt8 × Int) =>
  j52 (y26.1.1, y26.1.2.1, y26.1.2.2.1, y26.1.2.2.2.1, y26.1.2.2.2.2.1, y26.1.2.2.2.2.2, y26.2.1, y26.2.2.1, y26.2.2.2.1, y26.2.2.2.2)))))

theorem ok_i_Vt_step (x0 : (Int × Int × List Int × Int × Int × Bool) × Int × List Int × List UInt8 × Int) (x1 : Int) (a3 : Option Addr) (a4 : Option Addr) (c5 : Nat) (l6 : Nat) (hl7 : x0.1.2.2.1.length = l6) (a8 : Option Addr) (c9 : Nat) (l10 : Nat) (hl11 : x0.2.2.1.length = l10) (a12 : Option Addr) (c13 : Nat) (l14 : Nat) (hl15 : x0.2.2.2.1.length = l14) (r : (Int × Int × List Int × Int × Int × Bool) × Int × List Int × List UInt8 × Int) (h : M_i_Vt_step x0 x1 = some r) :
    FX Tryd.prog 21 [.pointer a3, .int .i64 x1] [] [⟨(.pair (.pair (.int .i64) (.pair (.int .i64) (.pair .val (.pair (.int .i64) (.pair (.int .i64) .bool))))) (.pair (.int .i64) (.pair .val (.pair .val (.int .i64))))), ⟨a3, 1, 1⟩, [((x0.1.1, x0.1.2.1, (Sl.v ⟨a4, l6, c5⟩), x0.1.2.2.2.1, x0.1.2.2.2.2.1, x0.1.2.2.2.2.2), x0.2.1, (Sl.v ⟨a8, l10, c9⟩), (Sl.v ⟨a12, l14, c13⟩), x0.2.2.2.2)]⟩, ⟨(.int .i64), ⟨a4, l6, c5⟩, x0.1.2.2.1⟩, ⟨(.int .i64), ⟨a8, l10, c9⟩, x0.2.2.1⟩, ⟨.byte, ⟨a12, l14, c13⟩, x0.2.2.2.1⟩] (fun _ : Option Addr × Nat × Option Addr × Nat × Option Addr × Nat => True) (fun q => .tuple #[]) (fun q => [⟨(.pair (.pair (.int .i64) (.pair (.int .i64) (.pair .val (.pair (.int .i64) (.pair (.int .i64) .bool))))) (.pair (.int .i64) (.pair .val (.pair .val (.int .i64))))), ⟨a3, 1, 1⟩, [((r.1.1, r.1.2.1, (Sl.v ⟨q.1, r.1.2.2.1.length, q.2.1⟩), r.1.2.2.2.1, r.1.2.2.2.2.1, r.1.2.2.2.2.2), r.2.1, (Sl.v ⟨q.2.2.1, r.2.2.1.length, q.2.2.2.1⟩), (Sl.v ⟨q.2.2.2.2.1, r.2.2.2.1.length, q.2.2.2.2.2⟩), r.2.2.2.2)]⟩, ⟨(.int .i64), ⟨q.1, r.1.2.2.1.length, q.2.1⟩, r.1.2.2.1⟩, ⟨(.int .i64), ⟨q.2.2.1, r.2.2.1.length, q.2.2.2.1⟩, r.2.2.1⟩, ⟨.byte, ⟨q.2.2.2.2.1, r.2.2.2.1.length, q.2.2.2.2.2⟩, r.2.2.2.1⟩]) :=
  by
    subst hl7
    subst hl11
    subst hl15
    refine FX.of (T := TTx) Tryd.call21 Tryd.func21 rfl rfl fun w0 L0 => ?_
    unfold M_i_Vt_step at h
    refine JS.ptr 0 a3 rfl ?_
    refine JS.seq (JS.region (JO.know 0 rfl fun hs57 => JO.reg ttOk 3 [] [] [(6, .ep ⟨a3, 1, 1⟩ 6)] _ rfl ⟨(hs57.fa ptr0).1, hs57.fa ptr0, ⟨rfl, trivial⟩, rfl⟩ (JO.loadV ttOk rfl rfl rfl rfl rfl rfl 0 rfl rfl 0 6 ((x0.1.1, x0.1.2.1, (Sl.v ⟨a4, x0.1.2.2.1.length, c5⟩), x0.1.2.2.2.1, x0.1.2.2.2.2.1, x0.1.2.2.2.2.2), x0.2.1, (Sl.v ⟨a8, x0.2.2.1.length, c9⟩), (Sl.v ⟨a12, x0.2.2.2.1.length, c13⟩), x0.2.2.2.2) ⟨rfl, rfl⟩ rfl rfl rfl (JO.done rfl ?_))))
    obtain ⟨j52, hj61, h⟩ := joinO_some h
    refine JS.blockJ (ι := Int × Int × List Int × Int × Int × Bool × Int × List Int × List UInt8 × Int × Option Addr × Nat × Option Addr × Nat × Option Addr × Nat) ⟨fun z => j52 (z.1, z.2.1, z.2.2.1, z.2.2.2.1, z.2.2.2.2.1, z.2.2.2.2.2.1, z.2.2.2.2.2.2.1, z.2.2.2.2.2.2.2.1, z.2.2.2.2.2.2.2.2.1, z.2.2.2.2.2.2.2.2.2.1) = some r, fun z => [], fun z => .nil, fun z => [], fun z => [⟨(.int .i64), ⟨z.2.2.2.2.2.2.2.2.2.2.1, z.2.2.1.length, z.2.2.2.2.2.2.2.2.2.2.2.1⟩, z.2.2.1⟩, ⟨(.int .i64), ⟨z.2.2.2.2.2.2.2.2.2.2.2.2.1, z.2.2.2.2.2.2.2.1.length, z.2.2.2.2.2.2.2.2.2.2.2.2.2.1⟩, z.2.2.2.2.2.2.2.1⟩, ⟨.byte, ⟨z.2.2.2.2.2.2.2.2.2.2.2.2.2.2.1, z.2.2.2.2.2.2.2.2.1.length, z.2.2.2.2.2.2.2.2.2.2.2.2.2.2.2⟩, z.2.2.2.2.2.2.2.2.1⟩, ⟨(.pair (.pair (.int .i64) (.pair (.int .i64) (.pair .val (.pair (.int .i64) (.pair (.int .i64) .bool))))) (.pair (.int .i64) (.pair .val (.pair .val (.int .i64))))), ⟨a3, 1, 1⟩, [((z.1, z.2.1, (Sl.v ⟨z.2.2.2.2.2.2.2.2.2.2.1, z.2.2.1.length, z.2.2.2.2.2.2.2.2.2.2.2.1⟩), z.2.2.2.1, z.2.2.2.2.1, z.2.2.2.2.2.1), z.2.2.2.2.2.2.1, (Sl.v ⟨z.2.2.2.2.2.2.2.2.2.2.2.2.1, z.2.2.2.2.2.2.2.1.length, z.2.2.2.2.2.2.2.2.2.2.2.2.2.1⟩), (Sl.v ⟨z.2.2.2.2.2.2.2.2.2.2.2.2.2.2.1, z.2.2.2.2.2.2.2.2.1.length, z.2.2.2.2.2.2.2.2.2.2.2.2.2.2.2⟩), z.2.2.2.2.2.2.2.2.2.1)]⟩], fun z => 0⟩ ?_ ?_
    · refine JS.rg0 ttOk 2 [(11, .v (.bool (decide (x0.2.1 = 0))))] ⟨⟨rfl, trivial⟩, rfl⟩ rfl rfl ?_
      refine JS.cond rfl (fun ht60 => ?_) (fun ht60 => ?_)
      · have h := condT h ht60
        refine JS.region (JO.reg ttOk 2 [] [] [(13, .ep ⟨a3, 1, 1⟩ 0), (14, .v (.int .i64 x1))] _ rfl ⟨(Es rfl), rfl⟩ ?_)
        obtain ⟨y17, hy18, h⟩ := bindO_some h
        refine JO.callX rfl rfl rfl rfl (ok_i_Vt_plain x0 x1 a3 a4 c5 x0.1.2.2.1.length rfl a8 c9 x0.2.2.1.length rfl a12 c13 x0.2.2.2.1.length rfl _ hy18) rfl [0, 0, 0, 0] rfl [] rfl rfl ?_
        rintro ⟨a19, c20, a21, c22, a23, c24⟩ -
        refine JO.done rfl (JS.endB (JS.endJA (y17.1.1, y17.1.2.1, y17.1.2.2.1, y17.1.2.2.2.1, y17.1.2.2.2.2.1, y17.1.2.2.2.2.2, y17.2.1, y17.2.2.1, y17.2.2.2.1, y17.2.2.2.2, a19, c20, a21, c22, a23, c24) h trivial trivial [] rfl [1, 2, 3, 0] rfl rfl))
      have h := condF h ht60
      refine JS.rg0 ttOk 2 [(16, .v (.bool (decide (x0.2.1 = 1))))] ⟨⟨rfl, trivial⟩, rfl⟩ rfl rfl ?_
      refine JS.cond rfl (fun ht59 => ?_) (fun ht59 => ?_)
      · have h := condT h ht59
        refine JS.seq (JS.region (JO.reg ttOk 3 [] [] [(20, .ep ⟨a3, 1, 1⟩ 6)] _ rfl ⟨(hs57.fa ptr0).1, hs57.fa ptr0, ⟨rfl, trivial⟩, rfl⟩ (JO.storeE ttOk rfl rfl rfl rfl rfl rfl rfl rfl rfl [0] (fs := []) rfl 0 6 ((x0.1.1, x0.1.2.1, (Sl.v ⟨a4, x0.1.2.2.1.length, c5⟩), x0.1.2.2.2.1, x0.1.2.2.2.2.1, x0.1.2.2.2.2.2), x0.2.1, (Sl.v ⟨a8, x0.2.2.1.length, c9⟩), (Sl.v ⟨a12, x0.2.2.2.1.length, c13⟩), x0.2.2.2.2) ((x0.1.1, x0.1.2.1, (Sl.v ⟨a4, x0.1.2.2.1.length, c5⟩), x0.1.2.2.2.1, x0.1.2.2.2.2.1, x0.1.2.2.2.2.2), 0, (Sl.v ⟨a8, x0.2.2.1.length, c9⟩), (Sl.v ⟨a12, x0.2.2.2.1.length, c13⟩), x0.2.2.2.2) ⟨rfl, rfl⟩ ⟨⟨⟨rfl, rfl, rfl⟩, rfl⟩, rfl⟩ (JO.done rfl (JS.rg0 ttOk 2 [(22, .v (.bool (decide (x1 = 91))))] ⟨⟨rfl, trivial⟩, rfl⟩ rfl rfl ?_)))))
        refine JS.cond rfl (fun ht58 => ?_) (fun ht58 => ?_)
        · have h := condT h ht58
          refine JS.region (JO.reg ttOk 3 [] [] [(25, .ep ⟨a3, 1, 1⟩ 6)] _ rfl ⟨(hs57.fa ptr0).1, hs57.fa ptr0, ⟨rfl, trivial⟩, rfl⟩ (JO.storeE ttOk rfl rfl rfl rfl rfl rfl rfl rfl rfl [0] (fs := []) rfl 0 6 ((x0.1.1, x0.1.2.1, (Sl.v ⟨a4, x0.1.2.2.1.length, c5⟩), x0.1.2.2.2.1, x0.1.2.2.2.2.1, x0.1.2.2.2.2.2), 0, (Sl.v ⟨a8, x0.2.2.1.length, c9⟩), (Sl.v ⟨a12, x0.2.2.2.1.length, c13⟩), x0.2.2.2.2) ((x0.1.1, x0.1.2.1, (Sl.v ⟨a4, x0.1.2.2.1.length, c5⟩), x0.1.2.2.2.1, x0.1.2.2.2.2.1, x0.1.2.2.2.2.2), 2, (Sl.v ⟨a8, x0.2.2.1.length, c9⟩), (Sl.v ⟨a12, x0.2.2.2.1.length, c13⟩), x0.2.2.2.2) ⟨rfl, rfl⟩ ⟨⟨⟨rfl, rfl, rfl⟩, rfl⟩, rfl⟩ (JO.done rfl (JS.endB (JS.endJA (x0.1.1, x0.1.2.1, x0.1.2.2.1, x0.1.2.2.2.1, x0.1.2.2.2.2.1, x0.1.2.2.2.2.2, 2, x0.2.2.1, x0.2.2.2.1, x0.2.2.2.2, a4, c5, a8, c9, a12, c13) h trivial trivial [] rfl [1, 2, 3, 0] rfl rfl)))))
        have h := condF h ht58
        refine JS.skip (JS.endB (JS.endJA (x0.1.1, x0.1.2.1, x0.1.2.2.1, x0.1.2.2.2.1, x0.1.2.2.2.2.1, x0.1.2.2.2.2.2, 0, x0.2.2.1, x0.2.2.2.1, x0.2.2.2.2, a4, c5, a8, c9, a12, c13) h trivial trivial [] rfl [1, 2, 3, 0] rfl rfl))
      have h := condF h ht59
      refine JS.region (JO.reg ttOk 2 [] [] [(8, .ep ⟨a3, 1, 1⟩ 0), (9, .v (.int .i64 x1))] _ rfl ⟨(Es rfl), rfl⟩ ?_)
      obtain ⟨y26, hy27, h⟩ := bindO_some h
      refine JO.callX rfl rfl rfl rfl (ok_i_Vt_sequence x0 x1 a3 a4 c5 x0.1.2.2.1.length rfl a8 c9 x0.2.2.1.length rfl a12 c13 x0.2.2.2.1.length rfl _ hy27) rfl [0, 0, 0, 0] rfl [] rfl rfl ?_
      rintro ⟨a28, c29, a30, c31, a32, c33⟩ -
      refine JO.done rfl (JS.endB (JS.endJA (y26.1.1, y26.1.2.1, y26.1.2.2.1, y26.1.2.2.2.1, y26.1.2.2.2.2.1, y26.1.2.2.2.2.2, y26.2.1, y26.2.2.1, y26.2.2.2.1, y26.2.2.2.2, a28, c29, a30, c31, a32, c33) h trivial trivial [] rfl [1, 2, 3, 0] rfl rfl))
    rintro ⟨x36, x37, x38, x41, x42, x43, x44, x45, x48, x51, a39, c40, a46, c47, a49, c50⟩ h
    subst hj61
    cases h
    exact JS.fallX ttOk (a39, c40, a46, c47, a49, c50) trivial rfl rfl [3, 0, 0, 0] rfl

def M_i_VtFeed_L1 (x1 : List UInt8) (j96 : (Int × Int × List Int × Int × Int × Bool × Int × List Int × List UInt8 × Int) → Option ((Int × Int × List Int × Int × Int × Bool) × Int × List Int × List UInt8 × Int)) (k76 : (Int × Int × Int × List Int × Int × Int × Bool × Int × List Int × List UInt8 × Int) → Option ((Int × Int × List Int × Int × Int × Bool) × Int × List Int × List UInt8 × Int)) : (Int × Int × Int × List Int × Int × Int × Bool × Int × List Int × List UInt8 × Int) → Option ((Int × Int × List Int × Int × Int × Bool) × Int × List Int × List UInt8 × Int) := fun (x30, x47, x48, x49, x52, x53, x54, x55, x56, x59, x62) =>
  (bif (decide (x30 < (x1.length : Int))) then
  (guardO (0 ≤ x30 ∧ x30 < (x1.length : Int)) <|
  (bindO (M_i_Vt_step ((x47, x48, x49, x52, x53, x54), x55, x56, x59, x62) ((at' x1 x30).toNat : Int)) fun (y65 : (Int × Int × List Int × Int × Int × Bool) × Int × List Int × List UInt8 × Int) =>
  k76 ((W (x30 + 1)), y65.1.1, y65.1.2.1, y65.1.2.2.1, y65.1.2.2.2.1, y65.1.2.2.2.2.1, y65.1.2.2.2.2.2, y65.2.1, y65.2.2.1, y65.2.2.2.1, y65.2.2.2.2)))
  else
  j96 (x47, x48, x49, x52, x53, x54, x55, x56, x59, x62))

def M_i_VtFeed (x0 : (Int × Int × List Int × Int × Int × Bool) × Int × List Int × List UInt8 × Int) (x1 : List UInt8) : Option ((Int × Int × List Int × Int × Int × Bool) × Int × List Int × List UInt8 × Int) :=
  (bindO (M_i_VtOk x0) fun (y19 : Bool) =>
  (bif (!y19) then
  some ((0, 0, [], 0, 0, false), 0, [], [], 0)
  else
  (bindO (M_i_copyVt x0) fun (y21 : (Int × Int × List Int × Int × Int × Bool) × Int × List Int × List UInt8 × Int) =>
  (joinO (fun ((x80, x81, x82, x85, x86, x87, x88, x89, x92, x95) : Int × Int × List Int × Int × Int × Bool × Int × List Int × List UInt8 × Int) =>
  some ((x80, x81, x82, x85, x86, x87), x88, x89, x92, x95)) fun j96 =>
  (fixF (M_i_VtFeed_L1 x1 j96) FUEL (0, y21.1.1, y21.1.2.1, y21.1.2.2.1, y21.1.2.2.2.1, y21.1.2.2.2.2.1, y21.1.2.2.2.2.2, y21.2.1, y21.2.2.1, y21.2.2.2.1, y21.2.2.2.2))))))

theorem ok_i_VtFeed (x0 : (Int × Int × List Int × Int × Int × Bool) × Int × List Int × List UInt8 × Int) (x1 : List UInt8) (a3 : Option Addr) (c4 : Nat) (l5 : Nat) (hl6 : x0.1.2.2.1.length = l5) (a7 : Option Addr) (c8 : Nat) (l9 : Nat) (hl10 : x0.2.2.1.length = l9) (a11 : Option Addr) (c12 : Nat) (l13 : Nat) (hl14 : x0.2.2.2.1.length = l13) (a15 : Option Addr) (c16 : Nat) (l17 : Nat) (hl18 : x1.length = l17) (r : (Int × Int × List Int × Int × Int × Bool) × Int × List Int × List UInt8 × Int) (h : M_i_VtFeed x0 x1 = some r) :
    FC Tryd.prog 6 [.agg #[.int .i64 x0.1.1, .int .i64 x0.1.2.1, .slice a3 l5 c4, .int .i64 x0.1.2.2.2.1, .int .i64 x0.1.2.2.2.2.1, .bool x0.1.2.2.2.2.2, .int .i64 x0.2.1, .slice a7 l9 c8, .slice a11 l13 c12, .int .i64 x0.2.2.2.2], .slice a15 l17 c16] [⟨(.int .i64), ⟨a3, l5, c4⟩, x0.1.2.2.1⟩, ⟨(.int .i64), ⟨a7, l9, c8⟩, x0.2.2.1⟩, ⟨.byte, ⟨a11, l13, c12⟩, x0.2.2.2.1⟩, ⟨.byte, ⟨a15, l17, c16⟩, x1⟩] (fun _ : Option Addr × Nat × Option Addr × Nat × Option Addr × Nat => True) (fun q => .agg (cl31 r q.1 q.2.1 q.2.2.1 q.2.2.2.1 q.2.2.2.2.1 q.2.2.2.2.2).toArray) (fun q => [⟨(.int .i64), ⟨q.1, r.1.2.2.1.length, q.2.1⟩, r.1.2.2.1⟩, ⟨(.int .i64), ⟨q.2.2.1, r.2.2.1.length, q.2.2.2.1⟩, r.2.2.1⟩, ⟨.byte, ⟨q.2.2.2.2.1, r.2.2.2.1.length, q.2.2.2.2.2⟩, r.2.2.2.1⟩]) :=
  by
    subst hl6
    subst hl10
    subst hl14
    subst hl18
    refine FC.of (T := TTx) Tryd.call6 Tryd.func6 rfl rfl fun w0 => ?_
    unfold M_i_VtFeed at h
    refine JS.rgB ttOk 2 [] [5, 6] [(2, .bp 5 0), (4, .bp 6 0)] (.new 5 31 (cl31 x0 a3 c4 a7 c8 a11 c12) (.new 6 31 (cl31 ((0, 0, [], 0, 0, false), 0, [], [], 0) none 0 none 0 none 0) .nil)) ⟨(Es rfl), (Bs rfl rfl)⟩ rfl rfl (JS.seq (JS.seq (JS.region (JO.reg ttOk 1 [] [] [(8, .v (.agg (cl31 x0 a3 c4 a7 c8 a11 c12).toArray))] _ rfl ⟨⟨rfl, trivial⟩, rfl⟩ ?_))))
    obtain ⟨y19, hy20, h⟩ := bindO_some h
    refine JO.call rfl rfl rfl rfl (ok_i_VtOk x0 a3 c4 x0.1.2.2.1.length rfl a7 c8 x0.2.2.1.length rfl a11 c12 x0.2.2.2.1.length rfl _ hy20) rfl [0, 1, 2] rfl rfl fun _ _ => JO.reg ttOk 1 [] [] [(10, .v (.bool (!y19)))] _ rfl ⟨⟨rfl, trivial⟩, rfl⟩ (JO.done rfl ?_)
    refine JS.cond rfl (fun ht104 => ?_) (fun ht104 => ?_)
    · have h := condT h ht104
      refine JS.rgB ttOk 2 [] [] [] (.new 6 31 (cl31 ((0, 0, [], 0, 0, false), 0, [], [], 0) none 0 none 0 none 0) .nil) ⟨trivial, (Bs rfl rfl)⟩ rfl rfl ?_
      cases h
      refine JS.nilO (.int .i64) Sl.nil rfl rfl (JS.nilO (.int .i64) Sl.nil rfl rfl (JS.nilO .byte Sl.nil rfl rfl (JS.ret ttOk (none, 0, none, 0, none, 0) trivial rfl rfl [2, 1, 0] rfl)))
    have h := condF h ht104
    refine JS.skip (JS.seq (JS.region (JO.reg ttOk 1 [] [] [(12, .v (.agg (cl31 x0 a3 c4 a7 c8 a11 c12).toArray))] _ rfl ⟨⟨rfl, trivial⟩, rfl⟩ ?_)))
    obtain ⟨y21, hy22, h⟩ := bindO_some h
    refine JO.call rfl rfl rfl rfl (ok_i_copyVt x0 a3 c4 x0.1.2.2.1.length rfl a7 c8 x0.2.2.1.length rfl a11 c12 x0.2.2.2.1.length rfl _ hy22) rfl [0, 1, 2] rfl rfl ?_
    rintro ⟨a23, c24, a25, c26, a27, c28⟩ -
    refine JO.regB ttOk 2 [] [20] [(5, .bp 20 0)] (.new 6 31 (cl31 ((0, 0, [], 0, 0, false), 0, [], [], 0) none 0 none 0 none 0) (.new 20 31 (cl31 y21 a23 c24 a25 c26 a27 c28) .nil)) rfl ⟨⟨rfl, trivial⟩, (Bs rfl rfl)⟩ (JO.done rfl (JS.seq (JS.rg0 ttOk 3 [(14, .v (.slice a15 x1.length c16)), (15, .v (.int .i64 (x1.length : Int))), (16, .v (.int .i64 0))] ⟨(Es rfl), rfl⟩ rfl rfl (JS.unbox 20 rfl (B' := (.new 6 31 (cl31 ((0, 0, [], 0, 0, false), 0, [], [], 0) none 0 none 0 none 0) .nil)) (Bs rfl rfl) rfl (.pair (.pair (.int .i64) (.pair (.int .i64) (.pair .val (.pair (.int .i64) (.pair (.int .i64) .bool))))) (.pair (.int .i64) (.pair .val (.pair .val (.int .i64))))) ((y21.1.1, y21.1.2.1, (Sl.v ⟨a23, y21.1.2.2.1.length, c24⟩), y21.1.2.2.2.1, y21.1.2.2.2.2.1, y21.1.2.2.2.2.2), y21.2.1, (Sl.v ⟨a25, y21.2.2.1.length, c26⟩), (Sl.v ⟨a27, y21.2.2.2.1.length, c28⟩), y21.2.2.2.2) ⟨rfl, rfl, rfl, rfl, rfl⟩ (fun a29 => [(0, .v (.agg (cl31 x0 a3 c4 a7 c8 a11 c12).toArray)), (1, .v (.slice a15 x1.length c16)), (4, .bp 6 0), (5, .ep ⟨a29, 1, 1⟩ 0), (8, .v (.agg (cl31 x0 a3 c4 a7 c8 a11 c12).toArray)), (9, .v (.bool y19)), (10, .v (.bool (!y19))), (12, .v (.agg (cl31 x0 a3 c4 a7 c8 a11 c12).toArray)), (13, .v (.agg (cl31 y21 a23 c24 a25 c26 a27 c28).toArray)), (14, .v (.slice a15 x1.length c16)), (15, .v (.int .i64 (x1.length : Int))), (16, .v (.int .i64 0))]) (fun _ => (Es rfl)) fun a29 => ?_))))
    obtain ⟨j96, hj103, h⟩ := joinO_some h
    refine JS.blockJ (ι := Int × Int × List Int × Int × Int × Bool × Int × List Int × List UInt8 × Int × Option Addr × Nat × Option Addr × Nat × Option Addr × Nat) ⟨fun z => j96 (z.1, z.2.1, z.2.2.1, z.2.2.2.1, z.2.2.2.2.1, z.2.2.2.2.2.1, z.2.2.2.2.2.2.1, z.2.2.2.2.2.2.2.1, z.2.2.2.2.2.2.2.2.1, z.2.2.2.2.2.2.2.2.2.1) = some r, fun z => [(4, .bp 6 0), (5, .ep ⟨a29, 1, 1⟩ 0)], fun z => (.new 6 31 (cl31 ((0, 0, [], 0, 0, false), 0, [], [], 0) none 0 none 0 none 0) .nil), fun z => [], fun z => [⟨(.int .i64), ⟨z.2.2.2.2.2.2.2.2.2.2.1, z.2.2.1.length, z.2.2.2.2.2.2.2.2.2.2.2.1⟩, z.2.2.1⟩, ⟨(.int .i64), ⟨z.2.2.2.2.2.2.2.2.2.2.2.2.1, z.2.2.2.2.2.2.2.1.length, z.2.2.2.2.2.2.2.2.2.2.2.2.2.1⟩, z.2.2.2.2.2.2.2.1⟩, ⟨.byte, ⟨z.2.2.2.2.2.2.2.2.2.2.2.2.2.2.1, z.2.2.2.2.2.2.2.2.1.length, z.2.2.2.2.2.2.2.2.2.2.2.2.2.2.2⟩, z.2.2.2.2.2.2.2.2.1⟩, ⟨(.pair (.pair (.int .i64) (.pair (.int .i64) (.pair .val (.pair (.int .i64) (.pair (.int .i64) .bool))))) (.pair (.int .i64) (.pair .val (.pair .val (.int .i64))))), ⟨a29, 1, 1⟩, [((z.1, z.2.1, (Sl.v ⟨z.2.2.2.2.2.2.2.2.2.2.1, z.2.2.1.length, z.2.2.2.2.2.2.2.2.2.2.2.1⟩), z.2.2.2.1, z.2.2.2.2.1, z.2.2.2.2.2.1), z.2.2.2.2.2.2.1, (Sl.v ⟨z.2.2.2.2.2.2.2.2.2.2.2.2.1, z.2.2.2.2.2.2.2.1.length, z.2.2.2.2.2.2.2.2.2.2.2.2.2.1⟩), (Sl.v ⟨z.2.2.2.2.2.2.2.2.2.2.2.2.2.2.1, z.2.2.2.2.2.2.2.2.1.length, z.2.2.2.2.2.2.2.2.2.2.2.2.2.2.2⟩), z.2.2.2.2.2.2.2.2.2.1)]⟩], fun z => 0⟩ ?_ ?_
    · refine JS.loop (ι := Nat × Int × Int × Int × List Int × Int × Int × Bool × Int × List Int × List UInt8 × Int × Option Addr × Nat × Option Addr × Nat × Option Addr × Nat) ⟨fun z => fixF (M_i_VtFeed_L1 x1 j96) z.1 (z.2.1, z.2.2.1, z.2.2.2.1, z.2.2.2.2.1, z.2.2.2.2.2.1, z.2.2.2.2.2.2.1, z.2.2.2.2.2.2.2.1, z.2.2.2.2.2.2.2.2.1, z.2.2.2.2.2.2.2.2.2.1, z.2.2.2.2.2.2.2.2.2.2.1, z.2.2.2.2.2.2.2.2.2.2.2.1) = some r, fun z => [(4, .bp 6 0), (5, .ep ⟨a29, 1, 1⟩ 0), (14, .v (.slice a15 x1.length c16)), (15, .v (.int .i64 (x1.length : Int))), (16, .v (.int .i64 z.2.1))], fun z => (.new 6 31 (cl31 ((0, 0, [], 0, 0, false), 0, [], [], 0) none 0 none 0 none 0) .nil), fun z => [⟨.byte, ⟨a15, x1.length, c16⟩, x1⟩], fun z => [⟨(.int .i64), ⟨z.2.2.2.2.2.2.2.2.2.2.2.2.1, z.2.2.2.2.1.length, z.2.2.2.2.2.2.2.2.2.2.2.2.2.1⟩, z.2.2.2.2.1⟩, ⟨(.int .i64), ⟨z.2.2.2.2.2.2.2.2.2.2.2.2.2.2.1, z.2.2.2.2.2.2.2.2.2.1.length, z.2.2.2.2.2.2.2.2.2.2.2.2.2.2.2.1⟩, z.2.2.2.2.2.2.2.2.2.1⟩, ⟨.byte, ⟨z.2.2.2.2.2.2.2.2.2.2.2.2.2.2.2.2.1, z.2.2.2.2.2.2.2.2.2.2.1.length, z.2.2.2.2.2.2.2.2.2.2.2.2.2.2.2.2.2⟩, z.2.2.2.2.2.2.2.2.2.2.1⟩, ⟨(.pair (.pair (.int .i64) (.pair (.int .i64) (.pair .val (.pair (.int .i64) (.pair (.int .i64) .bool))))) (.pair (.int .i64) (.pair .val (.pair .val (.int .i64))))), ⟨a29, 1, 1⟩, [((z.2.2.1, z.2.2.2.1, (Sl.v ⟨z.2.2.2.2.2.2.2.2.2.2.2.2.1, z.2.2.2.2.1.length, z.2.2.2.2.2.2.2.2.2.2.2.2.2.1⟩), z.2.2.2.2.2.1, z.2.2.2.2.2.2.1, z.2.2.2.2.2.2.2.1), z.2.2.2.2.2.2.2.2.1, (Sl.v ⟨z.2.2.2.2.2.2.2.2.2.2.2.2.2.2.1, z.2.2.2.2.2.2.2.2.2.1.length, z.2.2.2.2.2.2.2.2.2.2.2.2.2.2.2.1⟩), (Sl.v ⟨z.2.2.2.2.2.2.2.2.2.2.2.2.2.2.2.2.1, z.2.2.2.2.2.2.2.2.2.2.1.length, z.2.2.2.2.2.2.2.2.2.2.2.2.2.2.2.2.2⟩), z.2.2.2.2.2.2.2.2.2.2.2.1)]⟩], fun z => z.1⟩ (FUEL, 0, y21.1.1, y21.1.2.1, y21.1.2.2.1, y21.1.2.2.2.1, y21.1.2.2.2.2.1, y21.1.2.2.2.2.2, y21.2.1, y21.2.2.1, y21.2.2.2.1, y21.2.2.2.2, a23, c24, a25, c26, a27, c28) h (Es rfl) (Bs rfl rfl) [3] rfl [1, 1, 1, 0] rfl ?_
      rintro ⟨n77, x30, x47, x48, x49, x52, x53, x54, x55, x56, x59, x62, a50, c51, a57, c58, a60, c61⟩ h
      obtain ⟨n77, rfl, h⟩ := fixF_some h
      rw [M_i_VtFeed_L1] at h
      refine JS.rg0 ttOk 1 [(17, .v (.bool (decide (x30 < (x1.length : Int)))))] ⟨⟨rfl, trivial⟩, rfl⟩ rfl rfl (JS.seq ?_)
      refine JS.cond rfl (fun ht102 => ?_) (fun ht102 => ?_)
      · have h := condT h ht102
        refine JS.skip (JS.seq (JS.block (JS.seq (JS.region (JO.know 0 rfl fun hs101 => ?_)))))
        obtain ⟨g64, h⟩ := guardO_some h
        refine JO.reg ttOk 1 [] [] [(18, .ep ⟨a15, x1.length, c16⟩ (Int.toNat x30 * 1))] _ rfl ⟨hs101.ix g64, ⟨rfl, trivial⟩, rfl⟩ (JO.load ttOk rfl rfl rfl rfl rfl rfl rfl 0 rfl rfl (Int.toNat x30) 0 (at' x1 x30) ⟨at_some g64, rfl⟩ rfl rfl (JO.reg ttOk 1 [] [] [(7, .v (.int .u8 ((at' x1 x30).toNat : Int)))] _ rfl ⟨⟨rfl, trivial⟩, rfl⟩ (JO.done rfl (JS.region (JO.reg ttOk 2 [((at' x1 x30).toNat : Int)] [] [(21, .v (.int .i64 ((at' x1 x30).toNat : Int)))] _ rfl ⟨⟨trivial, W_byte _⟩, ⟨rfl, trivial⟩, rfl⟩ ?_)))))
        obtain ⟨y65, hy66, h⟩ := bindO_some h
        refine JO.callX rfl rfl rfl rfl (ok_i_Vt_step ((x47, x48, x49, x52, x53, x54), x55, x56, x59, x62) ((at' x1 x30).toNat : Int) a29 a50 c51 x49.length rfl a57 c58 x56.length rfl a60 c61 x59.length rfl _ hy66) rfl [3, 0, 0, 0] rfl [] rfl rfl ?_
        rintro ⟨a67, c68, a69, c70, a71, c72⟩ -
        refine JO.done rfl (JS.endB (JS.re ttOk 2 [(W (x30 + 1))] [] [(16, .v (.int .i64 (W (x30 + 1))))] _ ⟨⟨trivial, rfl⟩, ⟨rfl, trivial⟩, rfl⟩ rfl rfl (JS.endLA (n77, (W (x30 + 1)), y65.1.1, y65.1.2.1, y65.1.2.2.1, y65.1.2.2.2.1, y65.1.2.2.2.2.1, y65.1.2.2.2.2.2, y65.2.1, y65.2.2.1, y65.2.2.2.1, y65.2.2.2.2, a67, c68, a69, c70, a71, c72) h (Nat.lt_succ_self _) (Es rfl) (Bs rfl rfl) [0] rfl [1, 2, 3, 0] rfl rfl)))
      have h := condF h ht102
      refine JS.exit rfl (JS.endJA (x47, x48, x49, x52, x53, x54, x55, x56, x59, x62, a50, c51, a57, c58, a60, c61) h (Es rfl) (Bs rfl rfl) [] rfl [0, 1, 2, 3] rfl rfl)
    rintro ⟨x80, x81, x82, x85, x86, x87, x88, x89, x92, x95, a83, c84, a90, c91, a93, c94⟩ h
    subst hj103
    refine JS.seq (JS.region (JO.loadV ttOk rfl rfl rfl rfl rfl rfl 3 rfl rfl 0 0 ((x80, x81, (Sl.v ⟨a83, x82.length, c84⟩), x85, x86, x87), x88, (Sl.v ⟨a90, x89.length, c91⟩), (Sl.v ⟨a93, x92.length, c94⟩), x95) ⟨rfl, rfl⟩ rfl rfl rfl (JO.regB ttOk 1 [] [] [] (.new 6 31 (cl31 ((x80, x81, x82, x85, x86, x87), x88, x89, x92, x95) a83 c84 a90 c91 a93 c94) .nil) rfl ⟨trivial, (Bs rfl rfl)⟩ (JO.done rfl ?_))))
    cases h
    exact JS.ret ttOk (a83, c84, a90, c91, a93, c94) trivial rfl rfl [0, 0, 0] rfl

def M_i_sameInts_L1 (x0 : List Int) (x1 : List Int) (j28 : Unit → Option Bool) (k20 : Int → Option Bool) : Int → Option Bool := fun x11 =>
  (bif (decide (x11 < (x0.length : Int))) then
  (guardO (0 ≤ x11 ∧ x11 < (x0.length : Int)) <|
  (guardO (0 ≤ x11 ∧ x11 < (x1.length : Int)) <|
  (bif (!(decide ((at' x0 x11) = (at' x1 x11)))) then
  some false
  else
  k20 (W (x11 + 1)))))
  else
  j28 ())

def M_i_sameInts (x0 : List Int) (x1 : List Int) : Option Bool :=
  (bif (!(decide ((x0.length : Int) = (x1.length : Int)))) then
  some false
  else
  (joinO (fun (_ : Unit) =>
  some true) fun j28 =>
  (fixF (M_i_sameInts_L1 x0 x1 j28) FUEL 0)))

theorem ok_i_sameInts (x0 : List Int) (x1 : List Int) (a3 : Option Addr) (c4 : Nat) (l5 : Nat) (hl6 : x0.length = l5) (a7 : Option Addr) (c8 : Nat) (l9 : Nat) (hl10 : x1.length = l9) (r : Bool) (h : M_i_sameInts x0 x1 = some r) :
    FC Tryd.prog 26 [.slice a3 l5 c4, .slice a7 l9 c8] [⟨(.int .i64), ⟨a3, l5, c4⟩, x0⟩, ⟨(.int .i64), ⟨a7, l9, c8⟩, x1⟩] (fun _ : Unit => True) (fun _ => .bool r) (fun _ => []) :=
  by
    subst hl6
    subst hl10
    refine FC.of (T := TTx) Tryd.call26 Tryd.func26 rfl rfl fun w0 => ?_
    unfold M_i_sameInts at h
    refine JS.rg0 ttOk 1 [] ⟨trivial, rfl⟩ rfl rfl (JS.seq (JS.rg0 ttOk 5 [(10, .v (.bool (!(decide ((x0.length : Int) = (x1.length : Int))))))] ⟨⟨rfl, trivial⟩, rfl⟩ rfl rfl ?_))
    refine JS.cond rfl (fun ht44 => ?_) (fun ht44 => ?_)
    · have h := condT h ht44
      refine JS.rg0 ttOk 1 [(4, .v (.bool false))] ⟨⟨rfl, trivial⟩, rfl⟩ rfl rfl ?_
      cases h
      exact JS.ret ttOk () trivial rfl rfl [] rfl
    have h := condF h ht44
    refine JS.skip (JS.seq (JS.rg0 ttOk 3 [(12, .v (.int .i64 (x0.length : Int))), (13, .v (.int .i64 0))] ⟨(Es rfl), rfl⟩ rfl rfl ?_))
    obtain ⟨j28, hj43, h⟩ := joinO_some h
    refine JS.blockJ (ι := Unit) ⟨fun _ => j28 () = some r, fun _ => [], fun _ => .nil, fun _ => [], fun _ => [], fun _ => 0⟩ ?_ ?_
    · refine JS.loop (ι := Nat × Int) ⟨fun z => fixF (M_i_sameInts_L1 x0 x1 j28) z.1 z.2 = some r, fun z => [(0, .v (.slice a3 x0.length c4)), (1, .v (.slice a7 x1.length c8)), (12, .v (.int .i64 (x0.length : Int))), (13, .v (.int .i64 z.2))], fun z => .nil, fun z => [⟨(.int .i64), ⟨a3, x0.length, c4⟩, x0⟩, ⟨(.int .i64), ⟨a7, x1.length, c8⟩, x1⟩], fun z => [], fun z => z.1⟩ (FUEL, 0) h (Es rfl) trivial [0, 1] rfl [] rfl ?_
      rintro ⟨n21, x11⟩ h
      obtain ⟨n21, rfl, h⟩ := fixF_some h
      rw [M_i_sameInts_L1] at h
      refine JS.rg0 ttOk 1 [(14, .v (.bool (decide (x11 < (x0.length : Int)))))] ⟨⟨rfl, trivial⟩, rfl⟩ rfl rfl (JS.seq ?_)
      refine JS.cond rfl (fun ht42 => ?_) (fun ht42 => ?_)
      · have h := condT h ht42
        refine JS.skip (JS.seq (JS.block (JS.rg0 ttOk 2 [(5, .v (.int .i64 x11))] ⟨⟨rfl, trivial⟩, rfl⟩ rfl rfl (JS.seq ?_))))
        obtain ⟨g13, h⟩ := guardO_some h
        obtain ⟨g15, h⟩ := guardO_some h
        refine JS.know 0 rfl fun hs39 => JS.know 1 rfl fun hs40 => JS.regionQ rfl (by kernel_rfl) (JQ.reg ttOk 3 [] [(18, .ep ⟨a3, x0.length, c4⟩ (Int.toNat x11 * 1))] rfl ⟨hs39.ix g13, ⟨rfl, trivial⟩⟩ (JQ.load ttOk rfl rfl rfl rfl rfl rfl rfl 0 rfl rfl (Int.toNat x11) 0 (at' x0 x11) ⟨at_some g13, rfl⟩ rfl rfl (JQ.reg ttOk 3 [] [(22, .ep ⟨a7, x1.length, c8⟩ (Int.toNat x11 * 1))] rfl ⟨hs40.ix g15, ⟨rfl, trivial⟩⟩ (JQ.load ttOk rfl rfl rfl rfl rfl rfl rfl 1 rfl rfl (Int.toNat x11) 0 (at' x1 x11) ⟨at_some g15, rfl⟩ rfl rfl (JQ.reg ttOk 1 [] [(24, .v (.bool (!(decide ((at' x0 x11) = (at' x1 x11))))))] rfl ⟨rfl, trivial⟩ (JQ.done rfl ?_))))))
        refine JS.cond rfl (fun ht41 => ?_) (fun ht41 => ?_)
        · have h := condT h ht41
          refine JS.rg0 ttOk 1 [(4, .v (.bool false))] ⟨⟨rfl, trivial⟩, rfl⟩ rfl rfl ?_
          cases h
          exact JS.ret ttOk () trivial rfl rfl [] rfl
        have h := condF h ht41
        refine JS.skip (JS.endB (JS.re ttOk 2 [(W (x11 + 1))] [] [(13, .v (.int .i64 (W (x11 + 1))))] _ ⟨⟨trivial, rfl⟩, ⟨rfl, trivial⟩, rfl⟩ rfl rfl (JS.endL (n21, (W (x11 + 1))) h (Nat.lt_succ_self _) (Es rfl) trivial [0, 1] rfl [] rfl)))
      have h := condF h ht42
      refine JS.exit rfl (JS.endJ () h trivial trivial [] rfl [] rfl)
    rintro _ h
    subst hj43
    refine JS.rg0 ttOk 1 [(4, .v (.bool true))] ⟨⟨rfl, trivial⟩, rfl⟩ rfl rfl ?_
    cases h
    exact JS.ret ttOk () trivial rfl rfl [] rfl

def M_i_SameGrid (x0 : Int × Int × List Int × Int × Int × Bool) (x1 : Int × Int × List Int × Int × Int × Bool) : Option Bool :=
  (callO ((bif (decide (x0.1 = x1.1)) then (decide (x0.2.1 = x1.2.1)) else false) = true) (M_i_sameInts x0.2.2.1 x1.2.2.1) false fun (y11 : Bool) =>
  some (bif (bif (bif (bif (bif (decide (x0.1 = x1.1)) then (decide (x0.2.1 = x1.2.1)) else false) then y11 else false) then (decide (x0.2.2.2.1 = x1.2.2.2.1)) else false) then (decide (x0.2.2.2.2.1 = x1.2.2.2.2.1)) else false) then (x0.2.2.2.2.2 == x1.2.2.2.2.2) else false))

theorem ok_i_SameGrid (x0 : Int × Int × List Int × Int × Int × Bool) (x1 : Int × Int × List Int × Int × Int × Bool) (a3 : Option Addr) (c4 : Nat) (l5 : Nat) (hl6 : x0.2.2.1.length = l5) (a7 : Option Addr) (c8 : Nat) (l9 : Nat) (hl10 : x1.2.2.1.length = l9) (r : Bool) (h : M_i_SameGrid x0 x1 = some r) :
    FC Tryd.prog 9 [.agg #[.int .i64 x0.1, .int .i64 x0.2.1, .slice a3 l5 c4, .int .i64 x0.2.2.2.1, .int .i64 x0.2.2.2.2.1, .bool x0.2.2.2.2.2], .agg #[.int .i64 x1.1, .int .i64 x1.2.1, .slice a7 l9 c8, .int .i64 x1.2.2.2.1, .int .i64 x1.2.2.2.2.1, .bool x1.2.2.2.2.2]] [⟨(.int .i64), ⟨a3, l5, c4⟩, x0.2.2.1⟩, ⟨(.int .i64), ⟨a7, l9, c8⟩, x1.2.2.1⟩] (fun _ : Unit => True) (fun _ => .bool r) (fun _ => []) :=
  by
    subst hl6
    subst hl10
    refine FC.of (T := TTx) Tryd.call9 Tryd.func9 rfl rfl fun w0 => ?_
    unfold M_i_SameGrid at h
    refine JS.rgB ttOk 3 [] [3, 4] [(2, .bp 3 0), (3, .bp 4 0)] (.new 3 25 (cl25 x0 a3 c4) (.new 4 25 (cl25 x1 a7 c8) .nil)) ⟨(Es rfl), (Bs rfl rfl)⟩ rfl rfl (JS.seq (JS.region (JO.reg ttOk 17 [] [] [(17, .v (.bool (bif (decide (x0.1 = x1.1)) then (decide (x0.2.1 = x1.2.1)) else false))), (19, .cd [(17, true)] (.v (.slice a3 x0.2.2.1.length c4))), (21, .cd [(17, true)] (.v (.slice a7 x1.2.2.1.length c8)))] _ rfl ⟨(Es rfl), rfl⟩ ?_)))
    obtain ⟨y11, hy12, -, h⟩ := callO_some h
    refine JO.callg rfl rfl rfl rfl (fun q14 => ok_i_sameInts x0.2.2.1 x1.2.2.1 a3 c4 x0.2.2.1.length rfl a7 c8 x1.2.2.1.length rfl _ (hy12 q14)) rfl [0, 1] rfl rfl (JO.reg ttOk 23 [] [] [(4, .v (.bool (bif (bif (bif (bif (bif (decide (x0.1 = x1.1)) then (decide (x0.2.1 = x1.2.1)) else false) then y11 else false) then (decide (x0.2.2.2.1 = x1.2.2.2.1)) else false) then (decide (x0.2.2.2.2.1 = x1.2.2.2.2.1)) else false) then (x0.2.2.2.2.2 == x1.2.2.2.2.2) else false)))] _ rfl ⟨⟨rfl, trivial⟩, rfl⟩ (JO.done rfl ?_))
    cases h
    exact JS.ret ttOk () trivial rfl rfl [] rfl

def M_l_FnStep (x0 : List UInt8) : Option Bool :=
  (bif (decide (1048576 < (x0.length : Int))) then
  some true
  else
  (bindO (M_s_MakeGrids x0) fun (y6, y7) =>
  (bindO (M_i_EmitStep y6 y7.2.2.2.1 y7.2.2.2.2.1) fun (y13, y14) =>
  (bindO (M_i_VtFeed (y6, 0, ([] : List Int), ([] : List UInt8), 0) y13) fun (y18 : (Int × Int × List Int × Int × Int × Bool) × Int × List Int × List UInt8 × Int) =>
  (bindO (M_i_EmitGoto y7.2.2.2.1 y7.2.2.2.2.1) fun (y26 : List UInt8) =>
  (bindO (M_i_VtFeed (y6, 0, ([] : List Int), ([] : List UInt8), 0) y26) fun (y30 : (Int × Int × List Int × Int × Int × Bool) × Int × List Int × List UInt8 × Int) =>
  (bindO (M_s_GridGo y6 y7.2.2.2.1 y7.2.2.2.2.1) fun (y38 : Int × Int × List Int × Int × Int × Bool) =>
  (callO ((bif y14 then (decide ((y13.length : Int) ≤ (y26.length : Int))) else false) = true) (M_i_SameGrid y18.1 y38) false fun (y42 : Bool) =>
  (callO ((bif (bif y14 then (decide ((y13.length : Int) ≤ (y26.length : Int))) else false) then y42 else false) = true) (M_i_SameGrid y30.1 y38) false fun (y45 : Bool) =>
  some (bif (bif (bif y14 then (decide ((y13.length : Int) ≤ (y26.length : Int))) else false) then y42 else false) then y45 else false))))))))))

theorem ok_l_FnStep (x0 : List UInt8) (a2 : Option Addr) (c3 : Nat) (l4 : Nat) (hl5 : x0.length = l4) (r : Bool) (h : M_l_FnStep x0 = some r) :
    FC Tryd.prog 3 [.slice a2 l4 c3] [⟨.byte, ⟨a2, l4, c3⟩, x0⟩] (fun _ : Unit => True) (fun _ => .bool r) (fun _ => []) :=
  by
    subst hl5
    refine FC.of (T := TTx) Tryd.call3 Tryd.func3 rfl rfl fun w0 => ?_
    unfold M_l_FnStep at h
    refine JS.rg0 ttOk 1 [] ⟨trivial, rfl⟩ rfl rfl (JS.seq (JS.rg0 ttOk 3 [(13, .v (.bool (decide (1048576 < (x0.length : Int)))))] ⟨⟨rfl, trivial⟩, rfl⟩ rfl rfl ?_))
    refine JS.cond rfl (fun ht51 => ?_) (fun ht51 => ?_)
    · have h := condT h ht51
      refine JS.rg0 ttOk 1 [(2, .v (.bool true))] ⟨⟨rfl, trivial⟩, rfl⟩ rfl rfl ?_
      cases h
      exact JS.ret ttOk () trivial rfl rfl [] rfl
    have h := condF h ht51
    refine JS.skip (JS.seq (JS.region (JO.reg ttOk 1 [] [] [(15, .v (.slice a2 x0.length c3))] _ rfl ⟨⟨rfl, trivial⟩, rfl⟩ ?_)))
    obtain ⟨⟨y6, y7⟩, hy8, h⟩ := bindO_some h
    refine JO.call rfl rfl rfl rfl (ok_s_MakeGrids x0 a2 c3 x0.length rfl _ hy8) rfl [0] rfl rfl ?_
    rintro ⟨a9, c10, a11, c12⟩ -
    refine JO.regB ttOk 7 [] [11, 12] [(3, .bp 11 0), (4, .bp 12 0)] (.new 11 25 (cl25 y6 a9 c10) (.new 12 25 (cl25 y7 a11 c12) .nil)) rfl ⟨(Es rfl), (Bs rfl rfl)⟩ (JO.done rfl (JS.seq (JS.region (JO.reg ttOk 5 [] [] [(20, .v (.agg (cl25 y6 a9 c10).toArray)), (22, .v (.int .i64 y7.2.2.2.1)), (24, .v (.int .i64 y7.2.2.2.2.1))] _ rfl ⟨(Es rfl), rfl⟩ ?_))))
    obtain ⟨⟨y13, y14⟩, hy15, h⟩ := bindO_some h
    refine JO.call rfl rfl rfl rfl (ok_i_EmitStep y6 y7.2.2.2.1 y7.2.2.2.2.1 a9 c10 y6.2.2.1.length rfl _ hy15) rfl [1] rfl rfl ?_
    rintro ⟨a16, c17⟩ -
    refine JO.reg ttOk 5 [] [] [(5, .v (.slice a16 y13.length c17)), (6, .v (.bool y14))] _ rfl ⟨(Es rfl), rfl⟩ (JO.done rfl (JS.seq (JS.region (JO.reg ttOk 3 [] [] [(29, .v (.agg (cl31 (y6, 0, [], [], 0) a9 c10 none 0 none 0).toArray)), (30, .v (.slice a16 y13.length c17))] _ rfl ⟨(Es rfl), rfl⟩ ?_))))
    obtain ⟨y18, hy19, h⟩ := bindO_some h
    refine JO.nilR (.int .i64) Sl.nil rfl rfl (JO.nilR .byte Sl.nil rfl rfl (JO.call rfl rfl rfl rfl (ok_i_VtFeed (y6, 0, ([] : List Int), ([] : List UInt8), 0) y13 a9 c10 y6.2.2.1.length rfl none 0 (([] : List Int).length) rfl none 0 (([] : List UInt8).length) rfl a16 c17 y13.length rfl _ hy19) rfl [4, 1, 0, 3] rfl rfl ?_))
    rintro ⟨a20, c21, a22, c23, a24, c25⟩ -
    refine JO.regB ttOk 2 [] [32] [(7, .bp 32 0)] (.new 11 25 (cl25 y6 a9 c10) (.new 12 25 (cl25 y7 a11 c12) (.new 32 31 (cl31 y18 a20 c21 a22 c23 a24 c25) .nil))) rfl ⟨⟨rfl, trivial⟩, (Bs rfl rfl)⟩ (JO.done rfl (JS.seq (JS.region (JO.reg ttOk 4 [] [] [(33, .v (.int .i64 y7.2.2.2.1)), (35, .v (.int .i64 y7.2.2.2.2.1))] _ rfl ⟨(Es rfl), rfl⟩ ?_))))
    obtain ⟨y26, hy27, h⟩ := bindO_some h
    refine JO.call rfl rfl rfl rfl (ok_i_EmitGoto y7.2.2.2.1 y7.2.2.2.2.1 _ hy27) rfl [] rfl rfl ?_
    rintro ⟨a28, c29⟩ -
    refine JO.reg ttOk 1 [] [] [(8, .v (.slice a28 y26.length c29))] _ rfl ⟨⟨rfl, trivial⟩, rfl⟩ (JO.done rfl (JS.seq (JS.region (JO.reg ttOk 3 [] [] [(38, .v (.agg (cl31 (y6, 0, [], [], 0) a9 c10 none 0 none 0).toArray)), (39, .v (.slice a28 y26.length c29))] _ rfl ⟨(Es rfl), rfl⟩ ?_))))
    obtain ⟨y30, hy31, h⟩ := bindO_some h
    refine JO.nilR (.int .i64) Sl.nil rfl rfl (JO.nilR .byte Sl.nil rfl rfl (JO.call rfl rfl rfl rfl (ok_i_VtFeed (y6, 0, ([] : List Int), ([] : List UInt8), 0) y26 a9 c10 y6.2.2.1.length rfl none 0 (([] : List Int).length) rfl none 0 (([] : List UInt8).length) rfl a28 c29 y26.length rfl _ hy31) rfl [10, 1, 0, 5] rfl rfl ?_))
    rintro ⟨a32, c33, a34, c35, a36, c37⟩ -
    refine JO.regB ttOk 2 [] [51] [(9, .bp 51 0)] (.new 11 25 (cl25 y6 a9 c10) (.new 12 25 (cl25 y7 a11 c12) (.new 32 31 (cl31 y18 a20 c21 a22 c23 a24 c25) (.new 51 31 (cl31 y30 a32 c33 a34 c35 a36 c37) .nil)))) rfl ⟨⟨rfl, trivial⟩, (Bs rfl rfl)⟩ (JO.done rfl (JS.seq (JS.region (JO.reg ttOk 5 [] [] [(41, .v (.agg (cl25 y6 a9 c10).toArray)), (43, .v (.int .i64 y7.2.2.2.1)), (45, .v (.int .i64 y7.2.2.2.2.1))] _ rfl ⟨(Es rfl), rfl⟩ ?_))))
    obtain ⟨y38, hy39, h⟩ := bindO_some h
    refine JO.call rfl rfl rfl rfl (ok_s_GridGo y6 y7.2.2.2.1 y7.2.2.2.2.1 a9 c10 y6.2.2.1.length rfl _ hy39) rfl [13] rfl rfl ?_
    rintro ⟨a40, c41⟩ -
    refine JO.regB ttOk 2 [] [57] [(10, .bp 57 0)] (.new 32 31 (cl31 y18 a20 c21 a22 c23 a24 c25) (.new 51 31 (cl31 y30 a32 c33 a34 c35 a36 c37) (.new 57 25 (cl25 y38 a40 c41) .nil))) rfl ⟨⟨rfl, trivial⟩, (Bs rfl rfl)⟩ (JO.done rfl (JS.seq (JS.region (JO.reg ttOk 12 [] [] [(55, .v (.bool (bif y14 then (decide ((y13.length : Int) ≤ (y26.length : Int))) else false))), (57, .cd [(55, true)] (.v (.agg (cl25 y18.1 a20 c21).toArray))), (58, .cd [(55, true)] (.v (.agg (cl25 y38 a40 c41).toArray)))] _ rfl ⟨(Es rfl), rfl⟩ ?_))))
    obtain ⟨y42, hy43, -, h⟩ := callO_some h
    refine JO.callg rfl rfl rfl rfl (fun q49 => ok_i_SameGrid y18.1 y38 a20 c21 y18.1.2.2.1.length rfl a40 c41 y38.2.2.1.length rfl _ (hy43 q49)) rfl [10, 5] rfl rfl (JO.reg ttOk 5 [] [] [(61, .v (.bool (bif (bif y14 then (decide ((y13.length : Int) ≤ (y26.length : Int))) else false) then y42 else false))), (63, .cd [(61, true)] (.v (.agg (cl25 y30.1 a32 c33).toArray))), (64, .cd [(61, true)] (.v (.agg (cl25 y38 a40 c41).toArray)))] _ rfl ⟨(Es rfl), rfl⟩ ?_)
    obtain ⟨y45, hy46, -, h⟩ := callO_some h
    refine JO.callg rfl rfl rfl rfl (fun q50 => ok_i_SameGrid y30.1 y38 a32 c33 y30.1.2.2.1.length rfl a40 c41 y38.2.2.1.length rfl _ (hy46 q50)) rfl [6, 5] rfl rfl (JO.reg ttOk 2 [] [] [(2, .v (.bool (bif (bif (bif y14 then (decide ((y13.length : Int) ≤ (y26.length : Int))) else false) then y42 else false) then y45 else false)))] _ rfl ⟨⟨rfl, trivial⟩, rfl⟩ (JO.done rfl ?_))
    cases h
    exact JS.ret ttOk () trivial rfl rfl [] rfl

end
end Go.Eng
