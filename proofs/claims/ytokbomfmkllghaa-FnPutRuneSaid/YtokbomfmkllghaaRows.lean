/-
  No cell of these rows narrows 'for every input' (looked for: loops, veiled, ifaces, maps, wideKeys, modest, calm, conditions, laid).
  DERIVED. THE GIVEN ROWS OF THIS SEAT. 6 by the template 'for every input the law returns true; each argument reads behind the call as it read before'; 0 by the template 'total and deterministic' (their statements: YtokbomfmkllghaaTotals.lean).
  GIVEN WITH THE SEED: the statements are not yours to turn. If you find one false, say at which input.
  Laid BY PROGRAM, IN A SANDBOX (cutbox-rows.mjs): the forced cells as the released guide's own fill.sh prints them over the translation 8c505b3b459cbd11… (all of the seat's roots in one cut). By AI agents, Wed Nov 11 2026. No macro, syntax, notation, axiom, sorry.
-/
import Derived.Test.YtokbomfmkllghaaChecked
import GoSem.Claim
import GoSem.ClaimJoined
import GoSem.ClaimMapViews
import Derived.JoinedTies
import Derived.KernelRfl
namespace Go.Proofs.Ytokbomfmkllghaa
/- THE CELL 'sum', in the pinned program and in every row, IS THE sha256 OF THE DUMP (.gsa) THAT YtokbomfmkllghaaProg.lean LOADS. Nothing in Lean hashes anything: it is a label: what it is worth is what the hold of that sum in a sandbox is worth. -/
noncomputable def Try.pinned : Pinned := { name := "ytokbomfmkllghaa", sum := "8c505b3b459cbd119f92c9040223d3958959da1c80f080cafcb0fb88b7cee20d", checked := Try.checked }
namespace Rows
def none {H : Type} : Left H := { results := [], args := [] }

/-- 'laws.FnExactGridPut': WHATEVER THE INPUT: true; the input reads as it did. -/
def fnExactGridPutSpec : ChangeSpec := { name := "fnExactGridPut", fn := fun _ => fun
  | [d1, d2] => { results := [.lit (.bool true)], args := [d1, d2] }
  | _ => none }
def fnExactGridPutRow : OpenClaim := { program := "ytokbomfmkllghaa", sum := "8c505b3b459cbd119f92c9040223d3958959da1c80f080cafcb0fb88b7cee20d", func := "loop.example/g00600/laws.FnExactGridPut", spec := "fnExactGridPut", apart := false }
def FnExactGridPutSaid : Prop := fnExactGridPutRow.holds Try.pinned (OpenSpec.ofChange fnExactGridPutSpec)

/-- ITS FALSE NEIGHBOUR: 'it returns false'. Refute it at one input. -/
def fnExactGridPutWrong : ChangeSpec := { name := "fnExactGridPut", fn := fun _ => fun
  | [d1, d2] => { results := [.lit (.bool false)], args := [d1, d2] }
  | _ => none }
def FnExactGridPutWrongFalsely : Prop := fnExactGridPutRow.holds Try.pinned (OpenSpec.ofChange fnExactGridPutWrong)

/-- 'laws.FnGrid': WHATEVER THE INPUT: true; the input reads as it did. -/
def fnGridSpec : ChangeSpec := { name := "fnGrid", fn := fun _ => fun
  | [d] => { results := [.lit (.bool true)], args := [d] }
  | _ => none }
def fnGridRow : OpenClaim := { program := "ytokbomfmkllghaa", sum := "8c505b3b459cbd119f92c9040223d3958959da1c80f080cafcb0fb88b7cee20d", func := "loop.example/g00600/laws.FnGrid", spec := "fnGrid", apart := false }
def FnGridSaid : Prop := fnGridRow.holds Try.pinned (OpenSpec.ofChange fnGridSpec)

/-- ITS FALSE NEIGHBOUR: 'it returns false'. Refute it at one input. -/
def fnGridWrong : ChangeSpec := { name := "fnGrid", fn := fun _ => fun
  | [d] => { results := [.lit (.bool false)], args := [d] }
  | _ => none }
def FnGridWrongFalsely : Prop := fnGridRow.holds Try.pinned (OpenSpec.ofChange fnGridWrong)

/-- 'laws.FnVt': WHATEVER THE INPUT: true; the input reads as it did. -/
def fnVtSpec : ChangeSpec := { name := "fnVt", fn := fun _ => fun
  | [d] => { results := [.lit (.bool true)], args := [d] }
  | _ => none }
def fnVtRow : OpenClaim := { program := "ytokbomfmkllghaa", sum := "8c505b3b459cbd119f92c9040223d3958959da1c80f080cafcb0fb88b7cee20d", func := "loop.example/g00600/laws.FnVt", spec := "fnVt", apart := false }
def FnVtSaid : Prop := fnVtRow.holds Try.pinned (OpenSpec.ofChange fnVtSpec)

/-- ITS FALSE NEIGHBOUR: 'it returns false'. Refute it at one input. -/
def fnVtWrong : ChangeSpec := { name := "fnVt", fn := fun _ => fun
  | [d] => { results := [.lit (.bool false)], args := [d] }
  | _ => none }
def FnVtWrongFalsely : Prop := fnVtRow.holds Try.pinned (OpenSpec.ofChange fnVtWrong)

/-- 'laws.FnPutRune': WHATEVER THE INPUT: true; the input reads as it did. -/
def fnPutRuneSpec : ChangeSpec := { name := "fnPutRune", fn := fun _ => fun
  | [d] => { results := [.lit (.bool true)], args := [d] }
  | _ => none }
def fnPutRuneRow : OpenClaim := { program := "ytokbomfmkllghaa", sum := "8c505b3b459cbd119f92c9040223d3958959da1c80f080cafcb0fb88b7cee20d", func := "loop.example/g00600/laws.FnPutRune", spec := "fnPutRune", apart := false }
def FnPutRuneSaid : Prop := fnPutRuneRow.holds Try.pinned (OpenSpec.ofChange fnPutRuneSpec)

/-- ITS FALSE NEIGHBOUR: 'it returns false'. Refute it at one input. -/
def fnPutRuneWrong : ChangeSpec := { name := "fnPutRune", fn := fun _ => fun
  | [d] => { results := [.lit (.bool false)], args := [d] }
  | _ => none }
def FnPutRuneWrongFalsely : Prop := fnPutRuneRow.holds Try.pinned (OpenSpec.ofChange fnPutRuneWrong)

/-- 'laws.FnExactVtByte': WHATEVER THE INPUT: true; the input reads as it did. -/
def fnExactVtByteSpec : ChangeSpec := { name := "fnExactVtByte", fn := fun _ => fun
  | [d1, d2] => { results := [.lit (.bool true)], args := [d1, d2] }
  | _ => none }
def fnExactVtByteRow : OpenClaim := { program := "ytokbomfmkllghaa", sum := "8c505b3b459cbd119f92c9040223d3958959da1c80f080cafcb0fb88b7cee20d", func := "loop.example/g00600/laws.FnExactVtByte", spec := "fnExactVtByte", apart := false }
def FnExactVtByteSaid : Prop := fnExactVtByteRow.holds Try.pinned (OpenSpec.ofChange fnExactVtByteSpec)

/-- ITS FALSE NEIGHBOUR: 'it returns false'. Refute it at one input. -/
def fnExactVtByteWrong : ChangeSpec := { name := "fnExactVtByte", fn := fun _ => fun
  | [d1, d2] => { results := [.lit (.bool false)], args := [d1, d2] }
  | _ => none }
def FnExactVtByteWrongFalsely : Prop := fnExactVtByteRow.holds Try.pinned (OpenSpec.ofChange fnExactVtByteWrong)

/-- 'laws.FnExactVtFeed': WHATEVER THE INPUT: true; the input reads as it did. -/
def fnExactVtFeedSpec : ChangeSpec := { name := "fnExactVtFeed", fn := fun _ => fun
  | [d1, d2] => { results := [.lit (.bool true)], args := [d1, d2] }
  | _ => none }
def fnExactVtFeedRow : OpenClaim := { program := "ytokbomfmkllghaa", sum := "8c505b3b459cbd119f92c9040223d3958959da1c80f080cafcb0fb88b7cee20d", func := "loop.example/g00600/laws.FnExactVtFeed", spec := "fnExactVtFeed", apart := false }
def FnExactVtFeedSaid : Prop := fnExactVtFeedRow.holds Try.pinned (OpenSpec.ofChange fnExactVtFeedSpec)

/-- ITS FALSE NEIGHBOUR: 'it returns false'. Refute it at one input. -/
def fnExactVtFeedWrong : ChangeSpec := { name := "fnExactVtFeed", fn := fun _ => fun
  | [d1, d2] => { results := [.lit (.bool false)], args := [d1, d2] }
  | _ => none }
def FnExactVtFeedWrongFalsely : Prop := fnExactVtFeedRow.holds Try.pinned (OpenSpec.ofChange fnExactVtFeedWrong)

/- THE SECOND FORM. 'bulk': how many values and letters a reading holds, each counted each time it is reached (what is shared counts as often as it is met; a slice's spare places count too). A statement '..UptoSaid' is the law's where the arguments, and the package variables that the reading takes, are together of bulk at most 1048576: NARROWER than '..Said'. Prove '..Said' where nothing that the law and all that it calls make is longer than what came in: it says more and counts as full. Else prove '..UptoSaid'. A law counts once. -/
mutual
def uptoBulk {H : Type} : DataW H → Nat
  | .lit (.string bytes) => bytes.length + 1
  | .lit _ => 1
  | .nil => 1
  | .ptr d => uptoBulk d + 1
  | .slice elems spare => uptoBulkAll elems + uptoBulkAll spare + 1
  | .agg parts => uptoBulkAll parts + 1
  | .iface _ d => uptoBulk d + 1
  | .map entries => uptoBulkEntries entries + 1
  | .held _ => 1
def uptoBulkAll {H : Type} : List (DataW H) → Nat
  | [] => 0
  | d :: r => uptoBulk d + uptoBulkAll r
def uptoBulkEntries {H : Type} : List (Lit × DataW H) → Nat
  | [] => 0
  | x :: r => uptoBulkEntry x + uptoBulkEntries r
def uptoBulkEntry {H : Type} : Lit × DataW H → Nat
  | (.string bytes, d) => bytes.length + uptoBulk d + 1
  | (_, d) => uptoBulk d + 1
 end
def uptoSmall : (H : Type) → List (DataW H) → Bool := fun _ ds => decide (uptoBulkAll ds ≤ 1048576)
def OpenSpec.upto (s : _root_.Go.ChangeSpec) : _root_.Go.OpenSpec := { _root_.Go.OpenSpec.ofChange s with cond := some uptoSmall }

/-- 'laws.FnExactGridPut', WHERE WHAT IT READS IS OF BULK AT MOST 1048576: true; the input reads as it did. -/
def fnExactGridPutUptoRow : OpenClaim := { program := "ytokbomfmkllghaa", sum := "8c505b3b459cbd119f92c9040223d3958959da1c80f080cafcb0fb88b7cee20d", func := "loop.example/g00600/laws.FnExactGridPut", spec := "fnExactGridPut", apart := false, narrowed := true }
def FnExactGridPutUptoSaid : Prop := fnExactGridPutUptoRow.holds Try.pinned (OpenSpec.upto fnExactGridPutSpec)

/-- 'laws.FnGrid', WHERE WHAT IT READS IS OF BULK AT MOST 1048576: true; the input reads as it did. -/
def fnGridUptoRow : OpenClaim := { program := "ytokbomfmkllghaa", sum := "8c505b3b459cbd119f92c9040223d3958959da1c80f080cafcb0fb88b7cee20d", func := "loop.example/g00600/laws.FnGrid", spec := "fnGrid", apart := false, narrowed := true }
def FnGridUptoSaid : Prop := fnGridUptoRow.holds Try.pinned (OpenSpec.upto fnGridSpec)

/-- 'laws.FnVt', WHERE WHAT IT READS IS OF BULK AT MOST 1048576: true; the input reads as it did. -/
def fnVtUptoRow : OpenClaim := { program := "ytokbomfmkllghaa", sum := "8c505b3b459cbd119f92c9040223d3958959da1c80f080cafcb0fb88b7cee20d", func := "loop.example/g00600/laws.FnVt", spec := "fnVt", apart := false, narrowed := true }
def FnVtUptoSaid : Prop := fnVtUptoRow.holds Try.pinned (OpenSpec.upto fnVtSpec)

/-- 'laws.FnPutRune', WHERE WHAT IT READS IS OF BULK AT MOST 1048576: true; the input reads as it did. -/
def fnPutRuneUptoRow : OpenClaim := { program := "ytokbomfmkllghaa", sum := "8c505b3b459cbd119f92c9040223d3958959da1c80f080cafcb0fb88b7cee20d", func := "loop.example/g00600/laws.FnPutRune", spec := "fnPutRune", apart := false, narrowed := true }
def FnPutRuneUptoSaid : Prop := fnPutRuneUptoRow.holds Try.pinned (OpenSpec.upto fnPutRuneSpec)

/-- 'laws.FnExactVtByte', WHERE WHAT IT READS IS OF BULK AT MOST 1048576: true; the input reads as it did. -/
def fnExactVtByteUptoRow : OpenClaim := { program := "ytokbomfmkllghaa", sum := "8c505b3b459cbd119f92c9040223d3958959da1c80f080cafcb0fb88b7cee20d", func := "loop.example/g00600/laws.FnExactVtByte", spec := "fnExactVtByte", apart := false, narrowed := true }
def FnExactVtByteUptoSaid : Prop := fnExactVtByteUptoRow.holds Try.pinned (OpenSpec.upto fnExactVtByteSpec)

/-- 'laws.FnExactVtFeed', WHERE WHAT IT READS IS OF BULK AT MOST 1048576: true; the input reads as it did. -/
def fnExactVtFeedUptoRow : OpenClaim := { program := "ytokbomfmkllghaa", sum := "8c505b3b459cbd119f92c9040223d3958959da1c80f080cafcb0fb88b7cee20d", func := "loop.example/g00600/laws.FnExactVtFeed", spec := "fnExactVtFeed", apart := false, narrowed := true }
def FnExactVtFeedUptoSaid : Prop := fnExactVtFeedUptoRow.holds Try.pinned (OpenSpec.upto fnExactVtFeedSpec)

end Rows
end Go.Proofs.Ytokbomfmkllghaa
