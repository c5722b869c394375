/-
  No cell of these rows narrows 'for every input' (looked for: loops, veiled, ifaces, maps, wideKeys, modest, calm, conditions, laid).
  DERIVED. THE GIVEN ROWS OF THIS SEAT. 8 by the template 'for every input the law returns true; each argument reads behind the call as it read before'; 0 by the template 'total and deterministic' (their statements: YtamjkgjmefknkaaTotals.lean).
  GIVEN WITH THE SEED: the statements are not yours to turn. If you find one false, say at which input.
  Laid BY PROGRAM, IN A SANDBOX (cutbox-rows.mjs): the forced cells as the released guide's own fill.sh prints them over the translation 1d4ea3ffffa270f7… (all of the seat's roots in one cut). By AI agents, Wed Nov 11 2026. No macro, syntax, notation, axiom, sorry.
-/
import Derived.Test.YtamjkgjmefknkaaChecked
import GoSem.Claim
import GoSem.ClaimJoined
import GoSem.ClaimMapViews
import Derived.JoinedTies
import Derived.KernelRfl
namespace Go.Proofs.Ytamjkgjmefknkaa
/- THE CELL 'sum', in the pinned program and in every row, IS THE sha256 OF THE DUMP (.gsa) THAT YtamjkgjmefknkaaProg.lean LOADS. Nothing in Lean hashes anything: it is a label: what it is worth is what the hold of that sum in a sandbox is worth. -/
noncomputable def Try.pinned : Pinned := { name := "ytamjkgjmefknkaa", sum := "1d4ea3ffffa270f7e272920df7e1dc61a44cf3311ac79534b44fae2f1944907e", checked := Try.checked }
namespace Rows
def none {H : Type} : Left H := { results := [], args := [] }

/-- 'laws.FnFind': WHATEVER THE INPUT: true; the input reads as it did. -/
def fnFindSpec : ChangeSpec := { name := "fnFind", fn := fun _ => fun
  | [d] => { results := [.lit (.bool true)], args := [d] }
  | _ => none }
def fnFindRow : OpenClaim := { program := "ytamjkgjmefknkaa", sum := "1d4ea3ffffa270f7e272920df7e1dc61a44cf3311ac79534b44fae2f1944907e", func := "loop.example/g00600/laws.FnFind", spec := "fnFind", apart := false }
def FnFindSaid : Prop := fnFindRow.holds Try.pinned (OpenSpec.ofChange fnFindSpec)

/-- ITS FALSE NEIGHBOUR: 'it returns false'. Refute it at one input. -/
def fnFindWrong : ChangeSpec := { name := "fnFind", fn := fun _ => fun
  | [d] => { results := [.lit (.bool false)], args := [d] }
  | _ => none }
def FnFindWrongFalsely : Prop := fnFindRow.holds Try.pinned (OpenSpec.ofChange fnFindWrong)

/-- 'laws.FnMotion': WHATEVER THE INPUT: true; the input reads as it did. -/
def fnMotionSpec : ChangeSpec := { name := "fnMotion", fn := fun _ => fun
  | [d] => { results := [.lit (.bool true)], args := [d] }
  | _ => none }
def fnMotionRow : OpenClaim := { program := "ytamjkgjmefknkaa", sum := "1d4ea3ffffa270f7e272920df7e1dc61a44cf3311ac79534b44fae2f1944907e", func := "loop.example/g00600/laws.FnMotion", spec := "fnMotion", unfollowed := true, recurses := true, apart := false }
def FnMotionSaid : Prop := fnMotionRow.holds Try.pinned (OpenSpec.ofChange fnMotionSpec)

/-- ITS FALSE NEIGHBOUR: 'it returns false'. Refute it at one input. -/
def fnMotionWrong : ChangeSpec := { name := "fnMotion", fn := fun _ => fun
  | [d] => { results := [.lit (.bool false)], args := [d] }
  | _ => none }
def FnMotionWrongFalsely : Prop := fnMotionRow.holds Try.pinned (OpenSpec.ofChange fnMotionWrong)

/-- 'laws.FnExactMotionTo': WHATEVER THE INPUT: true; the input reads as it did. -/
def fnExactMotionToSpec : ChangeSpec := { name := "fnExactMotionTo", fn := fun _ => fun
  | [d1, d2, d3, d4] => { results := [.lit (.bool true)], args := [d1, d2, d3, d4] }
  | _ => none }
def fnExactMotionToRow : OpenClaim := { program := "ytamjkgjmefknkaa", sum := "1d4ea3ffffa270f7e272920df7e1dc61a44cf3311ac79534b44fae2f1944907e", func := "loop.example/g00600/laws.FnExactMotionTo", spec := "fnExactMotionTo", unfollowed := true, recurses := true, apart := false }
def FnExactMotionToSaid : Prop := fnExactMotionToRow.holds Try.pinned (OpenSpec.ofChange fnExactMotionToSpec)

/-- ITS FALSE NEIGHBOUR: 'it returns false'. Refute it at one input. -/
def fnExactMotionToWrong : ChangeSpec := { name := "fnExactMotionTo", fn := fun _ => fun
  | [d1, d2, d3, d4] => { results := [.lit (.bool false)], args := [d1, d2, d3, d4] }
  | _ => none }
def FnExactMotionToWrongFalsely : Prop := fnExactMotionToRow.holds Try.pinned (OpenSpec.ofChange fnExactMotionToWrong)

/-- 'laws.FnExactEdNew': WHATEVER THE INPUT: true; the input reads as it did. -/
def fnExactEdNewSpec : ChangeSpec := { name := "fnExactEdNew", fn := fun _ => fun
  | [d] => { results := [.lit (.bool true)], args := [d] }
  | _ => none }
def fnExactEdNewRow : OpenClaim := { program := "ytamjkgjmefknkaa", sum := "1d4ea3ffffa270f7e272920df7e1dc61a44cf3311ac79534b44fae2f1944907e", func := "loop.example/g00600/laws.FnExactEdNew", spec := "fnExactEdNew", apart := false }
def FnExactEdNewSaid : Prop := fnExactEdNewRow.holds Try.pinned (OpenSpec.ofChange fnExactEdNewSpec)

/-- ITS FALSE NEIGHBOUR: 'it returns false'. Refute it at one input. -/
def fnExactEdNewWrong : ChangeSpec := { name := "fnExactEdNew", fn := fun _ => fun
  | [d] => { results := [.lit (.bool false)], args := [d] }
  | _ => none }
def FnExactEdNewWrongFalsely : Prop := fnExactEdNewRow.holds Try.pinned (OpenSpec.ofChange fnExactEdNewWrong)

/-- 'laws.FnExactEdOk': WHATEVER THE INPUT: true; the input reads as it did. -/
def fnExactEdOkSpec : ChangeSpec := { name := "fnExactEdOk", fn := fun _ => fun
  | [d] => { results := [.lit (.bool true)], args := [d] }
  | _ => none }
def fnExactEdOkRow : OpenClaim := { program := "ytamjkgjmefknkaa", sum := "1d4ea3ffffa270f7e272920df7e1dc61a44cf3311ac79534b44fae2f1944907e", func := "loop.example/g00600/laws.FnExactEdOk", spec := "fnExactEdOk", apart := false }
def FnExactEdOkSaid : Prop := fnExactEdOkRow.holds Try.pinned (OpenSpec.ofChange fnExactEdOkSpec)

/-- ITS FALSE NEIGHBOUR: 'it returns false'. Refute it at one input. -/
def fnExactEdOkWrong : ChangeSpec := { name := "fnExactEdOk", fn := fun _ => fun
  | [d] => { results := [.lit (.bool false)], args := [d] }
  | _ => none }
def FnExactEdOkWrongFalsely : Prop := fnExactEdOkRow.holds Try.pinned (OpenSpec.ofChange fnExactEdOkWrong)

/-- 'laws.FnExactEdFresh': WHATEVER THE INPUT: true; the input reads as it did. -/
def fnExactEdFreshSpec : ChangeSpec := { name := "fnExactEdFresh", fn := fun _ => fun
  | [d] => { results := [.lit (.bool true)], args := [d] }
  | _ => none }
def fnExactEdFreshRow : OpenClaim := { program := "ytamjkgjmefknkaa", sum := "1d4ea3ffffa270f7e272920df7e1dc61a44cf3311ac79534b44fae2f1944907e", func := "loop.example/g00600/laws.FnExactEdFresh", spec := "fnExactEdFresh", apart := false }
def FnExactEdFreshSaid : Prop := fnExactEdFreshRow.holds Try.pinned (OpenSpec.ofChange fnExactEdFreshSpec)

/-- ITS FALSE NEIGHBOUR: 'it returns false'. Refute it at one input. -/
def fnExactEdFreshWrong : ChangeSpec := { name := "fnExactEdFresh", fn := fun _ => fun
  | [d] => { results := [.lit (.bool false)], args := [d] }
  | _ => none }
def FnExactEdFreshWrongFalsely : Prop := fnExactEdFreshRow.holds Try.pinned (OpenSpec.ofChange fnExactEdFreshWrong)

/-- 'laws.FnExactLeave': WHATEVER THE INPUT: true; the input reads as it did. -/
def fnExactLeaveSpec : ChangeSpec := { name := "fnExactLeave", fn := fun _ => fun
  | [d] => { results := [.lit (.bool true)], args := [d] }
  | _ => none }
def fnExactLeaveRow : OpenClaim := { program := "ytamjkgjmefknkaa", sum := "1d4ea3ffffa270f7e272920df7e1dc61a44cf3311ac79534b44fae2f1944907e", func := "loop.example/g00600/laws.FnExactLeave", spec := "fnExactLeave", apart := false }
def FnExactLeaveSaid : Prop := fnExactLeaveRow.holds Try.pinned (OpenSpec.ofChange fnExactLeaveSpec)

/-- ITS FALSE NEIGHBOUR: 'it returns false'. Refute it at one input. -/
def fnExactLeaveWrong : ChangeSpec := { name := "fnExactLeave", fn := fun _ => fun
  | [d] => { results := [.lit (.bool false)], args := [d] }
  | _ => none }
def FnExactLeaveWrongFalsely : Prop := fnExactLeaveRow.holds Try.pinned (OpenSpec.ofChange fnExactLeaveWrong)

/-- 'laws.FnExactEdSet': WHATEVER THE INPUT: true; the input reads as it did. -/
def fnExactEdSetSpec : ChangeSpec := { name := "fnExactEdSet", fn := fun _ => fun
  | [d1, d2, d3] => { results := [.lit (.bool true)], args := [d1, d2, d3] }
  | _ => none }
def fnExactEdSetRow : OpenClaim := { program := "ytamjkgjmefknkaa", sum := "1d4ea3ffffa270f7e272920df7e1dc61a44cf3311ac79534b44fae2f1944907e", func := "loop.example/g00600/laws.FnExactEdSet", spec := "fnExactEdSet", apart := false }
def FnExactEdSetSaid : Prop := fnExactEdSetRow.holds Try.pinned (OpenSpec.ofChange fnExactEdSetSpec)

/-- ITS FALSE NEIGHBOUR: 'it returns false'. Refute it at one input. -/
def fnExactEdSetWrong : ChangeSpec := { name := "fnExactEdSet", fn := fun _ => fun
  | [d1, d2, d3] => { results := [.lit (.bool false)], args := [d1, d2, d3] }
  | _ => none }
def FnExactEdSetWrongFalsely : Prop := fnExactEdSetRow.holds Try.pinned (OpenSpec.ofChange fnExactEdSetWrong)

/- THE SECOND FORM. 'bulk': how many values and letters a reading holds, each counted each time it is reached (what is shared counts as often as it is met; a slice's spare places count too). A statement '..UptoSaid' is the law's where the arguments, and the package variables that the reading takes, are together of bulk at most 1048576: NARROWER than '..Said'. Prove '..Said' where nothing that the law and all that it calls make is longer than what came in: it says more and counts as full. Else prove '..UptoSaid'. A law counts once. -/
mutual
def uptoBulk {H : Type} : DataW H → Nat
  | .lit (.string bytes) => bytes.length + 1
  | .lit _ => 1
  | .nil => 1
  | .ptr d => uptoBulk d + 1
  | .slice elems spare => uptoBulkAll elems + uptoBulkAll spare + 1
  | .agg parts => uptoBulkAll parts + 1
  | .iface _ d => uptoBulk d + 1
  | .map entries => uptoBulkEntries entries + 1
  | .held _ => 1
def uptoBulkAll {H : Type} : List (DataW H) → Nat
  | [] => 0
  | d :: r => uptoBulk d + uptoBulkAll r
def uptoBulkEntries {H : Type} : List (Lit × DataW H) → Nat
  | [] => 0
  | x :: r => uptoBulkEntry x + uptoBulkEntries r
def uptoBulkEntry {H : Type} : Lit × DataW H → Nat
  | (.string bytes, d) => bytes.length + uptoBulk d + 1
  | (_, d) => uptoBulk d + 1
 end
def uptoSmall : (H : Type) → List (DataW H) → Bool := fun _ ds => decide (uptoBulkAll ds ≤ 1048576)
def OpenSpec.upto (s : _root_.Go.ChangeSpec) : _root_.Go.OpenSpec := { _root_.Go.OpenSpec.ofChange s with cond := some uptoSmall }

/-- 'laws.FnFind', WHERE WHAT IT READS IS OF BULK AT MOST 1048576: true; the input reads as it did. -/
def fnFindUptoRow : OpenClaim := { program := "ytamjkgjmefknkaa", sum := "1d4ea3ffffa270f7e272920df7e1dc61a44cf3311ac79534b44fae2f1944907e", func := "loop.example/g00600/laws.FnFind", spec := "fnFind", apart := false, narrowed := true }
def FnFindUptoSaid : Prop := fnFindUptoRow.holds Try.pinned (OpenSpec.upto fnFindSpec)

/-- 'laws.FnMotion', WHERE WHAT IT READS IS OF BULK AT MOST 1048576: true; the input reads as it did. -/
def fnMotionUptoRow : OpenClaim := { program := "ytamjkgjmefknkaa", sum := "1d4ea3ffffa270f7e272920df7e1dc61a44cf3311ac79534b44fae2f1944907e", func := "loop.example/g00600/laws.FnMotion", spec := "fnMotion", unfollowed := true, recurses := true, apart := false, narrowed := true }
def FnMotionUptoSaid : Prop := fnMotionUptoRow.holds Try.pinned (OpenSpec.upto fnMotionSpec)

/-- 'laws.FnExactMotionTo', WHERE WHAT IT READS IS OF BULK AT MOST 1048576: true; the input reads as it did. -/
def fnExactMotionToUptoRow : OpenClaim := { program := "ytamjkgjmefknkaa", sum := "1d4ea3ffffa270f7e272920df7e1dc61a44cf3311ac79534b44fae2f1944907e", func := "loop.example/g00600/laws.FnExactMotionTo", spec := "fnExactMotionTo", unfollowed := true, recurses := true, apart := false, narrowed := true }
def FnExactMotionToUptoSaid : Prop := fnExactMotionToUptoRow.holds Try.pinned (OpenSpec.upto fnExactMotionToSpec)

/-- 'laws.FnExactEdNew', WHERE WHAT IT READS IS OF BULK AT MOST 1048576: true; the input reads as it did. -/
def fnExactEdNewUptoRow : OpenClaim := { program := "ytamjkgjmefknkaa", sum := "1d4ea3ffffa270f7e272920df7e1dc61a44cf3311ac79534b44fae2f1944907e", func := "loop.example/g00600/laws.FnExactEdNew", spec := "fnExactEdNew", apart := false, narrowed := true }
def FnExactEdNewUptoSaid : Prop := fnExactEdNewUptoRow.holds Try.pinned (OpenSpec.upto fnExactEdNewSpec)

/-- 'laws.FnExactEdOk', WHERE WHAT IT READS IS OF BULK AT MOST 1048576: true; the input reads as it did. -/
def fnExactEdOkUptoRow : OpenClaim := { program := "ytamjkgjmefknkaa", sum := "1d4ea3ffffa270f7e272920df7e1dc61a44cf3311ac79534b44fae2f1944907e", func := "loop.example/g00600/laws.FnExactEdOk", spec := "fnExactEdOk", apart := false, narrowed := true }
def FnExactEdOkUptoSaid : Prop := fnExactEdOkUptoRow.holds Try.pinned (OpenSpec.upto fnExactEdOkSpec)

/-- 'laws.FnExactEdFresh', WHERE WHAT IT READS IS OF BULK AT MOST 1048576: true; the input reads as it did. -/
def fnExactEdFreshUptoRow : OpenClaim := { program := "ytamjkgjmefknkaa", sum := "1d4ea3ffffa270f7e272920df7e1dc61a44cf3311ac79534b44fae2f1944907e", func := "loop.example/g00600/laws.FnExactEdFresh", spec := "fnExactEdFresh", apart := false, narrowed := true }
def FnExactEdFreshUptoSaid : Prop := fnExactEdFreshUptoRow.holds Try.pinned (OpenSpec.upto fnExactEdFreshSpec)

/-- 'laws.FnExactLeave', WHERE WHAT IT READS IS OF BULK AT MOST 1048576: true; the input reads as it did. -/
def fnExactLeaveUptoRow : OpenClaim := { program := "ytamjkgjmefknkaa", sum := "1d4ea3ffffa270f7e272920df7e1dc61a44cf3311ac79534b44fae2f1944907e", func := "loop.example/g00600/laws.FnExactLeave", spec := "fnExactLeave", apart := false, narrowed := true }
def FnExactLeaveUptoSaid : Prop := fnExactLeaveUptoRow.holds Try.pinned (OpenSpec.upto fnExactLeaveSpec)

/-- 'laws.FnExactEdSet', WHERE WHAT IT READS IS OF BULK AT MOST 1048576: true; the input reads as it did. -/
def fnExactEdSetUptoRow : OpenClaim := { program := "ytamjkgjmefknkaa", sum := "1d4ea3ffffa270f7e272920df7e1dc61a44cf3311ac79534b44fae2f1944907e", func := "loop.example/g00600/laws.FnExactEdSet", spec := "fnExactEdSet", apart := false, narrowed := true }
def FnExactEdSetUptoSaid : Prop := fnExactEdSetUptoRow.holds Try.pinned (OpenSpec.upto fnExactEdSetSpec)

end Rows
end Go.Proofs.Ytamjkgjmefknkaa
