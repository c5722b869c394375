/-
  No cell of these rows narrows 'for every input' (looked for: loops, veiled, ifaces, maps, wideKeys, modest, calm, conditions, laid).
  DERIVED. THE GIVEN ROWS OF THIS SEAT. 7 by the template 'for every input the law returns true; each argument reads behind the call as it read before'; 0 by the template 'total and deterministic' (their statements: YtfpkjlgpjhlbbaaTotals.lean).
  GIVEN WITH THE SEED: the statements are not yours to turn. If you find one false, say at which input.
  Laid BY PROGRAM, IN A SANDBOX (cutbox-rows.mjs): the forced cells as the released guide's own fill.sh prints them over the translation ab3f80ef0b5a0d50… (all of the seat's roots in one cut). By AI agents, Wed Nov 11 2026. No macro, syntax, notation, axiom, sorry.
-/
import Derived.Test.YtfpkjlgpjhlbbaaChecked
import GoSem.Claim
import GoSem.ClaimJoined
import GoSem.ClaimMapViews
import Derived.JoinedTies
import Derived.KernelRfl
namespace Go.Proofs.Ytfpkjlgpjhlbbaa
/- THE CELL 'sum', in the pinned program and in every row, IS THE sha256 OF THE DUMP (.gsa) THAT YtfpkjlgpjhlbbaaProg.lean LOADS. Nothing in Lean hashes anything: it is a label: what it is worth is what the hold of that sum in a sandbox is worth. -/
noncomputable def Try.pinned : Pinned := { name := "ytfpkjlgpjhlbbaa", sum := "ab3f80ef0b5a0d50cf28a22bc625c9544a006126c777c35b2e8cd7009fd62faf", checked := Try.checked }
namespace Rows
def none {H : Type} : Left H := { results := [], args := [] }

/-- 'laws.FnExactShName': WHATEVER THE INPUT: true; the input reads as it did. -/
def fnExactShNameSpec : ChangeSpec := { name := "fnExactShName", fn := fun _ => fun
  | [d] => { results := [.lit (.bool true)], args := [d] }
  | _ => none }
def fnExactShNameRow : OpenClaim := { program := "ytfpkjlgpjhlbbaa", sum := "ab3f80ef0b5a0d50cf28a22bc625c9544a006126c777c35b2e8cd7009fd62faf", func := "loop.example/g00600/laws.FnExactShName", spec := "fnExactShName", apart := false }
def FnExactShNameSaid : Prop := fnExactShNameRow.holds Try.pinned (OpenSpec.ofChange fnExactShNameSpec)

/-- ITS FALSE NEIGHBOUR: 'it returns false'. Refute it at one input. -/
def fnExactShNameWrong : ChangeSpec := { name := "fnExactShName", fn := fun _ => fun
  | [d] => { results := [.lit (.bool false)], args := [d] }
  | _ => none }
def FnExactShNameWrongFalsely : Prop := fnExactShNameRow.holds Try.pinned (OpenSpec.ofChange fnExactShNameWrong)

/-- 'laws.FnExactHowOf': WHATEVER THE INPUT: true; the input reads as it did. -/
def fnExactHowOfSpec : ChangeSpec := { name := "fnExactHowOf", fn := fun _ => fun
  | [d] => { results := [.lit (.bool true)], args := [d] }
  | _ => none }
def fnExactHowOfRow : OpenClaim := { program := "ytfpkjlgpjhlbbaa", sum := "ab3f80ef0b5a0d50cf28a22bc625c9544a006126c777c35b2e8cd7009fd62faf", func := "loop.example/g00600/laws.FnExactHowOf", spec := "fnExactHowOf", apart := false }
def FnExactHowOfSaid : Prop := fnExactHowOfRow.holds Try.pinned (OpenSpec.ofChange fnExactHowOfSpec)

/-- ITS FALSE NEIGHBOUR: 'it returns false'. Refute it at one input. -/
def fnExactHowOfWrong : ChangeSpec := { name := "fnExactHowOf", fn := fun _ => fun
  | [d] => { results := [.lit (.bool false)], args := [d] }
  | _ => none }
def FnExactHowOfWrongFalsely : Prop := fnExactHowOfRow.holds Try.pinned (OpenSpec.ofChange fnExactHowOfWrong)

/-- 'laws.FnExactSkipTick': WHATEVER THE INPUT: true; the input reads as it did. -/
def fnExactSkipTickSpec : ChangeSpec := { name := "fnExactSkipTick", fn := fun _ => fun
  | [d1, d2] => { results := [.lit (.bool true)], args := [d1, d2] }
  | _ => none }
def fnExactSkipTickRow : OpenClaim := { program := "ytfpkjlgpjhlbbaa", sum := "ab3f80ef0b5a0d50cf28a22bc625c9544a006126c777c35b2e8cd7009fd62faf", func := "loop.example/g00600/laws.FnExactSkipTick", spec := "fnExactSkipTick", apart := false }
def FnExactSkipTickSaid : Prop := fnExactSkipTickRow.holds Try.pinned (OpenSpec.ofChange fnExactSkipTickSpec)

/-- ITS FALSE NEIGHBOUR: 'it returns false'. Refute it at one input. -/
def fnExactSkipTickWrong : ChangeSpec := { name := "fnExactSkipTick", fn := fun _ => fun
  | [d1, d2] => { results := [.lit (.bool false)], args := [d1, d2] }
  | _ => none }
def FnExactSkipTickWrongFalsely : Prop := fnExactSkipTickRow.holds Try.pinned (OpenSpec.ofChange fnExactSkipTickWrong)

/-- 'laws.FnExactSkipSingle': WHATEVER THE INPUT: true; the input reads as it did. -/
def fnExactSkipSingleSpec : ChangeSpec := { name := "fnExactSkipSingle", fn := fun _ => fun
  | [d1, d2] => { results := [.lit (.bool true)], args := [d1, d2] }
  | _ => none }
def fnExactSkipSingleRow : OpenClaim := { program := "ytfpkjlgpjhlbbaa", sum := "ab3f80ef0b5a0d50cf28a22bc625c9544a006126c777c35b2e8cd7009fd62faf", func := "loop.example/g00600/laws.FnExactSkipSingle", spec := "fnExactSkipSingle", inPlace := ["internal/bytealg.IndexByteString"], apart := false }
def FnExactSkipSingleSaid : Prop := fnExactSkipSingleRow.holds Try.pinned (OpenSpec.ofChange fnExactSkipSingleSpec)

/-- ITS FALSE NEIGHBOUR: 'it returns false'. Refute it at one input. -/
def fnExactSkipSingleWrong : ChangeSpec := { name := "fnExactSkipSingle", fn := fun _ => fun
  | [d1, d2] => { results := [.lit (.bool false)], args := [d1, d2] }
  | _ => none }
def FnExactSkipSingleWrongFalsely : Prop := fnExactSkipSingleRow.holds Try.pinned (OpenSpec.ofChange fnExactSkipSingleWrong)

/-- 'laws.FnExactSkipSum': WHATEVER THE INPUT: true; the input reads as it did. -/
def fnExactSkipSumSpec : ChangeSpec := { name := "fnExactSkipSum", fn := fun _ => fun
  | [d1, d2] => { results := [.lit (.bool true)], args := [d1, d2] }
  | _ => none }
def fnExactSkipSumRow : OpenClaim := { program := "ytfpkjlgpjhlbbaa", sum := "ab3f80ef0b5a0d50cf28a22bc625c9544a006126c777c35b2e8cd7009fd62faf", func := "loop.example/g00600/laws.FnExactSkipSum", spec := "fnExactSkipSum", apart := false }
def FnExactSkipSumSaid : Prop := fnExactSkipSumRow.holds Try.pinned (OpenSpec.ofChange fnExactSkipSumSpec)

/-- ITS FALSE NEIGHBOUR: 'it returns false'. Refute it at one input. -/
def fnExactSkipSumWrong : ChangeSpec := { name := "fnExactSkipSum", fn := fun _ => fun
  | [d1, d2] => { results := [.lit (.bool false)], args := [d1, d2] }
  | _ => none }
def FnExactSkipSumWrongFalsely : Prop := fnExactSkipSumRow.holds Try.pinned (OpenSpec.ofChange fnExactSkipSumWrong)

/-- 'laws.FnExactRefAt': WHATEVER THE INPUT: true; the input reads as it did. -/
def fnExactRefAtSpec : ChangeSpec := { name := "fnExactRefAt", fn := fun _ => fun
  | [d1, d2] => { results := [.lit (.bool true)], args := [d1, d2] }
  | _ => none }
def fnExactRefAtRow : OpenClaim := { program := "ytfpkjlgpjhlbbaa", sum := "ab3f80ef0b5a0d50cf28a22bc625c9544a006126c777c35b2e8cd7009fd62faf", func := "loop.example/g00600/laws.FnExactRefAt", spec := "fnExactRefAt", inPlace := ["internal/bytealg.IndexByteString"], apart := false }
def FnExactRefAtSaid : Prop := fnExactRefAtRow.holds Try.pinned (OpenSpec.ofChange fnExactRefAtSpec)

/-- ITS FALSE NEIGHBOUR: 'it returns false'. Refute it at one input. -/
def fnExactRefAtWrong : ChangeSpec := { name := "fnExactRefAt", fn := fun _ => fun
  | [d1, d2] => { results := [.lit (.bool false)], args := [d1, d2] }
  | _ => none }
def FnExactRefAtWrongFalsely : Prop := fnExactRefAtRow.holds Try.pinned (OpenSpec.ofChange fnExactRefAtWrong)

/-- 'laws.FnExactFindTo': WHATEVER THE INPUT: true; the input reads as it did. -/
def fnExactFindToSpec : ChangeSpec := { name := "fnExactFindTo", fn := fun _ => fun
  | [d1, d2, d3, d4, d5] => { results := [.lit (.bool true)], args := [d1, d2, d3, d4, d5] }
  | _ => none }
def fnExactFindToRow : OpenClaim := { program := "ytfpkjlgpjhlbbaa", sum := "ab3f80ef0b5a0d50cf28a22bc625c9544a006126c777c35b2e8cd7009fd62faf", func := "loop.example/g00600/laws.FnExactFindTo", spec := "fnExactFindTo", apart := false }
def FnExactFindToSaid : Prop := fnExactFindToRow.holds Try.pinned (OpenSpec.ofChange fnExactFindToSpec)

/-- ITS FALSE NEIGHBOUR: 'it returns false'. Refute it at one input. -/
def fnExactFindToWrong : ChangeSpec := { name := "fnExactFindTo", fn := fun _ => fun
  | [d1, d2, d3, d4, d5] => { results := [.lit (.bool false)], args := [d1, d2, d3, d4, d5] }
  | _ => none }
def FnExactFindToWrongFalsely : Prop := fnExactFindToRow.holds Try.pinned (OpenSpec.ofChange fnExactFindToWrong)

/- THE SECOND FORM. 'bulk': how many values and letters a reading holds, each counted each time it is reached (what is shared counts as often as it is met; a slice's spare places count too). A statement '..UptoSaid' is the law's where the arguments, and the package variables that the reading takes, are together of bulk at most 1048576: NARROWER than '..Said'. Prove '..Said' where nothing that the law and all that it calls make is longer than what came in: it says more and counts as full. Else prove '..UptoSaid'. A law counts once. -/
mutual
def uptoBulk {H : Type} : DataW H → Nat
  | .lit (.string bytes) => bytes.length + 1
  | .lit _ => 1
  | .nil => 1
  | .ptr d => uptoBulk d + 1
  | .slice elems spare => uptoBulkAll elems + uptoBulkAll spare + 1
  | .agg parts => uptoBulkAll parts + 1
  | .iface _ d => uptoBulk d + 1
  | .map entries => uptoBulkEntries entries + 1
  | .held _ => 1
def uptoBulkAll {H : Type} : List (DataW H) → Nat
  | [] => 0
  | d :: r => uptoBulk d + uptoBulkAll r
def uptoBulkEntries {H : Type} : List (Lit × DataW H) → Nat
  | [] => 0
  | x :: r => uptoBulkEntry x + uptoBulkEntries r
def uptoBulkEntry {H : Type} : Lit × DataW H → Nat
  | (.string bytes, d) => bytes.length + uptoBulk d + 1
  | (_, d) => uptoBulk d + 1
 end
def uptoSmall : (H : Type) → List (DataW H) → Bool := fun _ ds => decide (uptoBulkAll ds ≤ 1048576)
def OpenSpec.upto (s : _root_.Go.ChangeSpec) : _root_.Go.OpenSpec := { _root_.Go.OpenSpec.ofChange s with cond := some uptoSmall }

/-- 'laws.FnExactShName', WHERE WHAT IT READS IS OF BULK AT MOST 1048576: true; the input reads as it did. -/
def fnExactShNameUptoRow : OpenClaim := { program := "ytfpkjlgpjhlbbaa", sum := "ab3f80ef0b5a0d50cf28a22bc625c9544a006126c777c35b2e8cd7009fd62faf", func := "loop.example/g00600/laws.FnExactShName", spec := "fnExactShName", apart := false, narrowed := true }
def FnExactShNameUptoSaid : Prop := fnExactShNameUptoRow.holds Try.pinned (OpenSpec.upto fnExactShNameSpec)

/-- 'laws.FnExactHowOf', WHERE WHAT IT READS IS OF BULK AT MOST 1048576: true; the input reads as it did. -/
def fnExactHowOfUptoRow : OpenClaim := { program := "ytfpkjlgpjhlbbaa", sum := "ab3f80ef0b5a0d50cf28a22bc625c9544a006126c777c35b2e8cd7009fd62faf", func := "loop.example/g00600/laws.FnExactHowOf", spec := "fnExactHowOf", apart := false, narrowed := true }
def FnExactHowOfUptoSaid : Prop := fnExactHowOfUptoRow.holds Try.pinned (OpenSpec.upto fnExactHowOfSpec)

/-- 'laws.FnExactSkipTick', WHERE WHAT IT READS IS OF BULK AT MOST 1048576: true; the input reads as it did. -/
def fnExactSkipTickUptoRow : OpenClaim := { program := "ytfpkjlgpjhlbbaa", sum := "ab3f80ef0b5a0d50cf28a22bc625c9544a006126c777c35b2e8cd7009fd62faf", func := "loop.example/g00600/laws.FnExactSkipTick", spec := "fnExactSkipTick", apart := false, narrowed := true }
def FnExactSkipTickUptoSaid : Prop := fnExactSkipTickUptoRow.holds Try.pinned (OpenSpec.upto fnExactSkipTickSpec)

/-- 'laws.FnExactSkipSingle', WHERE WHAT IT READS IS OF BULK AT MOST 1048576: true; the input reads as it did. -/
def fnExactSkipSingleUptoRow : OpenClaim := { program := "ytfpkjlgpjhlbbaa", sum := "ab3f80ef0b5a0d50cf28a22bc625c9544a006126c777c35b2e8cd7009fd62faf", func := "loop.example/g00600/laws.FnExactSkipSingle", spec := "fnExactSkipSingle", inPlace := ["internal/bytealg.IndexByteString"], apart := false, narrowed := true }
def FnExactSkipSingleUptoSaid : Prop := fnExactSkipSingleUptoRow.holds Try.pinned (OpenSpec.upto fnExactSkipSingleSpec)

/-- 'laws.FnExactSkipSum', WHERE WHAT IT READS IS OF BULK AT MOST 1048576: true; the input reads as it did. -/
def fnExactSkipSumUptoRow : OpenClaim := { program := "ytfpkjlgpjhlbbaa", sum := "ab3f80ef0b5a0d50cf28a22bc625c9544a006126c777c35b2e8cd7009fd62faf", func := "loop.example/g00600/laws.FnExactSkipSum", spec := "fnExactSkipSum", apart := false, narrowed := true }
def FnExactSkipSumUptoSaid : Prop := fnExactSkipSumUptoRow.holds Try.pinned (OpenSpec.upto fnExactSkipSumSpec)

/-- 'laws.FnExactRefAt', WHERE WHAT IT READS IS OF BULK AT MOST 1048576: true; the input reads as it did. -/
def fnExactRefAtUptoRow : OpenClaim := { program := "ytfpkjlgpjhlbbaa", sum := "ab3f80ef0b5a0d50cf28a22bc625c9544a006126c777c35b2e8cd7009fd62faf", func := "loop.example/g00600/laws.FnExactRefAt", spec := "fnExactRefAt", inPlace := ["internal/bytealg.IndexByteString"], apart := false, narrowed := true }
def FnExactRefAtUptoSaid : Prop := fnExactRefAtUptoRow.holds Try.pinned (OpenSpec.upto fnExactRefAtSpec)

/-- 'laws.FnExactFindTo', WHERE WHAT IT READS IS OF BULK AT MOST 1048576: true; the input reads as it did. -/
def fnExactFindToUptoRow : OpenClaim := { program := "ytfpkjlgpjhlbbaa", sum := "ab3f80ef0b5a0d50cf28a22bc625c9544a006126c777c35b2e8cd7009fd62faf", func := "loop.example/g00600/laws.FnExactFindTo", spec := "fnExactFindTo", apart := false, narrowed := true }
def FnExactFindToUptoSaid : Prop := fnExactFindToUptoRow.holds Try.pinned (OpenSpec.upto fnExactFindToSpec)

end Rows
end Go.Proofs.Ytfpkjlgpjhlbbaa
