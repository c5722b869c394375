/-
  No cell of these rows narrows 'for every input' (looked for: loops, veiled, ifaces, maps, wideKeys, modest, calm, conditions, laid).
  DERIVED. THE GIVEN ROWS OF THIS SEAT. 5 by the template 'for every input the law returns true; each argument reads behind the call as it read before'; 0 by the template 'total and deterministic' (their statements: YtgpolgjhiknefaaTotals.lean).
  GIVEN WITH THE SEED: the statements are not yours to turn. If you find one false, say at which input.
  Laid BY PROGRAM, IN A SANDBOX (cutbox-rows.mjs): the forced cells as the released guide's own fill.sh prints them over the translation 00d7c767c4b91566… (all of the seat's roots in one cut). By AI agents, Wed Nov 11 2026. No macro, syntax, notation, axiom, sorry.
-/
import Derived.Test.YtgpolgjhiknefaaChecked
import GoSem.Claim
import GoSem.ClaimJoined
import GoSem.ClaimMapViews
import Derived.JoinedTies
import Derived.KernelRfl
namespace Go.Proofs.Ytgpolgjhiknefaa
/- THE CELL 'sum', in the pinned program and in every row, IS THE sha256 OF THE DUMP (.gsa) THAT YtgpolgjhiknefaaProg.lean LOADS. Nothing in Lean hashes anything: it is a label: what it is worth is what the hold of that sum in a sandbox is worth. -/
noncomputable def Try.pinned : Pinned := { name := "ytgpolgjhiknefaa", sum := "00d7c767c4b915665f5d2141832ebf00dce6f38dc1261e64e73805df26bab05d", checked := Try.checked }
namespace Rows
def none {H : Type} : Left H := { results := [], args := [] }

/-- 'laws.FnExactDecTick': WHATEVER THE INPUT: true; the input reads as it did. -/
def fnExactDecTickSpec : ChangeSpec := { name := "fnExactDecTick", fn := fun _ => fun
  | [d] => { results := [.lit (.bool true)], args := [d] }
  | _ => none }
def fnExactDecTickRow : OpenClaim := { program := "ytgpolgjhiknefaa", sum := "00d7c767c4b915665f5d2141832ebf00dce6f38dc1261e64e73805df26bab05d", func := "loop.example/g00600/laws.FnExactDecTick", spec := "fnExactDecTick", apart := false }
def FnExactDecTickSaid : Prop := fnExactDecTickRow.holds Try.pinned (OpenSpec.ofChange fnExactDecTickSpec)

/-- ITS FALSE NEIGHBOUR: 'it returns false'. Refute it at one input. -/
def fnExactDecTickWrong : ChangeSpec := { name := "fnExactDecTick", fn := fun _ => fun
  | [d] => { results := [.lit (.bool false)], args := [d] }
  | _ => none }
def FnExactDecTickWrongFalsely : Prop := fnExactDecTickRow.holds Try.pinned (OpenSpec.ofChange fnExactDecTickWrong)

/-- 'laws.FnDec': WHATEVER THE INPUT: true; the input reads as it did. -/
def fnDecSpec : ChangeSpec := { name := "fnDec", fn := fun _ => fun
  | [d] => { results := [.lit (.bool true)], args := [d] }
  | _ => none }
def fnDecRow : OpenClaim := { program := "ytgpolgjhiknefaa", sum := "00d7c767c4b915665f5d2141832ebf00dce6f38dc1261e64e73805df26bab05d", func := "loop.example/g00600/laws.FnDec", spec := "fnDec", apart := false }
def FnDecSaid : Prop := fnDecRow.holds Try.pinned (OpenSpec.ofChange fnDecSpec)

/-- ITS FALSE NEIGHBOUR: 'it returns false'. Refute it at one input. -/
def fnDecWrong : ChangeSpec := { name := "fnDec", fn := fun _ => fun
  | [d] => { results := [.lit (.bool false)], args := [d] }
  | _ => none }
def FnDecWrongFalsely : Prop := fnDecRow.holds Try.pinned (OpenSpec.ofChange fnDecWrong)

/-- 'laws.FnManyKeys': WHATEVER THE INPUT: true; the input reads as it did. -/
def fnManyKeysSpec : ChangeSpec := { name := "fnManyKeys", fn := fun _ => fun
  | [d] => { results := [.lit (.bool true)], args := [d] }
  | _ => none }
def fnManyKeysRow : OpenClaim := { program := "ytgpolgjhiknefaa", sum := "00d7c767c4b915665f5d2141832ebf00dce6f38dc1261e64e73805df26bab05d", func := "loop.example/g00600/laws.FnManyKeys", spec := "fnManyKeys", apart := false }
def FnManyKeysSaid : Prop := fnManyKeysRow.holds Try.pinned (OpenSpec.ofChange fnManyKeysSpec)

/-- ITS FALSE NEIGHBOUR: 'it returns false'. Refute it at one input. -/
def fnManyKeysWrong : ChangeSpec := { name := "fnManyKeys", fn := fun _ => fun
  | [d] => { results := [.lit (.bool false)], args := [d] }
  | _ => none }
def FnManyKeysWrongFalsely : Prop := fnManyKeysRow.holds Try.pinned (OpenSpec.ofChange fnManyKeysWrong)

/-- 'laws.FnExactDecByte': WHATEVER THE INPUT: true; the input reads as it did. -/
def fnExactDecByteSpec : ChangeSpec := { name := "fnExactDecByte", fn := fun _ => fun
  | [d1, d2] => { results := [.lit (.bool true)], args := [d1, d2] }
  | _ => none }
def fnExactDecByteRow : OpenClaim := { program := "ytgpolgjhiknefaa", sum := "00d7c767c4b915665f5d2141832ebf00dce6f38dc1261e64e73805df26bab05d", func := "loop.example/g00600/laws.FnExactDecByte", spec := "fnExactDecByte", apart := false }
def FnExactDecByteSaid : Prop := fnExactDecByteRow.holds Try.pinned (OpenSpec.ofChange fnExactDecByteSpec)

/-- ITS FALSE NEIGHBOUR: 'it returns false'. Refute it at one input. -/
def fnExactDecByteWrong : ChangeSpec := { name := "fnExactDecByte", fn := fun _ => fun
  | [d1, d2] => { results := [.lit (.bool false)], args := [d1, d2] }
  | _ => none }
def FnExactDecByteWrongFalsely : Prop := fnExactDecByteRow.holds Try.pinned (OpenSpec.ofChange fnExactDecByteWrong)

/-- 'laws.FnExactDecode': WHATEVER THE INPUT: true; the input reads as it did. -/
def fnExactDecodeSpec : ChangeSpec := { name := "fnExactDecode", fn := fun _ => fun
  | [d1, d2] => { results := [.lit (.bool true)], args := [d1, d2] }
  | _ => none }
def fnExactDecodeRow : OpenClaim := { program := "ytgpolgjhiknefaa", sum := "00d7c767c4b915665f5d2141832ebf00dce6f38dc1261e64e73805df26bab05d", func := "loop.example/g00600/laws.FnExactDecode", spec := "fnExactDecode", apart := false }
def FnExactDecodeSaid : Prop := fnExactDecodeRow.holds Try.pinned (OpenSpec.ofChange fnExactDecodeSpec)

/-- ITS FALSE NEIGHBOUR: 'it returns false'. Refute it at one input. -/
def fnExactDecodeWrong : ChangeSpec := { name := "fnExactDecode", fn := fun _ => fun
  | [d1, d2] => { results := [.lit (.bool false)], args := [d1, d2] }
  | _ => none }
def FnExactDecodeWrongFalsely : Prop := fnExactDecodeRow.holds Try.pinned (OpenSpec.ofChange fnExactDecodeWrong)

/- THE SECOND FORM. 'bulk': how many values and letters a reading holds, each counted each time it is reached (what is shared counts as often as it is met; a slice's spare places count too). A statement '..UptoSaid' is the law's where the arguments, and the package variables that the reading takes, are together of bulk at most 1048576: NARROWER than '..Said'. Prove '..Said' where nothing that the law and all that it calls make is longer than what came in: it says more and counts as full. Else prove '..UptoSaid'. A law counts once. -/
mutual
def uptoBulk {H : Type} : DataW H → Nat
  | .lit (.string bytes) => bytes.length + 1
  | .lit _ => 1
  | .nil => 1
  | .ptr d => uptoBulk d + 1
  | .slice elems spare => uptoBulkAll elems + uptoBulkAll spare + 1
  | .agg parts => uptoBulkAll parts + 1
  | .iface _ d => uptoBulk d + 1
  | .map entries => uptoBulkEntries entries + 1
  | .held _ => 1
def uptoBulkAll {H : Type} : List (DataW H) → Nat
  | [] => 0
  | d :: r => uptoBulk d + uptoBulkAll r
def uptoBulkEntries {H : Type} : List (Lit × DataW H) → Nat
  | [] => 0
  | x :: r => uptoBulkEntry x + uptoBulkEntries r
def uptoBulkEntry {H : Type} : Lit × DataW H → Nat
  | (.string bytes, d) => bytes.length + uptoBulk d + 1
  | (_, d) => uptoBulk d + 1
 end
def uptoSmall : (H : Type) → List (DataW H) → Bool := fun _ ds => decide (uptoBulkAll ds ≤ 1048576)
def OpenSpec.upto (s : _root_.Go.ChangeSpec) : _root_.Go.OpenSpec := { _root_.Go.OpenSpec.ofChange s with cond := some uptoSmall }

/-- 'laws.FnExactDecTick', WHERE WHAT IT READS IS OF BULK AT MOST 1048576: true; the input reads as it did. -/
def fnExactDecTickUptoRow : OpenClaim := { program := "ytgpolgjhiknefaa", sum := "00d7c767c4b915665f5d2141832ebf00dce6f38dc1261e64e73805df26bab05d", func := "loop.example/g00600/laws.FnExactDecTick", spec := "fnExactDecTick", apart := false, narrowed := true }
def FnExactDecTickUptoSaid : Prop := fnExactDecTickUptoRow.holds Try.pinned (OpenSpec.upto fnExactDecTickSpec)

/-- 'laws.FnDec', WHERE WHAT IT READS IS OF BULK AT MOST 1048576: true; the input reads as it did. -/
def fnDecUptoRow : OpenClaim := { program := "ytgpolgjhiknefaa", sum := "00d7c767c4b915665f5d2141832ebf00dce6f38dc1261e64e73805df26bab05d", func := "loop.example/g00600/laws.FnDec", spec := "fnDec", apart := false, narrowed := true }
def FnDecUptoSaid : Prop := fnDecUptoRow.holds Try.pinned (OpenSpec.upto fnDecSpec)

/-- 'laws.FnManyKeys', WHERE WHAT IT READS IS OF BULK AT MOST 1048576: true; the input reads as it did. -/
def fnManyKeysUptoRow : OpenClaim := { program := "ytgpolgjhiknefaa", sum := "00d7c767c4b915665f5d2141832ebf00dce6f38dc1261e64e73805df26bab05d", func := "loop.example/g00600/laws.FnManyKeys", spec := "fnManyKeys", apart := false, narrowed := true }
def FnManyKeysUptoSaid : Prop := fnManyKeysUptoRow.holds Try.pinned (OpenSpec.upto fnManyKeysSpec)

/-- 'laws.FnExactDecByte', WHERE WHAT IT READS IS OF BULK AT MOST 1048576: true; the input reads as it did. -/
def fnExactDecByteUptoRow : OpenClaim := { program := "ytgpolgjhiknefaa", sum := "00d7c767c4b915665f5d2141832ebf00dce6f38dc1261e64e73805df26bab05d", func := "loop.example/g00600/laws.FnExactDecByte", spec := "fnExactDecByte", apart := false, narrowed := true }
def FnExactDecByteUptoSaid : Prop := fnExactDecByteUptoRow.holds Try.pinned (OpenSpec.upto fnExactDecByteSpec)

/-- 'laws.FnExactDecode', WHERE WHAT IT READS IS OF BULK AT MOST 1048576: true; the input reads as it did. -/
def fnExactDecodeUptoRow : OpenClaim := { program := "ytgpolgjhiknefaa", sum := "00d7c767c4b915665f5d2141832ebf00dce6f38dc1261e64e73805df26bab05d", func := "loop.example/g00600/laws.FnExactDecode", spec := "fnExactDecode", apart := false, narrowed := true }
def FnExactDecodeUptoSaid : Prop := fnExactDecodeUptoRow.holds Try.pinned (OpenSpec.upto fnExactDecodeSpec)

end Rows
end Go.Proofs.Ytgpolgjhiknefaa
