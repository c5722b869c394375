/-
  No cell of these rows narrows 'for every input' (looked for: loops, veiled, ifaces, maps, wideKeys, modest, calm, conditions, laid).
  DERIVED. THE GIVEN ROWS OF THIS SEAT. 7 by the template 'for every input the law returns true; each argument reads behind the call as it read before'; 0 by the template 'total and deterministic' (their statements: YtlpgcohnjhomgaaGreatTotals.lean).
  GIVEN WITH THE SEED: the statements are not yours to turn. If you find one false, say at which input.
  Laid BY PROGRAM, IN A SANDBOX (cutbox-rows.mjs): the forced cells as the released guide's own fill.sh prints them over the translation 7d51b35e416580d2… (all of the seat's roots in one cut). By AI agents, Wed Nov 11 2026. No macro, syntax, notation, axiom, sorry.
-/
import Derived.Test.YtlpgcohnjhomgaaGreatChecked
import GoSem.Claim
import GoSem.ClaimJoined
import GoSem.ClaimMapViews
import Derived.JoinedTies
import Derived.KernelRfl
namespace Go.Proofs.YtlpgcohnjhomgaaGreat
/- THE CELL 'sum', in the pinned program and in every row, IS THE sha256 OF THE DUMP (.gsa) THAT YtlpgcohnjhomgaaGreatProg.lean LOADS. Nothing in Lean hashes anything: it is a label: what it is worth is what the hold of that sum in a sandbox is worth. -/
noncomputable def Tryz.pinned : Pinned := { name := "ytlpgcohnjhomgaagreat", sum := "7d51b35e416580d218ffd565ae006778327334a5520e8fa4cb46c055b63c0c31", checked := Tryz.checked }
namespace Rows
def none {H : Type} : Left H := { results := [], args := [] }

/-- 'laws.FnExactShowHit': WHATEVER THE INPUT: true; the input reads as it did. -/
def fnExactShowHitSpec : ChangeSpec := { name := "fnExactShowHit", fn := fun _ => fun
  | [d1, d2, d3, d4] => { results := [.lit (.bool true)], args := [d1, d2, d3, d4] }
  | _ => none }
def fnExactShowHitRow : OpenClaim := { program := "ytlpgcohnjhomgaagreat", sum := "7d51b35e416580d218ffd565ae006778327334a5520e8fa4cb46c055b63c0c31", func := "loop.example/g00600/laws.FnExactShowHit", spec := "fnExactShowHit", inPlace := ["internal/bytealg.IndexByteString", "internal/bytealg.IndexString"], named := ["internal/bytealg.MaxLen"], apart := false }
def FnExactShowHitSaid : Prop := fnExactShowHitRow.holds Tryz.pinned (OpenSpec.ofChange fnExactShowHitSpec)

/-- ITS FALSE NEIGHBOUR: 'it returns false'. Refute it at one input. -/
def fnExactShowHitWrong : ChangeSpec := { name := "fnExactShowHit", fn := fun _ => fun
  | [d1, d2, d3, d4] => { results := [.lit (.bool false)], args := [d1, d2, d3, d4] }
  | _ => none }
def FnExactShowHitWrongFalsely : Prop := fnExactShowHitRow.holds Tryz.pinned (OpenSpec.ofChange fnExactShowHitWrong)

/-- 'laws.FnExactSearchKey': WHATEVER THE INPUT: true; the input reads as it did. -/
def fnExactSearchKeySpec : ChangeSpec := { name := "fnExactSearchKey", fn := fun _ => fun
  | [d1, d2, d3] => { results := [.lit (.bool true)], args := [d1, d2, d3] }
  | _ => none }
def fnExactSearchKeyRow : OpenClaim := { program := "ytlpgcohnjhomgaagreat", sum := "7d51b35e416580d218ffd565ae006778327334a5520e8fa4cb46c055b63c0c31", func := "loop.example/g00600/laws.FnExactSearchKey", spec := "fnExactSearchKey", inPlace := ["internal/bytealg.IndexByteString", "internal/bytealg.IndexString"], named := ["internal/bytealg.MaxLen"], apart := false }
def FnExactSearchKeySaid : Prop := fnExactSearchKeyRow.holds Tryz.pinned (OpenSpec.ofChange fnExactSearchKeySpec)

/-- ITS FALSE NEIGHBOUR: 'it returns false'. Refute it at one input. -/
def fnExactSearchKeyWrong : ChangeSpec := { name := "fnExactSearchKey", fn := fun _ => fun
  | [d1, d2, d3] => { results := [.lit (.bool false)], args := [d1, d2, d3] }
  | _ => none }
def FnExactSearchKeyWrongFalsely : Prop := fnExactSearchKeyRow.holds Tryz.pinned (OpenSpec.ofChange fnExactSearchKeyWrong)

/-- 'laws.FnExactPlainKey': WHATEVER THE INPUT: true; the input reads as it did. -/
def fnExactPlainKeySpec : ChangeSpec := { name := "fnExactPlainKey", fn := fun _ => fun
  | [d1, d2, d3] => { results := [.lit (.bool true)], args := [d1, d2, d3] }
  | _ => none }
def fnExactPlainKeyRow : OpenClaim := { program := "ytlpgcohnjhomgaagreat", sum := "7d51b35e416580d218ffd565ae006778327334a5520e8fa4cb46c055b63c0c31", func := "loop.example/g00600/laws.FnExactPlainKey", spec := "fnExactPlainKey", apart := false }
def FnExactPlainKeySaid : Prop := fnExactPlainKeyRow.holds Tryz.pinned (OpenSpec.ofChange fnExactPlainKeySpec)

/-- ITS FALSE NEIGHBOUR: 'it returns false'. Refute it at one input. -/
def fnExactPlainKeyWrong : ChangeSpec := { name := "fnExactPlainKey", fn := fun _ => fun
  | [d1, d2, d3] => { results := [.lit (.bool false)], args := [d1, d2, d3] }
  | _ => none }
def FnExactPlainKeyWrongFalsely : Prop := fnExactPlainKeyRow.holds Tryz.pinned (OpenSpec.ofChange fnExactPlainKeyWrong)

/-- 'laws.FnType': WHATEVER THE INPUT: true; the input reads as it did. -/
def fnTypeSpec : ChangeSpec := { name := "fnType", fn := fun _ => fun
  | [d] => { results := [.lit (.bool true)], args := [d] }
  | _ => none }
def fnTypeRow : OpenClaim := { program := "ytlpgcohnjhomgaagreat", sum := "7d51b35e416580d218ffd565ae006778327334a5520e8fa4cb46c055b63c0c31", func := "loop.example/g00600/laws.FnType", spec := "fnType", inPlace := ["internal/bytealg.IndexByteString", "internal/bytealg.IndexString"], unfollowed := true, recurses := true, named := ["internal/bytealg.MaxLen"], apart := false }
def FnTypeSaid : Prop := fnTypeRow.holds Tryz.pinned (OpenSpec.ofChange fnTypeSpec)

/-- ITS FALSE NEIGHBOUR: 'it returns false'. Refute it at one input. -/
def fnTypeWrong : ChangeSpec := { name := "fnType", fn := fun _ => fun
  | [d] => { results := [.lit (.bool false)], args := [d] }
  | _ => none }
def FnTypeWrongFalsely : Prop := fnTypeRow.holds Tryz.pinned (OpenSpec.ofChange fnTypeWrong)

/-- 'laws.FnBell': WHATEVER THE INPUT: true; the input reads as it did. -/
def fnBellSpec : ChangeSpec := { name := "fnBell", fn := fun _ => fun
  | [d] => { results := [.lit (.bool true)], args := [d] }
  | _ => none }
def fnBellRow : OpenClaim := { program := "ytlpgcohnjhomgaagreat", sum := "7d51b35e416580d218ffd565ae006778327334a5520e8fa4cb46c055b63c0c31", func := "loop.example/g00600/laws.FnBell", spec := "fnBell", inPlace := ["internal/bytealg.IndexByteString", "internal/bytealg.IndexString"], unfollowed := true, recurses := true, named := ["internal/bytealg.MaxLen"], apart := false }
def FnBellSaid : Prop := fnBellRow.holds Tryz.pinned (OpenSpec.ofChange fnBellSpec)

/-- ITS FALSE NEIGHBOUR: 'it returns false'. Refute it at one input. -/
def fnBellWrong : ChangeSpec := { name := "fnBell", fn := fun _ => fun
  | [d] => { results := [.lit (.bool false)], args := [d] }
  | _ => none }
def FnBellWrongFalsely : Prop := fnBellRow.holds Tryz.pinned (OpenSpec.ofChange fnBellWrong)

/-- 'laws.FnExactEmacsKey': WHATEVER THE INPUT: true; the input reads as it did. -/
def fnExactEmacsKeySpec : ChangeSpec := { name := "fnExactEmacsKey", fn := fun _ => fun
  | [d1, d2, d3] => { results := [.lit (.bool true)], args := [d1, d2, d3] }
  | _ => none }
def fnExactEmacsKeyRow : OpenClaim := { program := "ytlpgcohnjhomgaagreat", sum := "7d51b35e416580d218ffd565ae006778327334a5520e8fa4cb46c055b63c0c31", func := "loop.example/g00600/laws.FnExactEmacsKey", spec := "fnExactEmacsKey", unfollowed := true, recurses := true, apart := false }
def FnExactEmacsKeySaid : Prop := fnExactEmacsKeyRow.holds Tryz.pinned (OpenSpec.ofChange fnExactEmacsKeySpec)

/-- ITS FALSE NEIGHBOUR: 'it returns false'. Refute it at one input. -/
def fnExactEmacsKeyWrong : ChangeSpec := { name := "fnExactEmacsKey", fn := fun _ => fun
  | [d1, d2, d3] => { results := [.lit (.bool false)], args := [d1, d2, d3] }
  | _ => none }
def FnExactEmacsKeyWrongFalsely : Prop := fnExactEmacsKeyRow.holds Tryz.pinned (OpenSpec.ofChange fnExactEmacsKeyWrong)

/-- 'laws.FnExactViKey': WHATEVER THE INPUT: true; the input reads as it did. -/
def fnExactViKeySpec : ChangeSpec := { name := "fnExactViKey", fn := fun _ => fun
  | [d1, d2, d3] => { results := [.lit (.bool true)], args := [d1, d2, d3] }
  | _ => none }
def fnExactViKeyRow : OpenClaim := { program := "ytlpgcohnjhomgaagreat", sum := "7d51b35e416580d218ffd565ae006778327334a5520e8fa4cb46c055b63c0c31", func := "loop.example/g00600/laws.FnExactViKey", spec := "fnExactViKey", unfollowed := true, recurses := true, apart := false }
def FnExactViKeySaid : Prop := fnExactViKeyRow.holds Tryz.pinned (OpenSpec.ofChange fnExactViKeySpec)

/-- ITS FALSE NEIGHBOUR: 'it returns false'. Refute it at one input. -/
def fnExactViKeyWrong : ChangeSpec := { name := "fnExactViKey", fn := fun _ => fun
  | [d1, d2, d3] => { results := [.lit (.bool false)], args := [d1, d2, d3] }
  | _ => none }
def FnExactViKeyWrongFalsely : Prop := fnExactViKeyRow.holds Tryz.pinned (OpenSpec.ofChange fnExactViKeyWrong)

/- THE SECOND FORM. 'bulk': how many values and letters a reading holds, each counted each time it is reached (what is shared counts as often as it is met; a slice's spare places count too). A statement '..UptoSaid' is the law's where the arguments, and the package variables that the reading takes, are together of bulk at most 1048576: NARROWER than '..Said'. Prove '..Said' where nothing that the law and all that it calls make is longer than what came in: it says more and counts as full. Else prove '..UptoSaid'. A law counts once. -/
mutual
def uptoBulk {H : Type} : DataW H → Nat
  | .lit (.string bytes) => bytes.length + 1
  | .lit _ => 1
  | .nil => 1
  | .ptr d => uptoBulk d + 1
  | .slice elems spare => uptoBulkAll elems + uptoBulkAll spare + 1
  | .agg parts => uptoBulkAll parts + 1
  | .iface _ d => uptoBulk d + 1
  | .map entries => uptoBulkEntries entries + 1
  | .held _ => 1
def uptoBulkAll {H : Type} : List (DataW H) → Nat
  | [] => 0
  | d :: r => uptoBulk d + uptoBulkAll r
def uptoBulkEntries {H : Type} : List (Lit × DataW H) → Nat
  | [] => 0
  | x :: r => uptoBulkEntry x + uptoBulkEntries r
def uptoBulkEntry {H : Type} : Lit × DataW H → Nat
  | (.string bytes, d) => bytes.length + uptoBulk d + 1
  | (_, d) => uptoBulk d + 1
 end
def uptoSmall : (H : Type) → List (DataW H) → Bool := fun _ ds => decide (uptoBulkAll ds ≤ 1048576)
def OpenSpec.upto (s : _root_.Go.ChangeSpec) : _root_.Go.OpenSpec := { _root_.Go.OpenSpec.ofChange s with cond := some uptoSmall }

/-- 'laws.FnExactShowHit', WHERE WHAT IT READS IS OF BULK AT MOST 1048576: true; the input reads as it did. -/
def fnExactShowHitUptoRow : OpenClaim := { program := "ytlpgcohnjhomgaagreat", sum := "7d51b35e416580d218ffd565ae006778327334a5520e8fa4cb46c055b63c0c31", func := "loop.example/g00600/laws.FnExactShowHit", spec := "fnExactShowHit", inPlace := ["internal/bytealg.IndexByteString", "internal/bytealg.IndexString"], named := ["internal/bytealg.MaxLen"], apart := false, narrowed := true }
def FnExactShowHitUptoSaid : Prop := fnExactShowHitUptoRow.holds Tryz.pinned (OpenSpec.upto fnExactShowHitSpec)

/-- 'laws.FnExactSearchKey', WHERE WHAT IT READS IS OF BULK AT MOST 1048576: true; the input reads as it did. -/
def fnExactSearchKeyUptoRow : OpenClaim := { program := "ytlpgcohnjhomgaagreat", sum := "7d51b35e416580d218ffd565ae006778327334a5520e8fa4cb46c055b63c0c31", func := "loop.example/g00600/laws.FnExactSearchKey", spec := "fnExactSearchKey", inPlace := ["internal/bytealg.IndexByteString", "internal/bytealg.IndexString"], named := ["internal/bytealg.MaxLen"], apart := false, narrowed := true }
def FnExactSearchKeyUptoSaid : Prop := fnExactSearchKeyUptoRow.holds Tryz.pinned (OpenSpec.upto fnExactSearchKeySpec)

/-- 'laws.FnExactPlainKey', WHERE WHAT IT READS IS OF BULK AT MOST 1048576: true; the input reads as it did. -/
def fnExactPlainKeyUptoRow : OpenClaim := { program := "ytlpgcohnjhomgaagreat", sum := "7d51b35e416580d218ffd565ae006778327334a5520e8fa4cb46c055b63c0c31", func := "loop.example/g00600/laws.FnExactPlainKey", spec := "fnExactPlainKey", apart := false, narrowed := true }
def FnExactPlainKeyUptoSaid : Prop := fnExactPlainKeyUptoRow.holds Tryz.pinned (OpenSpec.upto fnExactPlainKeySpec)

/-- 'laws.FnType', WHERE WHAT IT READS IS OF BULK AT MOST 1048576: true; the input reads as it did. -/
def fnTypeUptoRow : OpenClaim := { program := "ytlpgcohnjhomgaagreat", sum := "7d51b35e416580d218ffd565ae006778327334a5520e8fa4cb46c055b63c0c31", func := "loop.example/g00600/laws.FnType", spec := "fnType", inPlace := ["internal/bytealg.IndexByteString", "internal/bytealg.IndexString"], unfollowed := true, recurses := true, named := ["internal/bytealg.MaxLen"], apart := false, narrowed := true }
def FnTypeUptoSaid : Prop := fnTypeUptoRow.holds Tryz.pinned (OpenSpec.upto fnTypeSpec)

/-- 'laws.FnBell', WHERE WHAT IT READS IS OF BULK AT MOST 1048576: true; the input reads as it did. -/
def fnBellUptoRow : OpenClaim := { program := "ytlpgcohnjhomgaagreat", sum := "7d51b35e416580d218ffd565ae006778327334a5520e8fa4cb46c055b63c0c31", func := "loop.example/g00600/laws.FnBell", spec := "fnBell", inPlace := ["internal/bytealg.IndexByteString", "internal/bytealg.IndexString"], unfollowed := true, recurses := true, named := ["internal/bytealg.MaxLen"], apart := false, narrowed := true }
def FnBellUptoSaid : Prop := fnBellUptoRow.holds Tryz.pinned (OpenSpec.upto fnBellSpec)

/-- 'laws.FnExactEmacsKey', WHERE WHAT IT READS IS OF BULK AT MOST 1048576: true; the input reads as it did. -/
def fnExactEmacsKeyUptoRow : OpenClaim := { program := "ytlpgcohnjhomgaagreat", sum := "7d51b35e416580d218ffd565ae006778327334a5520e8fa4cb46c055b63c0c31", func := "loop.example/g00600/laws.FnExactEmacsKey", spec := "fnExactEmacsKey", unfollowed := true, recurses := true, apart := false, narrowed := true }
def FnExactEmacsKeyUptoSaid : Prop := fnExactEmacsKeyUptoRow.holds Tryz.pinned (OpenSpec.upto fnExactEmacsKeySpec)

/-- 'laws.FnExactViKey', WHERE WHAT IT READS IS OF BULK AT MOST 1048576: true; the input reads as it did. -/
def fnExactViKeyUptoRow : OpenClaim := { program := "ytlpgcohnjhomgaagreat", sum := "7d51b35e416580d218ffd565ae006778327334a5520e8fa4cb46c055b63c0c31", func := "loop.example/g00600/laws.FnExactViKey", spec := "fnExactViKey", unfollowed := true, recurses := true, apart := false, narrowed := true }
def FnExactViKeyUptoSaid : Prop := fnExactViKeyUptoRow.holds Tryz.pinned (OpenSpec.upto fnExactViKeySpec)

end Rows
end Go.Proofs.YtlpgcohnjhomgaaGreat
