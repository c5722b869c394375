/-
  NARROWER THAN 'FOR EVERY INPUT', by the rows' own cells (each row's printed sentence says how): FnExactOpens: laid · FnExactRedirects: laid · FnExactReserved: laid · FnExactBodyEnd: laid · FnExactOpAt: laid.
  DERIVED. THE GIVEN ROWS OF THIS SEAT. 5 by the template 'for every input the law returns true; each argument reads behind the call as it read before'; 0 by the template 'total and deterministic' (their statements: YtmgjbhlcejcjeaaDoorTotals.lean).
  GIVEN WITH THE SEED: the statements are not yours to turn. If you find one false, say at which input.
  Laid BY PROGRAM, IN A SANDBOX (cutbox-rows.mjs): the forced cells as the released guide's own fill.sh prints them over the translation 15de6e3cbd092af3… (all of the seat's roots in one cut). By AI agents, Wed Nov 11 2026. No macro, syntax, notation, axiom, sorry.
-/
import Derived.Test.YtmgjbhlcejcjeaaDoorChecked
import GoSem.PinnedTables
import GoSem.Claim
import GoSem.ClaimJoined
import GoSem.ClaimMapViews
import Derived.JoinedTies
import Derived.KernelRfl
namespace Go.Proofs.YtmgjbhlcejcjeaaDoor
/- THE CELL 'sum', in the pinned program and in every row, IS THE sha256 OF THE DUMP (.gsa) THAT YtmgjbhlcejcjeaaDoorProg.lean LOADS. Nothing in Lean hashes anything: it is a label: what it is worth is what the hold of that sum in a sandbox is worth. -/
noncomputable def Tryd.pinned : Pinned := { name := "ytmgjbhlcejcjeaadoor", sum := "15de6e3cbd092af37781506b4edfa5d09d99159450be2b749283e86b7fe0e895", checked := Tryd.checked }
namespace Rows
def none {H : Type} : Left H := { results := [], args := [] }

/- WHAT THE LISTED PACKAGE-LEVEL VARIABLES READ AS WHEN THE CALL BEGINS. Each datum BY PROGRAM (the guide's laid-datum.mjs) off the statement by which the dump's own 'gosem.cut.vars' lays the variable. In a bare row this is a premise. The card (YtmgjbhlcejcjeaaDoorCards.lean) ties it to the program's text. -/
def laid_unicode_utf8_acceptRanges {H : Type} : DataW H := .agg [.agg [.lit (.int .u8 128), .lit (.int .u8 191)], .agg [.lit (.int .u8 160), .lit (.int .u8 191)], .agg [.lit (.int .u8 128), .lit (.int .u8 159)], .agg [.lit (.int .u8 144), .lit (.int .u8 191)], .agg [.lit (.int .u8 128), .lit (.int .u8 143)], .agg [.lit (.int .u8 0), .lit (.int .u8 0)], .agg [.lit (.int .u8 0), .lit (.int .u8 0)], .agg [.lit (.int .u8 0), .lit (.int .u8 0)], .agg [.lit (.int .u8 0), .lit (.int .u8 0)], .agg [.lit (.int .u8 0), .lit (.int .u8 0)], .agg [.lit (.int .u8 0), .lit (.int .u8 0)], .agg [.lit (.int .u8 0), .lit (.int .u8 0)], .agg [.lit (.int .u8 0), .lit (.int .u8 0)], .agg [.lit (.int .u8 0), .lit (.int .u8 0)], .agg [.lit (.int .u8 0), .lit (.int .u8 0)], .agg [.lit (.int .u8 0), .lit (.int .u8 0)]]
/-- One of Go's own tables, pinned by name: the form's constant. -/
def laid_unicode_utf8_first : DataW Unit := Go.Pinned.utf8First

/-- 'laws.FnExactOpens': WHATEVER THE INPUT: true; the input reads as it did. -/
def fnExactOpensSpec : ChangeSpec := { name := "fnExactOpens", fn := fun _ => fun
  | [d] => { results := [.lit (.bool true)], args := [d] }
  | _ => none }
def fnExactOpensRow : OpenClaim := { program := "ytmgjbhlcejcjeaadoor", sum := "15de6e3cbd092af37781506b4edfa5d09d99159450be2b749283e86b7fe0e895", func := "loop.example/g00600/laws.FnExactOpens", spec := "fnExactOpens", inPlace := ["internal/bytealg.CountString", "internal/bytealg.IndexByteString", "internal/bytealg.IndexString"], named := ["unicode/utf8.first", "unicode/utf8.acceptRanges", "internal/bytealg.MaxLen"], apart := false, laid := [("unicode/utf8.acceptRanges", laid_unicode_utf8_acceptRanges), ("unicode/utf8.first", laid_unicode_utf8_first)] }
def FnExactOpensSaid : Prop := fnExactOpensRow.holds Tryd.pinned (OpenSpec.ofChange fnExactOpensSpec)

/-- ITS FALSE NEIGHBOUR: 'it returns false'. Refute it at one input. -/
def fnExactOpensWrong : ChangeSpec := { name := "fnExactOpens", fn := fun _ => fun
  | [d] => { results := [.lit (.bool false)], args := [d] }
  | _ => none }
def FnExactOpensWrongFalsely : Prop := fnExactOpensRow.holds Tryd.pinned (OpenSpec.ofChange fnExactOpensWrong)

/-- 'laws.FnExactRedirects': WHATEVER THE INPUT: true; the input reads as it did. -/
def fnExactRedirectsSpec : ChangeSpec := { name := "fnExactRedirects", fn := fun _ => fun
  | [d] => { results := [.lit (.bool true)], args := [d] }
  | _ => none }
def fnExactRedirectsRow : OpenClaim := { program := "ytmgjbhlcejcjeaadoor", sum := "15de6e3cbd092af37781506b4edfa5d09d99159450be2b749283e86b7fe0e895", func := "loop.example/g00600/laws.FnExactRedirects", spec := "fnExactRedirects", inPlace := ["internal/bytealg.CountString", "internal/bytealg.IndexByteString", "internal/bytealg.IndexString"], named := ["unicode/utf8.first", "unicode/utf8.acceptRanges", "internal/bytealg.MaxLen"], apart := false, laid := [("unicode/utf8.acceptRanges", laid_unicode_utf8_acceptRanges), ("unicode/utf8.first", laid_unicode_utf8_first)] }
def FnExactRedirectsSaid : Prop := fnExactRedirectsRow.holds Tryd.pinned (OpenSpec.ofChange fnExactRedirectsSpec)

/-- ITS FALSE NEIGHBOUR: 'it returns false'. Refute it at one input. -/
def fnExactRedirectsWrong : ChangeSpec := { name := "fnExactRedirects", fn := fun _ => fun
  | [d] => { results := [.lit (.bool false)], args := [d] }
  | _ => none }
def FnExactRedirectsWrongFalsely : Prop := fnExactRedirectsRow.holds Tryd.pinned (OpenSpec.ofChange fnExactRedirectsWrong)

/-- 'laws.FnExactReserved': WHATEVER THE INPUT: true; the input reads as it did. -/
def fnExactReservedSpec : ChangeSpec := { name := "fnExactReserved", fn := fun _ => fun
  | [d] => { results := [.lit (.bool true)], args := [d] }
  | _ => none }
def fnExactReservedRow : OpenClaim := { program := "ytmgjbhlcejcjeaadoor", sum := "15de6e3cbd092af37781506b4edfa5d09d99159450be2b749283e86b7fe0e895", func := "loop.example/g00600/laws.FnExactReserved", spec := "fnExactReserved", inPlace := ["internal/bytealg.CountString", "internal/bytealg.IndexByteString", "internal/bytealg.IndexString"], named := ["unicode/utf8.first", "unicode/utf8.acceptRanges", "internal/bytealg.MaxLen"], apart := false, laid := [("unicode/utf8.acceptRanges", laid_unicode_utf8_acceptRanges), ("unicode/utf8.first", laid_unicode_utf8_first)] }
def FnExactReservedSaid : Prop := fnExactReservedRow.holds Tryd.pinned (OpenSpec.ofChange fnExactReservedSpec)

/-- ITS FALSE NEIGHBOUR: 'it returns false'. Refute it at one input. -/
def fnExactReservedWrong : ChangeSpec := { name := "fnExactReserved", fn := fun _ => fun
  | [d] => { results := [.lit (.bool false)], args := [d] }
  | _ => none }
def FnExactReservedWrongFalsely : Prop := fnExactReservedRow.holds Tryd.pinned (OpenSpec.ofChange fnExactReservedWrong)

/-- 'laws.FnExactBodyEnd': WHATEVER THE INPUT: true; the input reads as it did. -/
def fnExactBodyEndSpec : ChangeSpec := { name := "fnExactBodyEnd", fn := fun _ => fun
  | [d1, d2, d3, d4] => { results := [.lit (.bool true)], args := [d1, d2, d3, d4] }
  | _ => none }
def fnExactBodyEndRow : OpenClaim := { program := "ytmgjbhlcejcjeaadoor", sum := "15de6e3cbd092af37781506b4edfa5d09d99159450be2b749283e86b7fe0e895", func := "loop.example/g00600/laws.FnExactBodyEnd", spec := "fnExactBodyEnd", inPlace := ["internal/bytealg.IndexByteString", "internal/bytealg.IndexString"], named := ["unicode/utf8.first", "unicode/utf8.acceptRanges", "internal/bytealg.MaxLen"], apart := false, laid := [("unicode/utf8.acceptRanges", laid_unicode_utf8_acceptRanges), ("unicode/utf8.first", laid_unicode_utf8_first)] }
def FnExactBodyEndSaid : Prop := fnExactBodyEndRow.holds Tryd.pinned (OpenSpec.ofChange fnExactBodyEndSpec)

/-- ITS FALSE NEIGHBOUR: 'it returns false'. Refute it at one input. -/
def fnExactBodyEndWrong : ChangeSpec := { name := "fnExactBodyEnd", fn := fun _ => fun
  | [d1, d2, d3, d4] => { results := [.lit (.bool false)], args := [d1, d2, d3, d4] }
  | _ => none }
def FnExactBodyEndWrongFalsely : Prop := fnExactBodyEndRow.holds Tryd.pinned (OpenSpec.ofChange fnExactBodyEndWrong)

/-- 'laws.FnExactOpAt': WHATEVER THE INPUT: true; the input reads as it did. -/
def fnExactOpAtSpec : ChangeSpec := { name := "fnExactOpAt", fn := fun _ => fun
  | [d1, d2] => { results := [.lit (.bool true)], args := [d1, d2] }
  | _ => none }
def fnExactOpAtRow : OpenClaim := { program := "ytmgjbhlcejcjeaadoor", sum := "15de6e3cbd092af37781506b4edfa5d09d99159450be2b749283e86b7fe0e895", func := "loop.example/g00600/laws.FnExactOpAt", spec := "fnExactOpAt", inPlace := ["internal/bytealg.CountString", "internal/bytealg.IndexByteString", "internal/bytealg.IndexString"], named := ["unicode/utf8.first", "unicode/utf8.acceptRanges", "internal/bytealg.MaxLen"], apart := false, laid := [("unicode/utf8.acceptRanges", laid_unicode_utf8_acceptRanges), ("unicode/utf8.first", laid_unicode_utf8_first)] }
def FnExactOpAtSaid : Prop := fnExactOpAtRow.holds Tryd.pinned (OpenSpec.ofChange fnExactOpAtSpec)

/-- ITS FALSE NEIGHBOUR: 'it returns false'. Refute it at one input. -/
def fnExactOpAtWrong : ChangeSpec := { name := "fnExactOpAt", fn := fun _ => fun
  | [d1, d2] => { results := [.lit (.bool false)], args := [d1, d2] }
  | _ => none }
def FnExactOpAtWrongFalsely : Prop := fnExactOpAtRow.holds Tryd.pinned (OpenSpec.ofChange fnExactOpAtWrong)

/- THE SECOND FORM. 'bulk': how many values and letters a reading holds, each counted each time it is reached (what is shared counts as often as it is met; a slice's spare places count too). A statement '..UptoSaid' is the law's where the arguments, and the package variables that the reading takes, are together of bulk at most 1048576: NARROWER than '..Said'. Prove '..Said' where nothing that the law and all that it calls make is longer than what came in: it says more and counts as full. Else prove '..UptoSaid'. A law counts once. -/
mutual
def uptoBulk {H : Type} : DataW H → Nat
  | .lit (.string bytes) => bytes.length + 1
  | .lit _ => 1
  | .nil => 1
  | .ptr d => uptoBulk d + 1
  | .slice elems spare => uptoBulkAll elems + uptoBulkAll spare + 1
  | .agg parts => uptoBulkAll parts + 1
  | .iface _ d => uptoBulk d + 1
  | .map entries => uptoBulkEntries entries + 1
  | .held _ => 1
def uptoBulkAll {H : Type} : List (DataW H) → Nat
  | [] => 0
  | d :: r => uptoBulk d + uptoBulkAll r
def uptoBulkEntries {H : Type} : List (Lit × DataW H) → Nat
  | [] => 0
  | x :: r => uptoBulkEntry x + uptoBulkEntries r
def uptoBulkEntry {H : Type} : Lit × DataW H → Nat
  | (.string bytes, d) => bytes.length + uptoBulk d + 1
  | (_, d) => uptoBulk d + 1
 end
def uptoSmall : (H : Type) → List (DataW H) → Bool := fun _ ds => decide (uptoBulkAll ds ≤ 1048576)
def OpenSpec.upto (s : _root_.Go.ChangeSpec) : _root_.Go.OpenSpec := { _root_.Go.OpenSpec.ofChange s with cond := some uptoSmall }

/-- 'laws.FnExactOpens', WHERE WHAT IT READS IS OF BULK AT MOST 1048576: true; the input reads as it did. -/
def fnExactOpensUptoRow : OpenClaim := { program := "ytmgjbhlcejcjeaadoor", sum := "15de6e3cbd092af37781506b4edfa5d09d99159450be2b749283e86b7fe0e895", func := "loop.example/g00600/laws.FnExactOpens", spec := "fnExactOpens", inPlace := ["internal/bytealg.CountString", "internal/bytealg.IndexByteString", "internal/bytealg.IndexString"], named := ["unicode/utf8.first", "unicode/utf8.acceptRanges", "internal/bytealg.MaxLen"], apart := false, laid := [("unicode/utf8.acceptRanges", laid_unicode_utf8_acceptRanges), ("unicode/utf8.first", laid_unicode_utf8_first)], narrowed := true }
def FnExactOpensUptoSaid : Prop := fnExactOpensUptoRow.holds Tryd.pinned (OpenSpec.upto fnExactOpensSpec)

/-- 'laws.FnExactRedirects', WHERE WHAT IT READS IS OF BULK AT MOST 1048576: true; the input reads as it did. -/
def fnExactRedirectsUptoRow : OpenClaim := { program := "ytmgjbhlcejcjeaadoor", sum := "15de6e3cbd092af37781506b4edfa5d09d99159450be2b749283e86b7fe0e895", func := "loop.example/g00600/laws.FnExactRedirects", spec := "fnExactRedirects", inPlace := ["internal/bytealg.CountString", "internal/bytealg.IndexByteString", "internal/bytealg.IndexString"], named := ["unicode/utf8.first", "unicode/utf8.acceptRanges", "internal/bytealg.MaxLen"], apart := false, laid := [("unicode/utf8.acceptRanges", laid_unicode_utf8_acceptRanges), ("unicode/utf8.first", laid_unicode_utf8_first)], narrowed := true }
def FnExactRedirectsUptoSaid : Prop := fnExactRedirectsUptoRow.holds Tryd.pinned (OpenSpec.upto fnExactRedirectsSpec)

/-- 'laws.FnExactReserved', WHERE WHAT IT READS IS OF BULK AT MOST 1048576: true; the input reads as it did. -/
def fnExactReservedUptoRow : OpenClaim := { program := "ytmgjbhlcejcjeaadoor", sum := "15de6e3cbd092af37781506b4edfa5d09d99159450be2b749283e86b7fe0e895", func := "loop.example/g00600/laws.FnExactReserved", spec := "fnExactReserved", inPlace := ["internal/bytealg.CountString", "internal/bytealg.IndexByteString", "internal/bytealg.IndexString"], named := ["unicode/utf8.first", "unicode/utf8.acceptRanges", "internal/bytealg.MaxLen"], apart := false, laid := [("unicode/utf8.acceptRanges", laid_unicode_utf8_acceptRanges), ("unicode/utf8.first", laid_unicode_utf8_first)], narrowed := true }
def FnExactReservedUptoSaid : Prop := fnExactReservedUptoRow.holds Tryd.pinned (OpenSpec.upto fnExactReservedSpec)

/-- 'laws.FnExactBodyEnd', WHERE WHAT IT READS IS OF BULK AT MOST 1048576: true; the input reads as it did. -/
def fnExactBodyEndUptoRow : OpenClaim := { program := "ytmgjbhlcejcjeaadoor", sum := "15de6e3cbd092af37781506b4edfa5d09d99159450be2b749283e86b7fe0e895", func := "loop.example/g00600/laws.FnExactBodyEnd", spec := "fnExactBodyEnd", inPlace := ["internal/bytealg.IndexByteString", "internal/bytealg.IndexString"], named := ["unicode/utf8.first", "unicode/utf8.acceptRanges", "internal/bytealg.MaxLen"], apart := false, laid := [("unicode/utf8.acceptRanges", laid_unicode_utf8_acceptRanges), ("unicode/utf8.first", laid_unicode_utf8_first)], narrowed := true }
def FnExactBodyEndUptoSaid : Prop := fnExactBodyEndUptoRow.holds Tryd.pinned (OpenSpec.upto fnExactBodyEndSpec)

/-- 'laws.FnExactOpAt', WHERE WHAT IT READS IS OF BULK AT MOST 1048576: true; the input reads as it did. -/
def fnExactOpAtUptoRow : OpenClaim := { program := "ytmgjbhlcejcjeaadoor", sum := "15de6e3cbd092af37781506b4edfa5d09d99159450be2b749283e86b7fe0e895", func := "loop.example/g00600/laws.FnExactOpAt", spec := "fnExactOpAt", inPlace := ["internal/bytealg.CountString", "internal/bytealg.IndexByteString", "internal/bytealg.IndexString"], named := ["unicode/utf8.first", "unicode/utf8.acceptRanges", "internal/bytealg.MaxLen"], apart := false, laid := [("unicode/utf8.acceptRanges", laid_unicode_utf8_acceptRanges), ("unicode/utf8.first", laid_unicode_utf8_first)], narrowed := true }
def FnExactOpAtUptoSaid : Prop := fnExactOpAtUptoRow.holds Tryd.pinned (OpenSpec.upto fnExactOpAtSpec)

end Rows
end Go.Proofs.YtmgjbhlcejcjeaaDoor
